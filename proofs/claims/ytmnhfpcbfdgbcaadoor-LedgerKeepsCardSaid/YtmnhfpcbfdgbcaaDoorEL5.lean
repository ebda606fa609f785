/- Bytes and readers, in plain Lean. -/
import Derived.Test.YtmnhfpcbfdgbcaaDoorEU1
import Derived.Test.YtmnhfpcbfdgbcaaDoorEngX4
import Derived.Test.YtmnhfpcbfdgbcaaDoorEL4
namespace Go.Proofs.YtmnhfpcbfdgbcaaDoor.Eng.A
set_option linter.unusedVariables false
set_option linter.unusedSimpArgs false
open Go.RowKit Go.Proofs.YtmnhfpcbfdgbcaaDoor.Plain Go.Proofs.YtmnhfpcbfdgbcaaDoor.Eng Go.Proofs.YtmnhfpcbfdgbcaaDoor.Eng.Pk Go.Proofs.YtmnhfpcbfdgbcaaDoor.Eng.Rd

theorem oNum_t {l : List Int} {n : Int} (h : Wrd l.length) (h2 : U64 n) : oNum l n = some (l ++ vb n.toNat) := grd_t ⟨h, h2⟩ _
theorem oByte_t {l : List Int} {n : Int} (h : Wrd l.length) : oByte l n = some (l ++ [n]) := grd_t h _
def bsB (m : List Int) : List Int := vb m.length ++ m
theorem oBytes_t {l m : List Int} (h : Wrd (l.length + m.length)) : oBytes l m = some (l ++ bsB m) := grd_t h _
theorem u64_nat {n : Int} (h : U64 n) : n.toNat < 18446744073709551616 := by have := h.1; have := h.2; omega
theorem vb_le {n : Int} (h : U64 n) : (vb n.toNat).length ≤ 10 := (vb_len10 (u64_nat h)).2
theorem bsB_le {m : List Int} (h : m.length ≤ 100000) : (bsB m).length ≤ 100010 := by
  unfold bsB; rw [List.length_append]
  have := (vb_len10 (n := m.length) (by omega)).2; omega
theorem foldl_app {A : Type} (f : A → List Int) : ∀ (l : List A) (s : List Int), l.foldl (fun s c => s ++ f c) s = s ++ l.flatMap f
  | [], s => by simp
  | a :: l, s => by simp [foldl_app f l]
theorem num_sub (m : Nat) (l : List Int) (b : Bool) : ∃ k, (rdNum m l b).2.1 = l.drop k := by
  unfold rdNum; split
  · exact ⟨_, rfl⟩
  · exact ⟨l.length, by simp⟩
theorem byte_sub (l : List Int) (b : Bool) : ∃ k, (rdByte l b).2.1 = l.drop k := ⟨1, by simp [rdByte]⟩
theorem bytes_sub (m : Nat) (l : List Int) (b : Bool) : ∃ k, (rdBytes m l b).2.1 = l.drop k := by
  unfold rdBytes; split
  · obtain ⟨k, hk⟩ := num_sub m l b
    exact ⟨_, by rw [hk, List.drop_drop]⟩
  · exact ⟨l.length, by simp⟩
theorem rdok_sub {r : Rdr} (h : RdOk r) {l : List Int} {b : Bool} (hl : ∃ k, l = r.b_.drop k) : RdOk ⟨l, b⟩ := by
  obtain ⟨k, rfl⟩ := hl
  exact ⟨h.1.drop k, by have := h.2; show (r.b_.drop k).length ≤ _; rw [List.length_drop]; omega⟩
theorem rdok_num {r : Rdr} (h : RdOk r) (m : Nat) : RdOk (rdr (rdNum m r.b_ r.wrong_).2) := rdok_sub h (num_sub _ _ _)
theorem rdok_byte {r : Rdr} (h : RdOk r) : RdOk (rdr (rdByte r.b_ r.wrong_).2) := rdok_sub h (byte_sub _ _)
theorem rdok_bytes {r : Rdr} (h : RdOk r) (m : Nat) : RdOk (rdr (rdBytes m r.b_ r.wrong_).2) := rdok_sub h (bytes_sub _ _ _)
theorem byte_rg {r : Rdr} (h : RdOk r) (b : Bool) : 0 ≤ (rdByte r.b_ b).1 ∧ (rdByte r.b_ b).1 < 256 := by
  obtain ⟨l, w⟩ := r
  cases l with
  | nil => simp [rdByte]
  | cons c t => exact h.1 c (List.mem_cons_self)
theorem oRNum_t {r : Rdr} (h : RdOk r) {m : Int} (hm : U64 m) : oRNum r m = some (((rdNum m.toNat r.b_ r.wrong_).1 : Int), rdr (rdNum m.toNat r.b_ r.wrong_).2) := grd_t ⟨h, hm⟩ _
theorem oRBytes_t {r : Rdr} (h : RdOk r) {m : Int} (hm : I64 m) : oRBytes r m = some ((rdBytes m.toNat r.b_ r.wrong_).1, rdr (rdBytes m.toNat r.b_ r.wrong_).2) := grd_t ⟨h, hm⟩ _
theorem oDNum_t {r : Rdr} (h : RdOk r) {m : Int} (hm : U64 m) : oDNum r m = some (rdr (rdNum m.toNat r.b_ false).2, ((rdNum m.toNat r.b_ false).1 : Int)) := grd_t ⟨h, hm⟩ _
theorem oDBytes_t {r : Rdr} (h : RdOk r) {m : Int} (hm : I64 m) : oDBytes r m = some (rdr (rdBytes m.toNat r.b_ false).2, (rdBytes m.toNat r.b_ false).1) := grd_t ⟨h, hm⟩ _
theorem rdok_f {r : Rdr} (h : RdOk r) : RdOk ⟨r.b_, false⟩ := ⟨h.1, h.2⟩
theorem strOf_sz {m : Nat} {l : List Int} (h : l.length ≤ m) : (strOf l).size ≤ m := by rw [strOf_size]; exact h
theorem num_lim (m : Nat) (l : List Int) (b : Bool) : 0 ≤ (((rdNum m l b).1 : Nat) : Int) ∧ (((rdNum m l b).1 : Nat) : Int) ≤ (m : Int) := by
  have := (rdNum_le m l b).1; omega
theorem num_back {n : Int} {m : Nat} (h : U64 n) (hm : n ≤ (m : Int)) (t : List Int) : rdNum m (vb n.toNat ++ t) false = (n.toNat, t, false) := rdNum_vb (u64_nat h) (by have := h.1; omega) t false
theorem bytes_back {s : ByteArray} {m : Nat} (h : s.size ≤ m) (hm : m < 18446744073709551616) (t : List Int) : rdBytes m (bsB (bytesOf s) ++ t) false = (bytesOf s, t, false) := by
  unfold bsB; rw [List.append_assoc]
  exact rdBytes_vb (by rw [bytesOf_length]; exact h) (by rw [bytesOf_length]; omega) false
theorem str_eq {a b : List Int} (ha : Bts a) (hb : Bts b) : strOf a = strOf b ↔ a = b := ⟨fun h => by rw [← bytesOf_strOf ha, ← bytesOf_strOf hb, h], fun h => by rw [h]⟩

/-! ### Numbers have one form -/
theorem vgl_canon : ∀ (l : List Int) (i v : Nat) {x n : Nat}, Bts l → vgl l i v = (x, n, none) → ∃ m, x = v + m * 128 ^ i ∧ l.take (n - i) = vb m ∧ (0 < i → 0 < m) ∧ i < n
  | [], i, v, x, n, _, h => by simp [vgl] at h
  | c :: t, i, v, x, n, hb, h => by
    have hc := hb c (List.mem_cons_self)
    rw [vgl] at h
    split at h
    · simp at h
    · split at h
      · simp at h
      · rename_i h1 h2
        split at h
        · rename_i h3
          simp only [Prod.mk.injEq, and_true] at h
          obtain ⟨rfl, rfl⟩ := h
          refine ⟨c.toNat, rfl, ?_, fun hi => by omega, by omega⟩
          rw [show i + 1 - i = 1 by omega, List.take_succ_cons, List.take_zero, vb_small (by omega)]
          congr 1; omega
        · rename_i h3
          obtain ⟨m, e1, e2, e3, e4⟩ := vgl_canon t (i + 1) _ (fun y hy => hb y (List.mem_cons_of_mem _ hy)) h
          have hm := e3 (by omega)
          refine ⟨m * 128 + (c.toNat - 128), ?_, ?_, fun _ => by omega, by omega⟩
          · rw [e1, Nat.pow_succ, Nat.add_mul, Nat.mul_assoc, Nat.mul_comm 128 (128 ^ i)]; omega
          · rw [show n - i = (n - (i + 1)) + 1 by omega, List.take_succ_cons, e2, vb_big (n := m * 128 + (c.toNat - 128)) (by omega)]
            congr 1
            · have : (m * 128 + (c.toNat - 128)) % 128 = c.toNat - 128 := by omega
              rw [this]; omega
            · congr 1; omega
theorem vget_canon {l : List Int} {x n : Nat} (hb : Bts l) (h : vget l = (x, n, none)) : l = vb x ++ l.drop n := by
  obtain ⟨m, e1, e2, _, _⟩ := vgl_canon l 0 0 hb h
  have : x = m := by simpa using e1
  subst this
  rw [Nat.sub_zero] at e2
  rw [← e2, List.take_append_drop]
theorem num_canon {m : Nat} {l : List Int} {b : Bool} (hb : Bts l) (h : (rdNum m l b).2.2 = false) : b = false ∧ l = vb (rdNum m l b).1 ++ (rdNum m l b).2.1 ∧ (rdNum m l b).1 ≤ m := by
  unfold rdNum at h ⊢
  split at h
  · rename_i hc
    rw [if_pos hc]
    refine ⟨h, ?_, hc.2⟩
    rcases hv : vget l with ⟨x, n, o⟩
    rw [hv] at hc
    obtain rfl : o = none := hc.1
    exact vget_canon hb hv
  · simp at h
theorem byte_canon {l : List Int} {b : Bool} (h : (rdByte l b).2.2 = false) : b = false ∧ l = (rdByte l b).1 :: (rdByte l b).2.1 := by
  cases l with
  | nil => simp [rdByte] at h
  | cons c t => simp [rdByte] at h ⊢; exact h
theorem bytes_canon {m : Nat} {l : List Int} {b : Bool} (hb : Bts l) (h : (rdBytes m l b).2.2 = false) : b = false ∧ l = bsB (rdBytes m l b).1 ++ (rdBytes m l b).2.1 ∧ (rdBytes m l b).1.length ≤ m := by
  have hle := (rdBytes_le m l b).1
  unfold rdBytes at h hle ⊢
  split at h
  · rename_i hc
    rw [if_pos hc] at hle ⊢
    obtain ⟨h1, h2, h3⟩ := num_canon hb h
    refine ⟨h1, ?_, hle⟩
    show l = bsB (List.take _ _) ++ List.drop _ _
    unfold bsB
    rw [List.length_take, Nat.min_eq_left hc, List.append_assoc, List.take_append_drop]
    exact h2
  · simp at h
end Go.Proofs.YtmnhfpcbfdgbcaaDoor.Eng.A

/- Lists and readers, in plain Lean: what the laws share. -/
namespace Go.Proofs.YtmnhfpcbfdgbcaaDoor.Eng.A
set_option linter.unusedVariables false
set_option linter.unusedSimpArgs false
open Go.RowKit Go.Proofs.YtmnhfpcbfdgbcaaDoor.Plain Go.Proofs.YtmnhfpcbfdgbcaaDoor.Eng Go.Proofs.YtmnhfpcbfdgbcaaDoor.Eng.Pk Go.Proofs.YtmnhfpcbfdgbcaaDoor.Eng.Rd

theorem lp_find {A : Type} {V : Type} {l : List A} {body : Int → Option (Int ⊕ (V ⊕ Unit))} (p : A → Bool) (v : Nat → V) {fl : Nat}
    (hb : ∀ (i : Nat) (x : A), l[i]? = some x → body (i : Int) = ifb (p x) (some (.inr (.inl (v i)))) (some (.inl ((i + 1 : Nat) : Int)))) (he : body (l.length : Int) = some (.inr (.inr ()))) (hf : l.length < fl) :
    (l.any p = false ∧ lp body fl 0 = some (.inr ())) ∨ (l.any p = true ∧ ∃ i, lp body fl 0 = some (.inl (v i))) := by
  have hn : ∀ (i : Nat) (x : A), l[i]? = some x → p x = false → body (i : Int) = some (.inl ((i + 1 : Nat) : Int)) := fun i x hx hp => by rw [hb i x hx, hp, ifb_0]
  cases ha : l.any p with
  | false => exact .inl ⟨rfl, lp_none (body := body) (fun i => ((i : Nat) : Int)) p ha hn he hf⟩
  | true =>
    obtain ⟨i, x, _, _, h3⟩ := lp_hit (body := body) (fun i => ((i : Nat) : Int)) p (fun i _ => Sum.inl (v i)) ha hn (fun i x hx hp => by rw [hb i x hx, hp, ifb_1]) hf
    exact .inr ⟨rfl, i, h3⟩
theorem lp_find2 {A : Type} {V : Type} {l : List A} {body : Int → Option (Int ⊕ (V ⊕ Unit))} (p : A → Bool) (v : Int → V) {fl : Nat}
    (hb : ∀ t, body t = ifb (decide (t < (l.length : Int))) (ixb l t fun x => ifb (p x) (some (.inr (.inl (v t)))) (some (.inl (IntKind.i64.wrap (t + 1))))) (some (.inr (.inr ())))) (hl : l.length < 1000000000000000000) (hf : l.length < fl) :
    (l.any p = false ∧ lp body fl 0 = some (.inr ())) ∨ (l.any p = true ∧ ∃ i : Nat, lp body fl 0 = some (.inl (v i))) :=
  lp_find p (fun i => v i) (fun i x hx => by
    have hi := (List.getElem?_eq_some_iff.1 hx).1
    rw [hb, ifb_dec, if_pos (by omega), ixb_n hx, wrap_i64 (by omega)]; rfl) (by rw [hb, ifb_dec, if_neg (by omega)]) hf
theorem lp_cmp {A : Type} [DecidableEq A] {l m : List A} {body : Int → Option (Int ⊕ (Bool ⊕ Unit))} (q : A → A → Bool) (hq : ∀ a b, q a b = true ↔ a = b) (hlm : l.length = m.length) {fl : Nat}
    (hb : ∀ t, body t = ifb (decide (t < (l.length : Int))) (ixb l t fun x => ixb m t fun y => ifb (!q x y) (some (.inr (.inl false))) (some (.inl (IntKind.i64.wrap (t + 1))))) (some (.inr (.inr ())))) (hl : l.length < 1000000000000000000) (hf : l.length < fl) :
    lp body fl 0 = some (if l = m then .inr () else .inl false) := by
  have hz : (l.zip m).length = l.length := by rw [List.length_zip]; omega
  have hany : (l.zip m).any (fun x => !q x.1 x.2) = false ↔ l = m := by
    clear hb hf hl hz
    induction l generalizing m with
    | nil => cases m <;> simp_all
    | cons a l ih =>
      cases m with
      | nil => simp at hlm
      | cons b m =>
        rw [List.zip_cons_cons, List.any_cons, Bool.or_eq_false_iff, ih (by simpa using hlm)]
        have := hq a b
        cases hc : q a b <;> simp_all
  rcases lp_find (l := l.zip m) (body := body) (fun x => !q x.1 x.2) (fun _ => false) (fl := fl) (fun i x hx => by
    have hi := (List.getElem?_eq_some_iff.1 hx).1
    rw [List.getElem?_zip_eq_some] at hx
    rw [hb, ifb_dec, if_pos (by omega), ixb_n hx.1, ixb_n hx.2, wrap_i64 (by omega)]; rfl) (by rw [hb, hz, ifb_dec, if_neg (by omega)]) (by omega) with ⟨h1, h2⟩ | ⟨h1, i, h2⟩
  · rw [h2, if_pos (hany.1 h1)]
  · rw [h2, if_neg (fun h => by rw [hany.2 h] at h1; cases h1)]
theorem getD_n {A : Type} [Inhabited A] {l : List A} {i : Nat} {x : A} (h : l[i]? = some x) : l.getD ((i : Int)).toNat default = x := by
  rw [List.getD_eq_getElem?_getD, Int.toNat_natCast, h]; rfl
theorem belo {i n : Nat} (h : i < n) : Below (i : Int) n := ⟨by omega, by simpa using h⟩
def qL (a b : Lin) : Bool := (decide (a.Seq = b.Seq) && (decide (a.Who = b.Who) && (decide (a.What = b.What) && (decide (a.Code = b.Code) && (decide (a.Key = b.Key) && true)))))
theorem qL_iff (a b : Lin) : qL a b = true ↔ a = b := by obtain ⟨x, y, u, v, k⟩ := a; obtain ⟨z, w, u', v', k'⟩ := b; simp [qL]
theorem foldl_snoc {A : Type} : ∀ (l s : List A), l.foldl (fun s x => s ++ [x]) s = s ++ l
  | [], s => by simp
  | a :: l, s => by rw [List.foldl_cons, foldl_snoc l]; simp
theorem lp_copy {A : Type} {l : List A} {n : Nat} {body : Int × List A → Option ((Int × List A) ⊕ List A)} {fl : Nat}
    (hb : ∀ t, body t = ifb (decide (t.1 < (l.length : Int))) (ixb l t.1 fun x => grd (Fits n (t.2.length + ([x] : List A).length)) <| some (.inl (IntKind.i64.wrap (t.1 + 1), (t.2 ++ [x])))) (some (.inr t.2))) (hl : l.length * n ≤ 140737488355328) (hl2 : l.length < 1000000000000000000) (hf : l.length < fl) : lp body fl (0, []) = some l := by
  have := lp_list (l := l) (fun i s => ((i : Int), s)) (body := body) (fun s x => s ++ [x]) (fun s => s) [] (fl := fl) (fun i s => s.length = i) rfl
    (fun i x s hx hI => by
      have hi := (List.getElem?_eq_some_iff.1 hx).1
      refine ⟨?_, by rw [List.length_append, hI]; rfl⟩
      rw [hb, ifb_dec, if_pos (by show (i : Int) < _; omega), ixb_n hx, grd_t, wrap_i64 (by omega)]
      · rfl
      · refine ⟨?_, by simp; omega⟩
        have : (i + 1) * n ≤ l.length * n := Nat.mul_le_mul_right _ (by omega)
        rw [hI]; show (i + 1) * n ≤ _; omega)
    (fun s hI => by rw [hb, ifb_dec, if_neg (by show ¬ (l.length : Int) < _; omega)]) hf
  rw [foldl_snoc, List.nil_append] at this
  exact this
theorem bs_le {s : ByteArray} {n : Nat} (h : s.size ≤ n) (hn : n ≤ 3000) : (bsB (bytesOf s)).length ≤ n + 10 := by
  unfold bsB
  rw [List.length_append, bytesOf_length]
  have := (vb_len10 (n := s.size) (by omega)).2
  omega
theorem vbn_le {n : Nat} (h : n ≤ 1000) : (vb n).length ≤ 10 := (vb_len10 (by omega)).2
theorem flat_le {A : Type} {f : A → List Int} {n : Nat} : ∀ l : List A, (∀ c ∈ l, (f c).length ≤ n) → (l.flatMap f).length ≤ l.length * n
  | [], _ => by simp
  | c :: l, h => by
    rw [List.flatMap_cons, List.length_append, List.length_cons, Nat.add_mul]
    have := h c (by simp); have := flat_le l (fun c hc => h c (by simp [hc])); omega
theorem lp_add {A : Type} {l : List A} (e : A → List Int) {n : Nat} {body : List Int × Int → Option ((List Int × Int) ⊕ List Int)} {fl : Nat} {s0 : List Int} (h0 : s0.length ≤ 200000) (hn : ∀ x ∈ l, (e x).length ≤ n) (hln : l.length * n ≤ 200000) (hl : l.length < 1000)
    (hb : ∀ (i : Nat) x (s : List Int), l[i]? = some x → s.length ≤ 400000 → body (s, (i : Int)) = some (.inl (s ++ e x, ((i + 1 : Nat) : Int)))) (he : ∀ s, body (s, (l.length : Int)) = some (.inr s)) (hf : l.length < fl) : lp body fl (s0, 0) = some (s0 ++ l.flatMap e) := by
  have := lp_list (l := l) (fun i s => (s, (i : Int))) (body := body) (fun s x => s ++ e x) (fun s => s) s0 (fl := fl) (fun i s => s.length ≤ s0.length + i * n) (by simp)
    (fun i x s hx hI => by
      have hi := (List.getElem?_eq_some_iff.1 hx).1
      have hm : i * n ≤ l.length * n := Nat.mul_le_mul_right _ (by omega)
      refine ⟨hb i x s hx (by omega), ?_⟩
      have := hn x (List.mem_of_getElem? hx)
      rw [List.length_append, Nat.add_mul]; omega)
    (fun s hI => he s) hf
  rw [foldl_app] at this
  exact this
theorem inN {n : Int} (h : 0 ≤ n) (h2 : n < 1000000) : IntKind.u64.wrap n = n ∧ U64 n := ⟨wrap_u64 ⟨h, by omega⟩, h, by omega⟩
theorem lenN (n : Nat) : ((n : Int)).toNat = n := Int.toNat_natCast n
structure Rds where
  num : Nat → Rdr → Nat × Rdr
  byte : Rdr → Int × Rdr
  bytes : Nat → Rdr → List Int × Rdr
def R1 : Rds := ⟨fun m r => ((rdNum m r.b_ r.wrong_).1, rdr (rdNum m r.b_ r.wrong_).2), fun r => ((rdByte r.b_ r.wrong_).1, rdr (rdByte r.b_ r.wrong_).2), fun m r => ((rdBytes m r.b_ r.wrong_).1, rdr (rdBytes m r.b_ r.wrong_).2)⟩
structure RL (R : Rds) : Prop where
  nok : ∀ m r, RdOk r → RdOk (R.num m r).2
  nle : ∀ m r, (R.num m r).1 ≤ m
  bok : ∀ r, RdOk r → RdOk (R.byte r).2
  brg : ∀ r, RdOk r → 0 ≤ (R.byte r).1 ∧ (R.byte r).1 < 256
  sok : ∀ m r, RdOk r → RdOk (R.bytes m r).2
  sle : ∀ m r, (R.bytes m r).1.length ≤ m
  nf : ∀ m l, R.num m ⟨l, false⟩ = ((rdNum m l false).1, rdr (rdNum m l false).2)
  bf : ∀ l, R.byte ⟨l, false⟩ = ((rdByte l false).1, rdr (rdByte l false).2)
  sf : ∀ m l, R.bytes m ⟨l, false⟩ = ((rdBytes m l false).1, rdr (rdBytes m l false).2)
theorem L1 : RL R1 := ⟨fun m r h => rdok_num h m, fun m r => (rdNum_le _ _ _).1, fun r h => rdok_byte h, fun r h => byte_rg h r.wrong_, fun m r h => rdok_bytes h m, fun m r => (rdBytes_le _ _ _).1, fun _ _ => rfl, fun _ => rfl, fun _ _ => rfl⟩
def rep {X : Type} (P : Rdr → X × Rdr) : Nat → Rdr → List X × Rdr
  | 0, r => ([], r)
  | n + 1, r => ((P r).1 :: (rep P n (P r).2).1, (rep P n (P r).2).2)
theorem cn {m : Nat} {r : Rdr} (h : RdOk r) (hw : (R1.num m r).2.wrong_ = false) : r.wrong_ = false ∧ r.b_ = vb (R1.num m r).1 ++ (R1.num m r).2.b_ := by
  have := num_canon (m := m) (b := r.wrong_) h.1 hw
  exact ⟨this.1, this.2.1⟩
theorem cb {r : Rdr} (hw : (R1.byte r).2.wrong_ = false) : r.wrong_ = false ∧ r.b_ = (R1.byte r).1 :: (R1.byte r).2.b_ := byte_canon (l := r.b_) (b := r.wrong_) hw
theorem cs {m : Nat} {r : Rdr} (h : RdOk r) (hw : (R1.bytes m r).2.wrong_ = false) : r.wrong_ = false ∧ r.b_ = bsB (bytesOf (strOf (R1.bytes m r).1)) ++ (R1.bytes m r).2.b_ := by
  have := bytes_canon (m := m) (b := r.wrong_) h.1 hw
  refine ⟨this.1, ?_⟩
  have hb : Bts (R1.bytes m r).1 := fun x hx => h.1 x (by
    rw [this.2.1]
    show x ∈ bsB (R1.bytes m r).1 ++ _
    unfold bsB; simp [hx])
  rw [bytesOf_strOf hb]; exact this.2.1
end Go.Proofs.YtmnhfpcbfdgbcaaDoor.Eng.A

/- Ledgers, in plain Lean. -/
namespace Go.Proofs.YtmnhfpcbfdgbcaaDoor.Eng.A
set_option linter.unusedVariables false
set_option linter.unusedSimpArgs false
open Go.RowKit Go.Proofs.YtmnhfpcbfdgbcaaDoor.Plain Go.Proofs.YtmnhfpcbfdgbcaaDoor.Eng Go.Proofs.YtmnhfpcbfdgbcaaDoor.Eng.Pk Go.Proofs.YtmnhfpcbfdgbcaaDoor.Eng.Rd Go.Proofs.YtmnhfpcbfdgbcaaDoor.Eng.Er

structure LinOk (x : Lin) : Prop where
  seq : U64 x.Seq
  who : U64 x.Who
  what : 0 ≤ x.What ∧ x.What < 256
  code : 0 ≤ x.Code ∧ x.Code < 65536
structure LgrOk (p : Lgr) : Prop where
  d : U64 p.Dropped
  l : ∀ x ∈ p.L, LinOk x
def one (x : Lin) : Bool := decide (x.Who ≤ 4611686018427387904) && decide ((x.Key.size : Int) ≤ 40)
def sAt (d : Int) (i : Nat) : Int := IntKind.u64.wrap (IntKind.u64.wrap (d + IntKind.u64.wrap (i : Int)) + 1)
def badG (d : Int) (z : Lin × Nat) : Bool := (!one z.1) || decide (z.1.Seq ≠ sAt d z.2)
def outG (p : Lgr) : Bool := ((decide (4611686018427387904 < p.Dropped)) || (decide (32 < (p.L.length : Int)))) || ((decide ((p.L.length : Int) < 32)) && (decide (0 < p.Dropped)))
def okG (p : Lgr) : Bool := !outG p && !(p.L.zipIdx.any (badG p.Dropped))
theorem zidx {A : Type} {l : List A} {i : Nat} {z : A × Nat} (h : l.zipIdx[i]? = some z) : l[i]? = some z.1 ∧ z.2 = i := by
  rw [List.getElem?_zipIdx] at h
  cases hl : l[i]? with
  | none => rw [hl] at h; cases h
  | some x => rw [hl] at h; simp at h; rw [← h]; exact ⟨rfl, rfl⟩
theorem lcheck_eq {p : Lgr} {fl : Nat} (hf : 32 < fl) : F_lcheck fl p = some (if okG p = true then none else some 1) := by
  unfold F_lcheck okG
  show ifb (outG p) _ _ = _
  cases ho : outG p with
  | true => rfl
  | false =>
    have hl : (p.L.length : Int) ≤ 32 := by
      simp only [outG, Bool.or_eq_false_iff, decide_eq_false_iff_not] at ho
      have := ho.1.2; omega
    rw [ifb_0, Bool.not_false, Bool.true_and]
    rcases lp_find (l := p.L.zipIdx) (body := F_lcheck_b0 p) (badG p.Dropped) (fun _ => some 1) (fl := fl) (fun i z hz => by
      obtain ⟨h1, h2⟩ := zidx hz
      have hi := (List.getElem?_eq_some_iff.1 h1).1
      unfold F_lcheck_b0
      rw [ifb_dec, if_pos (by omega), ixb_n h1]
      unfold F_lmay
      rw [bnd_s, wrap_i64 (by omega)]
      show ifb _ _ _ = ifb (badG p.Dropped z) _ _
      unfold badG one sAt
      rw [h2]; rfl) (by
      unfold F_lcheck_b0
      rw [List.length_zipIdx, ifb_dec, if_neg (by omega)]) (by rw [List.length_zipIdx]; omega) with ⟨h1, h2⟩ | ⟨h1, i, h2⟩
    · rw [h2, h1]; rfl
    · rw [h2, h1]; rfl
theorem wsub {a b : Int} {i : Nat} (ha : U64 a) (hb : U64 b) (hi : i < 1000000000000000000) : decide (IntKind.u64.wrap (a - IntKind.u64.wrap (i : Int)) ≠ IntKind.u64.wrap (b + 1)) = decide (a ≠ sAt b i) := by
  obtain ⟨h1, h2⟩ := ha; obtain ⟨h3, h4⟩ := hb
  have : (IntKind.u64.wrap (a - IntKind.u64.wrap (i : Int)) ≠ IntKind.u64.wrap (b + 1)) ↔ (a ≠ sAt b i) := by
    unfold sAt
    rw [IntKind.wrap_u64, IntKind.wrap_u64, IntKind.wrap_u64, IntKind.wrap_u64, IntKind.wrap_u64]
    omega
  exact decide_eq_decide.2 this
theorem lmay2_eq {p : Lgr} {fl : Nat} (ok : LgrOk p) (hl : p.L.length < 1000000000000000000) (hf : p.L.length < fl) : F_lmay2 fl p = some (okG p) := by
  unfold F_lmay2 okG
  have hd := ok.d.1
  have hout : (decide (p.Dropped ≤ 4611686018427387904) && ((decide ((p.L.length : Int) = 32)) || ((decide ((p.L.length : Int) < 32)) && (decide (p.Dropped = 0))))) = !outG p := by
    unfold outG
    by_cases h1 : p.Dropped ≤ 4611686018427387904 <;> by_cases h2 : (p.L.length : Int) = 32 <;> by_cases h3 : (p.L.length : Int) < 32 <;> by_cases h4 : p.Dropped = 0 <;> simp [h1, h2, h3, h4] <;> omega
  rcases lp_find (l := p.L.zipIdx) (body := F_lmay2_b0 p) (badG p.Dropped) (fun _ => false) (fl := fl) (fun i z hz => by
      obtain ⟨h1, h2⟩ := zidx hz
      have hi := (List.getElem?_eq_some_iff.1 h1).1
      unfold F_lmay2_b0
      rw [ifb_dec, if_pos (by omega), ixb_n h1]
      unfold F_lone2
      rw [bnd_s, grd_t (fun _ => belo hi), wrap_i64 (by omega), getD_n h1, wsub (ok.l _ (List.mem_of_getElem? h1)).seq ok.d (by omega)]
      show ifb _ _ _ = ifb (badG p.Dropped z) _ _
      unfold badG one
      rw [h2]; rfl) (by
      unfold F_lmay2_b0
      rw [List.length_zipIdx, ifb_dec, if_neg (by omega)]) (by rw [List.length_zipIdx]; omega) with ⟨h1, h2⟩ | ⟨h1, i, h2⟩
  · rw [h2, h1, bnd_s, ocs_2, hout, Bool.not_false, Bool.and_true]
  · rw [h2, h1, bnd_s, ocs_1, Bool.not_true, Bool.and_false]

/-- What may be, in plain words. -/
structure Okay (p : Lgr) : Prop where
  d : p.Dropped ≤ 4611686018427387904
  n : p.L.length ≤ 32
  z : p.L.length < 32 → p.Dropped ≤ 0
  l : ∀ i x, p.L[i]? = some x → one x = true ∧ x.Seq = sAt p.Dropped i
theorem okG_iff {p : Lgr} : okG p = true ↔ Okay p := by
  unfold okG outG
  simp only [Bool.and_eq_true, Bool.not_eq_true', Bool.or_eq_false_iff, decide_eq_false_iff_not, List.any_eq_false, Bool.and_eq_false_iff]
  constructor
  · rintro ⟨⟨⟨h1, h2⟩, h3⟩, h4⟩
    refine ⟨by omega, by omega, fun h => by rcases h3 with h3 | h3 <;> omega, fun i x hx => ?_⟩
    have := h4 (x, i) (by rw [List.mem_iff_getElem?]; exact ⟨i, by rw [List.getElem?_zipIdx, hx]; simp⟩)
    simpa [badG] using this
  · rintro ⟨h1, h2, h3, h4⟩
    refine ⟨⟨⟨by omega, by omega⟩, by
      by_cases h : p.L.length < 32
      · exact .inr (by have := h3 h; omega)
      · exact .inl (by omega)⟩, fun z hz => ?_⟩
    obtain ⟨i, hi⟩ := List.mem_iff_getElem?.1 hz
    obtain ⟨q1, q2⟩ := zidx hi
    have := h4 i _ q1
    simp [badG, this.1, this.2, q2]
theorem seq_ok {p : Lgr} (ok : LgrOk p) (o : Okay p) {i : Nat} {x : Lin} (h : p.L[i]? = some x) : x.Seq = p.Dropped + i + 1 := by
  have hi := (List.getElem?_eq_some_iff.1 h).1
  have := (o.l i x h).2
  have h1 := o.n; have h2 := o.d; have h3 := ok.d.1
  rw [this]; unfold sAt
  rw [wrap_u64 (n := (i : Int)) (by omega), wrap_u64 (n := p.Dropped + i) (by omega), wrap_u64 (by omega)]

/-! ### One line more -/
def addL (p : Lgr) (x : Lin) : Lin := ⟨sAt p.Dropped p.L.length, x.Who, x.What, x.Code, x.Key⟩
def addG (p : Lgr) (x : Lin) : Lgr × Option Int :=
  if okG p = true ∧ one x = true then
    if p.Dropped = 4611686018427387904 then (⟨0, []⟩, some 7)
    else if p.L.length = 32 then (⟨p.Dropped + 1, p.L.drop 1 ++ [addL p x]⟩, none) else (⟨p.Dropped, p.L ++ [addL p x]⟩, none)
  else (⟨0, []⟩, some 1)
theorem ladd_eq {p : Lgr} {x : Lin} {fl : Nat} (ok : LgrOk p) (hf : 32 < fl) : F_ladd fl p x = some (addG p x) := by
  unfold F_ladd addG
  rw [lcheck_eq hf, bnd_s]
  show bnd (gif _ (some (one x))) _ = _
  rw [gif_s, bnd_s]
  cases hok : okG p with
  | false => simp
  | true =>
    have o := okG_iff.1 hok
    have h1 := o.n; have h2 := o.d; have h3 := ok.d.1
    cases hone : one x with
    | false => simp
    | true =>
      simp only [if_true, Option.isSome_none, BEq.rfl, Bool.not_true, Bool.or_self, ifb_0, and_self]
      rw [ifb_dec]
      by_cases hd : p.Dropped = 4611686018427387904
      · rw [if_pos hd, if_pos hd]
      rw [if_neg hd, if_neg hd, grd_t (by omega), grd_t ⟨by simp; omega, by simp; omega⟩]
      have hn : ((p.L ++ [addL p x]).length : Int) = p.L.length + 1 := by simp
      show bnd (ifb (decide (32 < ((p.L ++ [addL p x]).length : Int))) (grd (1 < (p.L ++ [addL p x]).length) <| some ((p.L ++ [addL p x]).take 0 ++ (p.L ++ [addL p x]).drop 1, IntKind.u64.wrap (p.Dropped + 1))) (some (p.L ++ [addL p x], p.Dropped))) _ = _
      rw [ifb_dec]
      by_cases h32 : p.L.length = 32
      · rw [if_pos (by omega), grd_t (by rw [List.length_append]; omega), bnd_s, if_pos h32, wrap_u64 (by omega)]
        have : (p.L ++ [addL p x]).drop 1 = p.L.drop 1 ++ [addL p x] := List.drop_append_of_le_length (by omega)
        rw [this]; rfl
      · rw [if_neg (by omega), bnd_s, if_neg h32]
theorem ladd2_eq {p : Lgr} {x : Lin} {fl : Nat} (ok : LgrOk p) (hl : p.L.length < 1000000000000000000) (hf : p.L.length < fl) : F_ladd2 fl p x = some ((addG p x).1, numV (addG p x).2) := by
  unfold F_ladd2 addG
  rw [lmay2_eq ok hl hf, bnd_s]
  show bnd (gif _ (some (one x))) _ = _
  rw [gif_s, bnd_s]
  cases hok : okG p with
  | false => simp [numV]
  | true =>
    have o := okG_iff.1 hok
    have h1 := o.n; have h2 := o.d; have h3 := ok.d.1
    cases hone : one x with
    | false => simp [numV]
    | true =>
      simp only [if_true, Bool.not_true, BEq.rfl, Bool.or_self, ifb_0, and_self]
      rw [ifb_dec]
      by_cases hd : p.Dropped = 4611686018427387904
      · rw [if_pos hd, if_pos hd]; rfl
      rw [if_neg hd, if_neg hd, ifb_dec]
      by_cases h32 : p.L.length = 32
      · rw [if_pos (by omega), if_pos h32, grd_t ⟨by omega, by simp; omega⟩, grd_t ⟨by simp; omega, by simp; omega⟩, grd_t ⟨by simp; omega, by simp; omega⟩, wrap_u64 (by omega)]
        rfl
      · have h0 := o.z (by omega)
        have h00 : p.Dropped = 0 := by omega
        rw [if_neg (by omega), if_neg h32, grd_t ⟨by omega, by omega⟩, grd_t ⟨by simp; omega, by simp; omega⟩]
        show some (_, (0 : Int)) = _
        rw [h00]
        show _ = some ((⟨0, p.L ++ [addL p x]⟩ : Lgr), (0 : Int))
        unfold addL sAt
        rw [h00]

/-! ### The lines from a Seq on -/
theorem lsince_eq {p : Lgr} {q : Int} {fl : Nat} (hf : 32 < fl) : F_lsince fl p q = some (if okG p = true then (p.L.filter fun x => decide (q ≤ x.Seq), none) else ([], some 1)) := by
  unfold F_lsince
  rw [lcheck_eq hf, bnd_s]
  cases hok : okG p with
  | false => simp
  | true =>
    have o := okG_iff.1 hok
    have h1 := o.n
    simp only [if_true, Option.isSome_none, ifb_0]
    have := lp_list (l := p.L) (fun i s => (s, (i : Int))) (body := F_lsince_b0 p q) (fun s x => if q ≤ x.Seq then s ++ [x] else s) (fun s => s) [] (fl := fl) (fun i s => s.length ≤ i) (Nat.zero_le _)
      (fun i x s hx hI => by
        have hi := (List.getElem?_eq_some_iff.1 hx).1
        unfold F_lsince_b0
        refine ⟨?_, by split <;> (try rw [List.length_append, List.length_singleton]) <;> omega⟩
        dsimp only
        rw [ifb_dec, if_pos (by omega), ixb_n hx, ifb_dec]
        split
        · rw [grd_t ⟨by simp; omega, by simp; omega⟩, bnd_s, wrap_i64 (by omega)]; rfl
        · rw [bnd_s, wrap_i64 (by omega)]; rfl)
      (fun s hI => by unfold F_lsince_b0; dsimp only; rw [ifb_dec, if_neg (by omega)]) (by omega)
    rw [show ((([] : List Lin), (0 : Int)) = (([] : List Lin), ((0 : Nat) : Int))) from rfl, this, bnd_s]
    have key : ∀ (l s : List Lin), l.foldl (fun s x => if q ≤ x.Seq then s ++ [x] else s) s = s ++ l.filter fun x => decide (q ≤ x.Seq) := by
      intro l
      induction l with
      | nil => intro s; simp
      | cons a l ih =>
        intro s
        rw [List.foldl_cons, ih, List.filter_cons]
        by_cases h : q ≤ a.Seq <;> simp [h]
    rw [key, List.nil_append]
theorem lp_tw {A : Type} {l : List A} (p : A → Bool) {body : Int → Option (Int ⊕ Int)} {fl : Nat}
    (hb : ∀ (i : Nat) x, l[i]? = some x → body (i : Int) = if p x = true then some (.inl ((i + 1 : Nat) : Int)) else some (.inr (i : Int))) (he : body (l.length : Int) = some (.inr (l.length : Int))) (hf : l.length < fl) :
    lp body fl 0 = some (((l.takeWhile p).length : Nat) : Int) := by
  have key : ∀ k i fl, i + k = l.length → k < fl → lp body fl (i : Int) = some (((i + ((l.drop i).takeWhile p).length : Nat)) : Int) := by
    intro k
    induction k with
    | zero =>
      intro i fl hi hf
      obtain ⟨m, rfl⟩ : ∃ m, fl = m + 1 := ⟨fl - 1, by omega⟩
      have : i = l.length := by omega
      subst this
      simp [lp, he]
    | succ k ih =>
      intro i fl hi hf
      obtain ⟨m, rfl⟩ : ∃ m, fl = m + 1 := ⟨fl - 1, by omega⟩
      have hx := List.getElem?_eq_getElem (l := l) (i := i) (by omega)
      rw [List.drop_eq_getElem_cons (by omega), List.takeWhile_cons]
      simp only [lp, hb i _ hx]
      cases hp : p l[i] with
      | true =>
        simp only [if_true, bnd_s, ocs_1]
        rw [ih (i + 1) m (by omega) (by omega)]
        simp; omega
      | false => simp
  have := key l.length 0 fl (by omega) hf
  simpa using this
theorem drop_tw {A : Type} (p : A → Bool) : ∀ l : List A, l.drop (l.takeWhile p).length = l.dropWhile p
  | [] => rfl
  | a :: l => by
    rw [List.takeWhile_cons, List.dropWhile_cons]
    cases p a with
    | true => simpa using drop_tw p l
    | false => rfl
theorem up_filter (q : Int) : ∀ (l : List Lin) (c : Int), (∀ (i : Nat) (x : Lin), l[i]? = some x → x.Seq = c + (i : Int)) → l.filter (fun x => decide (q ≤ x.Seq)) = l.dropWhile fun x => decide (x.Seq < q)
  | [], _, _ => rfl
  | a :: l, c, h => by
    have ha := h 0 a rfl
    rw [List.filter_cons, List.dropWhile_cons]
    by_cases hq : q ≤ a.Seq
    · have : ∀ x ∈ l, q ≤ x.Seq := fun x hx => by
        obtain ⟨i, hi⟩ := List.mem_iff_getElem?.1 hx
        have := h (i + 1) x (by simpa using hi)
        omega
      rw [if_pos (by simpa using hq), if_neg (by simp; omega), List.filter_eq_self.2 (fun x hx => by simpa using this x hx)]
    · rw [if_neg (by simpa using hq), if_pos (by simp; omega)]
      exact up_filter q l (c + 1) (fun i x hx => by have := h (i + 1) x (by simpa using hx); omega)
theorem lsince2_eq {p : Lgr} {q : Int} {fl : Nat} (ok : LgrOk p) (hl : p.L.length < 1000000000000000000) (hf : p.L.length < fl) : F_lsince2 fl p q = some (if okG p = true then (p.L.filter fun x => decide (q ≤ x.Seq), 0) else ([], 1)) := by
  unfold F_lsince2
  rw [lmay2_eq ok hl hf, bnd_s]
  cases hok : okG p with
  | false => simp
  | true =>
    have o := okG_iff.1 hok
    simp only [if_true, Bool.not_true, ifb_0]
    rw [lp_tw (l := p.L) (body := F_lsince2_b0 p q) (fun x => decide (x.Seq < q)) (fl := fl) (fun i x hx => by
      have hi := (List.getElem?_eq_some_iff.1 hx).1
      unfold F_lsince2_b0
      rw [grd_t (fun _ => belo hi), getD_n hx, decide_eq_true (by omega : (i : Int) < p.L.length), Bool.true_and, ifb_dec, wrap_i64 (by omega)]
      simp only [decide_eq_true_eq]; rfl) (by
      unfold F_lsince2_b0
      rw [decide_eq_false (by omega : ¬ (p.L.length : Int) < p.L.length), grd_t (fun h => by cases h)]
      rfl) hf, bnd_s]
    have hle : (p.L.takeWhile fun x => decide (x.Seq < q)).length ≤ p.L.length := (List.takeWhile_prefix _).length_le
    rw [grd_t ⟨by omega, by rw [Int.toNat_natCast]; exact hle⟩, Int.toNat_natCast, drop_tw, up_filter q p.L (p.Dropped + 1) (fun i x hx => by have := seq_ok ok o hx; omega)]
end Go.Proofs.YtmnhfpcbfdgbcaaDoor.Eng.A

/- Ledgers, in plain Lean: bytes, and reading them. -/
namespace Go.Proofs.YtmnhfpcbfdgbcaaDoor.Eng.A
set_option linter.unusedVariables false
set_option linter.unusedSimpArgs false
open Go.RowKit Go.Proofs.YtmnhfpcbfdgbcaaDoor.Plain Go.Proofs.YtmnhfpcbfdgbcaaDoor.Eng Go.Proofs.YtmnhfpcbfdgbcaaDoor.Eng.Pk Go.Proofs.YtmnhfpcbfdgbcaaDoor.Eng.Rd Go.Proofs.YtmnhfpcbfdgbcaaDoor.Eng.Er

def encN (x : Lin) : List Int := vb x.Who.toNat ++ (x.What :: (vb x.Code.toNat ++ bsB (bytesOf x.Key)))
def encG (p : Lgr) : List Int := vb p.Dropped.toNat ++ (vb p.L.length ++ p.L.flatMap encN)
theorem one_iff {x : Lin} : one x = true ↔ x.Who ≤ 4611686018427387904 ∧ x.Key.size ≤ 40 := by
  unfold one; simp only [Bool.and_eq_true, decide_eq_true_eq]; omega
theorem encN_le {x : Lin} (ok : LinOk x) (h : one x = true) : (encN x).length ≤ 71 := by
  have h := one_iff.1 h
  have h1 := vb_le ok.who; have h2 := vb_le (n := x.Code) ⟨ok.code.1, by have := ok.code.2; omega⟩
  have h3 := bs_le h.2 (by decide)
  unfold encN
  simp only [List.length_append, List.length_cons]; omega
theorem lenc_eq {p : Lgr} {fl : Nat} (ok : LgrOk p) (hf : 32 < fl) : F_lenc fl p = some (if okG p = true then (encG p, none) else ([], some 1)) := by
  unfold F_lenc
  rw [lcheck_eq hf, bnd_s]
  cases hok : okG p with
  | false => simp
  | true =>
    have o := okG_iff.1 hok
    have h1 := o.n
    have hv := vb_le ok.d
    have hw := vbn_le (n := p.L.length) (by omega)
    simp only [if_true, Option.isSome_none, ifb_0]
    have hn : IntKind.u64.wrap (p.L.length : Int) = (p.L.length : Int) := wrap_u64 (by omega)
    rw [oNum_t (by simp [Wrd]) ok.d, bnd_s, List.nil_append, hn, oNum_t (by unfold Wrd; omega) ⟨by omega, by omega⟩, bnd_s, Int.toNat_natCast]
    rw [lp_add (l := p.L) encN (n := 71) (body := F_lenc_b0 p) (s0 := vb p.Dropped.toNat ++ vb p.L.length) (by rw [List.length_append]; omega) (fun x hx => by
        obtain ⟨i, hi⟩ := List.mem_iff_getElem?.1 hx
        exact encN_le (ok.l x hx) (o.l i x hi).1) (by omega) (by omega) (fun i x s hx hs => by
        have hi := (List.getElem?_eq_some_iff.1 hx).1
        have k := ok.l x (List.mem_of_getElem? hx)
        have hc : IntKind.u64.wrap x.Code = x.Code := wrap_u64 (by have := k.code; omega)
        have hcu : U64 x.Code := ⟨k.code.1, by have := k.code.2; omega⟩
        have g1 := vb_le k.who; have g2 := vb_le hcu
        have g3 := (one_iff.1 (o.l i x hx).1).2
        unfold F_lenc_b0
        dsimp only
        rw [ifb_dec, if_pos (by omega), ixb_n hx, oNum_t (by unfold Wrd; omega) k.who, bnd_s, oByte_t (by unfold Wrd; simp; omega), bnd_s, hc, oNum_t (by unfold Wrd; simp; omega) hcu, bnd_s, oBytes_t (by unfold Wrd; simp [bytesOf_length]; omega), bnd_s, wrap_i64 (by omega)]
        simp [encN]) (fun s => by unfold F_lenc_b0; dsimp only; rw [ifb_dec, if_neg (by omega)]) (by omega), bnd_s]
    unfold encG
    rw [List.append_assoc]
theorem lenc2_eq {p : Lgr} {fl : Nat} (ok : LgrOk p) (hl : p.L.length < 1000000000000000000) (hf : p.L.length < fl) : F_lenc2 fl p = some (if okG p = true then (encG p, 0) else ([], 1)) := by
  unfold F_lenc2
  rw [lmay2_eq ok hl hf, bnd_s]
  cases hok : okG p with
  | false => simp
  | true =>
    have o := okG_iff.1 hok
    have h1 := o.n
    have hv := vb_le ok.d
    have hw := vbn_le (n := p.L.length) (by omega)
    simp only [if_true, Bool.not_true, ifb_0]
    have hn : IntKind.u64.wrap (p.L.length : Int) = (p.L.length : Int) := wrap_u64 (by omega)
    rw [oNum_t (by simp [Wrd]) ok.d, bnd_s, List.nil_append, hn, oNum_t (by unfold Wrd; omega) ⟨by omega, by omega⟩, bnd_s, Int.toNat_natCast]
    rw [lp_add (l := p.L) encN (n := 71) (body := F_lenc2_b0 p) (s0 := vb p.Dropped.toNat ++ vb p.L.length) (by rw [List.length_append]; omega) (fun x hx => by
        obtain ⟨i, hi⟩ := List.mem_iff_getElem?.1 hx
        exact encN_le (ok.l x hx) (o.l i x hi).1) (by omega) (by omega) (fun i x s hx hs => by
        have hi := (List.getElem?_eq_some_iff.1 hx).1
        have k := ok.l x (List.mem_of_getElem? hx)
        have hc : IntKind.u64.wrap x.Code = x.Code := wrap_u64 (by have := k.code; omega)
        have hcu : U64 x.Code := ⟨k.code.1, by have := k.code.2; omega⟩
        have g1 := vb_le k.who; have g2 := vb_le hcu
        have g3 := (one_iff.1 (o.l i x hx).1).2
        unfold F_lenc2_b0
        dsimp only
        rw [ifb_dec, if_pos (by omega), ixb_n hx, oNum_t (by unfold Wrd; omega) k.who, bnd_s, grd_t ⟨by simp; omega, by simp; omega⟩, hc, oNum_t (by unfold Wrd; simp; omega) hcu, bnd_s, oBytes_t (by unfold Wrd; simp [bytesOf_length]; omega), bnd_s, wrap_i64 (by omega)]
        simp [encN]) (fun s => by unfold F_lenc2_b0; dsimp only; rw [ifb_dec, if_neg (by omega)]) (by omega), bnd_s]
    unfold encG
    rw [List.append_assoc]

/-! ### Reading -/
def pN (q : Int) (r : Rdr) : Lin × Rdr :=
  let b := R1.num 4611686018427387904 r
  let c := R1.byte b.2
  let d := R1.num 65535 c.2
  let k := R1.bytes 40 d.2
  (⟨q, (b.1 : Int), c.1, (d.1 : Int), strOf k.1⟩, k.2)
def repG (d : Int) : Nat → Nat → Rdr → List Lin × Rdr
  | _, 0, r => ([], r)
  | i, n + 1, r => ((pN (sAt d i) r).1 :: (repG d (i + 1) n (pN (sAt d i) r).2).1, (repG d (i + 1) n (pN (sAt d i) r).2).2)
def decG (b : List Int) : Lgr × Option Int :=
  let h := R1.num 4611686018427387904 ⟨b, false⟩
  let m := R1.num 32 h.2
  let q := repG (h.1 : Int) 0 m.1 m.2
  if q.2.wrong_ = false ∧ q.2.b_ = [] ∧ okG ⟨(h.1 : Int), q.1⟩ = true then (⟨(h.1 : Int), q.1⟩, none) else (⟨0, []⟩, some 3)
theorem pN_ok (q : Int) {r : Rdr} (h : RdOk r) : RdOk (pN q r).2 := L1.sok _ _ (L1.nok _ _ (L1.bok _ (L1.nok _ _ h)))
theorem num_u1 (m : Nat) (hm : m ≤ 4611686018427387904) (r : Rdr) : U64 ((R1.num m r).1 : Int) := by
  have := L1.nle m r; exact ⟨by omega, by omega⟩
theorem sAt_u (d : Int) (i : Nat) : U64 (sAt d i) := by
  unfold sAt; rw [IntKind.wrap_u64]; exact ⟨by omega, by omega⟩
theorem pN_lin (d : Int) (i : Nat) {r : Rdr} (h : RdOk r) : LinOk (pN (sAt d i) r).1 := by
  refine ⟨sAt_u d i, num_u1 _ (by omega) _, L1.brg _ (L1.nok _ _ h), ?_⟩
  have := L1.nle 65535 (R1.byte (R1.num 4611686018427387904 r).2).2
  exact ⟨by show _ ≤ ((R1.num 65535 (R1.byte (R1.num 4611686018427387904 r).2).2).1 : Int); omega, by show ((R1.num 65535 (R1.byte (R1.num 4611686018427387904 r).2).2).1 : Int) < _; omega⟩
theorem repG_len (d : Int) : ∀ n i r, (repG d i n r).1.length = n
  | 0, _, _ => rfl
  | n + 1, i, r => by rw [repG, List.length_cons, repG_len]
theorem repG_ok (d : Int) : ∀ n i r, RdOk r → RdOk (repG d i n r).2
  | 0, _, _, h => h
  | n + 1, i, r, h => repG_ok d n _ _ (pN_ok _ h)
theorem repG_lin (d : Int) : ∀ n i r, RdOk r → ∀ x ∈ (repG d i n r).1, LinOk x
  | 0, _, _, _, x, hx => by cases hx
  | n + 1, i, r, h, x, hx => by
    rcases List.mem_cons.1 hx with rfl | hx
    · exact pN_lin d i h
    · exact repG_lin d n _ _ (pN_ok _ h) x hx
theorem i_nat (n : Nat) (h : n ≤ 4611686018427387904) : U64 (n : Int) := ⟨by omega, by omega⟩
theorem ldec_loop {d : Int} {n : Nat} {r2 r3 : Rdr} (hn : n ≤ 32) : ∀ k i r acc fl, i + k = n → RdOk r → acc.length = i → k < fl → lp (F_ldec_b0 (d, r2) ((n : Int), r3)) fl ((i : Int), r, acc) = some ((repG d i k r).2, acc ++ (repG d i k r).1) := by
  intro k
  induction k with
  | zero =>
    intro i r acc fl hi hr ha hf
    obtain ⟨m, rfl⟩ : ∃ m, fl = m + 1 := ⟨fl - 1, by omega⟩
    simp only [lp]
    unfold F_ldec_b0
    dsimp only
    rw [ifb_dec, if_neg (by omega), bnd_s, ocs_2]
    simp [repG]
  | succ k ih =>
    intro i r acc fl hi hr ha hf
    obtain ⟨m, rfl⟩ : ∃ m, fl = m + 1 := ⟨fl - 1, by omega⟩
    have e1 := L1.nok 4611686018427387904 _ hr
    have e2 := L1.bok _ e1
    have e3 := L1.nok 65535 _ e2
    have g3 := L1.nle 65535 (R1.byte (R1.num 4611686018427387904 r).2).2
    simp only [lp]
    unfold F_ldec_b0
    dsimp only
    rw [ifb_dec, if_pos (by omega), oRNum_t hr (by unfold U64; omega), bnd_s]
    show bnd (bnd (oRByte (R1.num 4611686018427387904 r).2) _) _ = _
    unfold oRByte
    rw [bnd_s]
    dsimp only
    show bnd (bnd (oRNum (R1.byte (R1.num 4611686018427387904 r).2).2 65535) _) _ = _
    rw [oRNum_t e2 (by unfold U64; omega), bnd_s]
    dsimp only
    show bnd (bnd (oRBytes (R1.num 65535 (R1.byte (R1.num 4611686018427387904 r).2).2).2 40) _) _ = _
    rw [oRBytes_t e3 (by unfold I64; omega), bnd_s]
    dsimp only
    rw [grd_t ⟨by simp; omega, by simp; omega⟩, bnd_s, ocs_1]
    have hi1 : IntKind.u64.wrap ((i : Int) + 1) = ((i + 1 : Nat) : Int) := wrap_u64 (by omega)
    have hs : IntKind.u64.wrap (IntKind.u64.wrap (d + (i : Int)) + 1) = sAt d i := by unfold sAt; rw [wrap_u64 (n := (i : Int)) (by omega)]
    have hc : IntKind.u16.wrap (((R1.num 65535 (R1.byte (R1.num 4611686018427387904 r).2).2).1 : Nat) : Int) = (((R1.num 65535 (R1.byte (R1.num 4611686018427387904 r).2).2).1 : Nat) : Int) := wrap_u16 (by omega)
    have := ih (i + 1) (pN (sAt d i) r).2 (acc ++ [(pN (sAt d i) r).1]) m (by omega) (pN_ok _ hr) (by rw [List.length_append, ha]; rfl) (by omega)
    rw [repG]
    dsimp only
    rw [show acc ++ ((pN (sAt d i) r).1 :: (repG d (i + 1) k (pN (sAt d i) r).2).1) = (acc ++ [(pN (sAt d i) r).1]) ++ (repG d (i + 1) k (pN (sAt d i) r).2).1 by simp, ← this, hi1, hs]
    have hx : (⟨sAt d i, (((R1.num 4611686018427387904 r).1 : Nat) : Int), (R1.byte (R1.num 4611686018427387904 r).2).1, IntKind.u16.wrap (((R1.num 65535 (R1.byte (R1.num 4611686018427387904 r).2).2).1 : Nat) : Int), strOf (R1.bytes 40 (R1.num 65535 (R1.byte (R1.num 4611686018427387904 r).2).2).2).1⟩ : Lin) = (pN (sAt d i) r).1 := by rw [hc]; rfl
    rw [← hx]
    rfl
theorem ldec_eq {b : List Int} {fl : Nat} (hb : Bts b) (hl : b.length ≤ 100000000000000) (hf : 32 < fl) : F_ldec fl b = some (decG b) := by
  have h0 : RdOk ⟨b, false⟩ := ⟨hb, by show b.length ≤ _; omega⟩
  unfold F_ldec
  rw [show oNew b = some ⟨b, false⟩ from grd_t (show Wrd b.length by unfold Wrd; omega) _, bnd_s, oRNum_t h0 (by unfold U64; omega), bnd_s]
  have h1 := L1.nok 4611686018427387904 _ h0
  show bnd (oRNum (R1.num 4611686018427387904 ⟨b, false⟩).2 32) _ = _
  rw [oRNum_t h1 (by unfold U64; omega), bnd_s]
  have h2 := L1.nok 32 _ h1
  have g2 := L1.nle 32 (R1.num 4611686018427387904 ⟨b, false⟩).2
  show bnd (lp (F_ldec_b0 ((((R1.num 4611686018427387904 ⟨b, false⟩).1 : Nat) : Int), (R1.num 4611686018427387904 ⟨b, false⟩).2) ((((R1.num 32 (R1.num 4611686018427387904 ⟨b, false⟩).2).1 : Nat) : Int), (R1.num 32 (R1.num 4611686018427387904 ⟨b, false⟩).2).2)) fl (((0 : Nat) : Int), (R1.num 32 (R1.num 4611686018427387904 ⟨b, false⟩).2).2, [])) _ = _
  rw [ldec_loop g2 (R1.num 32 (R1.num 4611686018427387904 ⟨b, false⟩).2).1 0 _ [] fl (by omega) h2 rfl (by omega), bnd_s]
  unfold decG oRDone
  dsimp only
  rw [bnd_s, List.nil_append]
  generalize repG (((R1.num 4611686018427387904 ⟨b, false⟩).1 : Nat) : Int) 0 (R1.num 32 (R1.num 4611686018427387904 ⟨b, false⟩).2).1 (R1.num 32 (R1.num 4611686018427387904 ⟨b, false⟩).2).2 = q
  show bnd (gif ((rdDone q.2.wrong_ q.2.b_).isSome == false) (F_lcheck fl ⟨(((R1.num 4611686018427387904 ⟨b, false⟩).1 : Nat) : Int), q.1⟩)) (fun x_12 => ifb ((rdDone q.2.wrong_ q.2.b_).isSome || x_12.isSome) (some ((⟨0, []⟩ : Lgr), some 3)) (some ((⟨(((R1.num 4611686018427387904 ⟨b, false⟩).1 : Nat) : Int), q.1⟩ : Lgr), none))) = _
  generalize (((R1.num 4611686018427387904 ⟨b, false⟩).1 : Nat) : Int) = d
  rw [lcheck_eq hf, gif_s, bnd_s]
  by_cases hw : q.2.wrong_ = true ∨ q.2.b_ ≠ []
  · have : rdDone q.2.wrong_ q.2.b_ = some 3 := by unfold rdDone; rw [if_pos hw]
    have hno : ¬ (q.2.wrong_ = false ∧ q.2.b_ = [] ∧ okG ⟨d, q.1⟩ = true) := by
      rintro ⟨a1, a2, _⟩
      rcases hw with h | h
      · rw [a1] at h; cases h
      · exact h a2
    rw [this, if_neg hno]; rfl
  · have : rdDone q.2.wrong_ q.2.b_ = none := by unfold rdDone; rw [if_neg hw]
    rw [this]
    have a1 : q.2.wrong_ = false := by cases hh : q.2.wrong_ with
      | false => rfl
      | true => exact absurd (.inl hh) hw
    have a2 : q.2.b_ = [] := Classical.byContradiction fun h => hw (.inr h)
    cases hok : okG ⟨d, q.1⟩ with
    | true =>
      have hy : q.2.wrong_ = false ∧ q.2.b_ = [] ∧ true = true := ⟨a1, a2, rfl⟩
      rw [if_pos hy]; rfl
    | false =>
      have hno : ¬ (q.2.wrong_ = false ∧ q.2.b_ = [] ∧ false = true) := fun h => by cases h.2.2
      rw [if_neg hno]; rfl
end Go.Proofs.YtmnhfpcbfdgbcaaDoor.Eng.A

/- Ledgers, in plain Lean: the document's reading, and back. -/
namespace Go.Proofs.YtmnhfpcbfdgbcaaDoor.Eng.A
set_option linter.unusedVariables false
set_option linter.unusedSimpArgs false
open Go.RowKit Go.Proofs.YtmnhfpcbfdgbcaaDoor.Plain Go.Proofs.YtmnhfpcbfdgbcaaDoor.Eng Go.Proofs.YtmnhfpcbfdgbcaaDoor.Eng.Pk Go.Proofs.YtmnhfpcbfdgbcaaDoor.Eng.Rd Go.Proofs.YtmnhfpcbfdgbcaaDoor.Eng.Er

/-- Once it is wrong nothing is left. -/
def Gd (r : Rdr) : Prop := r.wrong_ = true → r.b_ = []
theorem num_nil (m : Nat) (b : Bool) : rdNum m [] b = (0, [], true) := by
  unfold rdNum; rw [if_neg]; intro h; simp [vget, vgl] at h
theorem bytes_nil (m : Nat) (b : Bool) : rdBytes m [] b = ([], [], true) := by
  unfold rdBytes; rw [num_nil]; rfl
theorem gd_num {r : Rdr} (h : Gd r) (m : Nat) : Gd (R1.num m r).2 := by
  intro hw
  obtain ⟨l, w⟩ := r
  show (rdNum m l w).2.1 = []
  replace hw : (rdNum m l w).2.2 = true := hw
  unfold rdNum at hw ⊢
  by_cases hc : (vget l).2.2 = none ∧ (vget l).1 ≤ m
  · rw [if_pos hc] at hw ⊢
    have : l = [] := h hw
    subst this; simp
  · rw [if_neg hc]
theorem gd_byte {r : Rdr} (h : Gd r) : Gd (R1.byte r).2 := by
  intro hw
  obtain ⟨l, w⟩ := r
  show l.tail = []
  replace hw : (w || l.isEmpty) = true := hw
  cases l with
  | nil => rfl
  | cons a l => simp at hw; have := h hw; cases this
theorem gd_bytes {r : Rdr} (h : Gd r) (m : Nat) : Gd (R1.bytes m r).2 := by
  intro hw
  have h1 := gd_num h m
  obtain ⟨l, w⟩ := r
  show (rdBytes m l w).2.1 = []
  replace hw : (rdBytes m l w).2.2 = true := hw
  unfold rdBytes at hw ⊢
  split at hw
  · rename_i hle
    rw [if_pos hle]
    have : (rdNum m l w).2.1 = [] := h1 hw
    rw [this]; simp
  · rename_i hle
    rw [if_neg hle]
theorem num_f {r : Rdr} (h : Gd r) (m : Nat) : rdNum m r.b_ false = rdNum m r.b_ r.wrong_ := by
  cases hw : r.wrong_ with
  | false => rfl
  | true => rw [h hw, num_nil, num_nil]
theorem byte_f {r : Rdr} (h : Gd r) : rdByte r.b_ false = rdByte r.b_ r.wrong_ := by
  cases hw : r.wrong_ with
  | false => rfl
  | true => rw [h hw]; rfl
theorem bytes_f {r : Rdr} (h : Gd r) (m : Nat) : rdBytes m r.b_ false = rdBytes m r.b_ r.wrong_ := by
  cases hw : r.wrong_ with
  | false => rfl
  | true => rw [h hw, bytes_nil, bytes_nil]
theorem dnum {r : Rdr} (h : RdOk r) (g : Gd r) {m : Int} (hm : U64 m) : oDNum r m = some ((R1.num m.toNat r).2, ((R1.num m.toNat r).1 : Int)) := by
  rw [oDNum_t h hm, num_f g]; rfl
theorem dbyte {r : Rdr} (g : Gd r) : oDByte r = some ((R1.byte r).2, (R1.byte r).1) := by
  unfold oDByte; rw [byte_f g]; rfl
theorem dbytes {r : Rdr} (h : RdOk r) (g : Gd r) {m : Int} (hm : I64 m) : oDBytes r m = some ((R1.bytes m.toNat r).2, (R1.bytes m.toNat r).1) := by
  rw [oDBytes_t h hm, bytes_f g]; rfl
theorem pN_gd (q : Int) {r : Rdr} (h : Gd r) : Gd (pN q r).2 := gd_bytes (gd_num (gd_byte (gd_num h _)) _) _
theorem wr_num {r : Rdr} (h : r.wrong_ = true) (m : Nat) : (R1.num m r).2.wrong_ = true := by
  show (rdNum m r.b_ r.wrong_).2.2 = true
  rw [h]; unfold rdNum; split <;> rfl
theorem wr_byte {r : Rdr} (h : r.wrong_ = true) : (R1.byte r).2.wrong_ = true := by
  show (r.wrong_ || _) = true
  rw [h]; rfl
theorem wr_bytes {r : Rdr} (h : r.wrong_ = true) (m : Nat) : (R1.bytes m r).2.wrong_ = true := by
  have h1 : (rdNum m r.b_ r.wrong_).2.2 = true := wr_num h m
  show (rdBytes m r.b_ r.wrong_).2.2 = true
  unfold rdBytes; split
  · exact h1
  · rfl
theorem pN_wr (q : Int) {r : Rdr} (h : r.wrong_ = true) : (pN q r).2.wrong_ = true := wr_bytes (wr_num (wr_byte (wr_num h _)) _) _
theorem repG_wr (d : Int) : ∀ n i r, r.wrong_ = true → (repG d i n r).2.wrong_ = true
  | 0, _, _, h => h
  | n + 1, i, r, h => repG_wr d n _ _ (pN_wr _ h)
theorem ldec2_loop {d : Int} {n : Nat} {r2 r3 : Rdr} (hn : n ≤ 32) : ∀ k i r acc fl, i + k = n → RdOk r → Gd r → acc.length = i → k < fl → lp (F_ldec2_b0 (r2, d) (r3, (n : Int))) fl ((i : Int), r, acc) =
    some (if r.wrong_ = true then .inr (r, acc) else if (repG d i k r).2.wrong_ = true then .inl (⟨0, []⟩, 3) else .inr ((repG d i k r).2, acc ++ (repG d i k r).1)) := by
  intro k
  induction k with
  | zero =>
    intro i r acc fl hi hr hg ha hf
    obtain ⟨m, rfl⟩ : ∃ m, fl = m + 1 := ⟨fl - 1, by omega⟩
    simp only [lp]
    unfold F_ldec2_b0
    dsimp only
    rw [decide_eq_false (by omega : ¬ (i : Int) < (n : Int)), Bool.false_and, ifb_0, bnd_s, ocs_2]
    cases hw : r.wrong_ <;> simp [repG, hw]
  | succ k ih =>
    intro i r acc fl hi hr hg ha hf
    obtain ⟨m, rfl⟩ : ∃ m, fl = m + 1 := ⟨fl - 1, by omega⟩
    cases hw : r.wrong_ with
    | true =>
      simp only [lp]
      unfold F_ldec2_b0
      dsimp only
      rw [hw, Bool.not_true, Bool.and_false, ifb_0, bnd_s, ocs_2]
      simp
    | false =>
      have e1 := L1.nok 4611686018427387904 _ hr
      have e2 := L1.bok _ e1
      have e3 := L1.nok 65535 _ e2
      have f1 := gd_num hg 4611686018427387904
      have f2 := gd_byte f1
      have f3 := gd_num f2 65535
      have g3 := L1.nle 65535 (R1.byte (R1.num 4611686018427387904 r).2).2
      have hP : (R1.bytes 40 (R1.num 65535 (R1.byte (R1.num 4611686018427387904 r).2).2).2).2 = (pN (sAt d i) r).2 := rfl
      simp only [lp]
      unfold F_ldec2_b0
      dsimp only
      rw [hw, decide_eq_true (by omega : (i : Int) < (n : Int)), Bool.true_and, Bool.not_false, ifb_1, dnum hr hg (by unfold U64; omega), bnd_s]
      show bnd (bnd (oDByte (R1.num 4611686018427387904 r).2) _) _ = _
      rw [dbyte f1, bnd_s]
      show bnd (bnd (oDNum (R1.byte (R1.num 4611686018427387904 r).2).2 65535) _) _ = _
      rw [dnum e2 f2 (by unfold U64; omega), bnd_s]
      show bnd (bnd (oDBytes (R1.num 65535 (R1.byte (R1.num 4611686018427387904 r).2).2).2 40) _) _ = _
      rw [dbytes e3 f3 (by unfold I64; omega), bnd_s]
      show bnd (ifb (pN (sAt d i) r).2.wrong_ _ _) _ = _
      rw [if_neg (by simp)]
      cases hpw : (pN (sAt d i) r).2.wrong_ with
      | true =>
        rw [ifb_1, bnd_s, ocs_2, repG]
        dsimp only
        rw [if_pos (repG_wr _ _ _ _ hpw)]
      | false =>
        rw [ifb_0, grd_t ⟨by simp; omega, by simp; omega⟩, bnd_s, ocs_1]
        have hi1 : IntKind.u64.wrap ((i : Int) + 1) = ((i + 1 : Nat) : Int) := wrap_u64 (by omega)
        have hs : IntKind.u64.wrap (IntKind.u64.wrap (d + (i : Int)) + 1) = sAt d i := by unfold sAt; rw [wrap_u64 (n := (i : Int)) (by omega)]
        have hc : IntKind.u16.wrap (((R1.num 65535 (R1.byte (R1.num 4611686018427387904 r).2).2).1 : Nat) : Int) = (((R1.num 65535 (R1.byte (R1.num 4611686018427387904 r).2).2).1 : Nat) : Int) := wrap_u16 (by omega)
        have := ih (i + 1) (pN (sAt d i) r).2 (acc ++ [(pN (sAt d i) r).1]) m (by omega) (pN_ok _ hr) (pN_gd _ hg) (by rw [List.length_append, ha]; rfl) (by omega)
        rw [hpw, if_neg (by simp)] at this
        rw [repG]
        dsimp only
        rw [show acc ++ ((pN (sAt d i) r).1 :: (repG d (i + 1) k (pN (sAt d i) r).2).1) = (acc ++ [(pN (sAt d i) r).1]) ++ (repG d (i + 1) k (pN (sAt d i) r).2).1 by simp, ← this, hi1, hs]
        have hx : (⟨sAt d i, (((R1.num 4611686018427387904 r).1 : Nat) : Int), (R1.byte (R1.num 4611686018427387904 r).2).1, IntKind.u16.wrap (((R1.num 65535 (R1.byte (R1.num 4611686018427387904 r).2).2).1 : Nat) : Int), strOf (R1.bytes 40 (R1.num 65535 (R1.byte (R1.num 4611686018427387904 r).2).2).2).1⟩ : Lin) = (pN (sAt d i) r).1 := by rw [hc]; rfl
        rw [← hx]
        rfl
theorem ldec2_eq {b : List Int} {fl : Nat} (hb : Bts b) (hl : b.length ≤ 100000000000000) (hf : 32 < fl) : F_ldec2 fl b = some ((decG b).1, numV (decG b).2) := by
  have h0 : RdOk ⟨b, false⟩ := ⟨hb, by show b.length ≤ _; omega⟩
  have k0 : Gd ⟨b, false⟩ := fun h => by cases h
  have h1 := L1.nok 4611686018427387904 _ h0
  have k1 := gd_num k0 4611686018427387904
  have h2 := L1.nok 32 _ h1
  have k2 := gd_num k1 32
  have g2 := L1.nle 32 (R1.num 4611686018427387904 ⟨b, false⟩).2
  have hd := num_u1 4611686018427387904 (by omega) ⟨b, false⟩
  unfold F_ldec2
  rw [dnum h0 k0 (by unfold U64; omega), bnd_s]
  show bnd (oDNum (R1.num 4611686018427387904 ⟨b, false⟩).2 32) _ = _
  rw [dnum h1 k1 (by unfold U64; omega), bnd_s]
  show bnd (lp (F_ldec2_b0 ((R1.num 4611686018427387904 ⟨b, false⟩).2, (((R1.num 4611686018427387904 ⟨b, false⟩).1 : Nat) : Int)) ((R1.num 32 (R1.num 4611686018427387904 ⟨b, false⟩).2).2, (((R1.num 32 (R1.num 4611686018427387904 ⟨b, false⟩).2).1 : Nat) : Int))) fl (((0 : Nat) : Int), (R1.num 32 (R1.num 4611686018427387904 ⟨b, false⟩).2).2, [])) _ = _
  rw [ldec2_loop g2 (R1.num 32 (R1.num 4611686018427387904 ⟨b, false⟩).2).1 0 _ [] fl (by omega) h2 k2 rfl (by omega), bnd_s]
  unfold decG
  dsimp only
  rw [List.nil_append]
  have hq := repG_lin (((R1.num 4611686018427387904 ⟨b, false⟩).1 : Nat) : Int) (R1.num 32 (R1.num 4611686018427387904 ⟨b, false⟩).2).1 0 _ h2
  have hql := repG_len (((R1.num 4611686018427387904 ⟨b, false⟩).1 : Nat) : Int) (R1.num 32 (R1.num 4611686018427387904 ⟨b, false⟩).2).1 0 (R1.num 32 (R1.num 4611686018427387904 ⟨b, false⟩).2).2
  have hqw := repG_wr (((R1.num 4611686018427387904 ⟨b, false⟩).1 : Nat) : Int) (R1.num 32 (R1.num 4611686018427387904 ⟨b, false⟩).2).1 0 (R1.num 32 (R1.num 4611686018427387904 ⟨b, false⟩).2).2
  generalize repG (((R1.num 4611686018427387904 ⟨b, false⟩).1 : Nat) : Int) 0 (R1.num 32 (R1.num 4611686018427387904 ⟨b, false⟩).2).1 (R1.num 32 (R1.num 4611686018427387904 ⟨b, false⟩).2).2 = q at hq hql hqw ⊢
  have hdd : (((R1.num (Int.toNat 4611686018427387904) ⟨b, false⟩).1 : Nat) : Int) = (((R1.num 4611686018427387904 ⟨b, false⟩).1 : Nat) : Int) := rfl
  simp only [hdd]
  generalize (((R1.num 4611686018427387904 ⟨b, false⟩).1 : Nat) : Int) = d at hd ⊢
  generalize (R1.num 32 (R1.num 4611686018427387904 ⟨b, false⟩).2) = r2 at g2 hql hqw ⊢
  cases hw : r2.2.wrong_ with
  | true =>
    have hqw := hqw hw
    rw [if_pos rfl, ocs_2]
    unfold oDDone
    dsimp only
    rw [bnd_s, hw]
    rw [if_neg (fun h => by rw [hqw] at h; cases h.1)]
    rfl
  | false =>
    rw [if_neg (by simp)]
    cases hqw : q.2.wrong_ with
    | true =>
      rw [if_pos rfl, ocs_1, if_neg (fun h => by cases h.1)]
      rfl
    | false =>
      rw [if_neg (by simp), ocs_2]
      unfold oDDone
      dsimp only
      rw [bnd_s, hqw]
      by_cases hb0 : q.2.b_ = []
      · show bnd (gif _ (F_lmay2 fl ⟨d, q.1⟩)) _ = _
        rw [lmay2_eq (p := ⟨d, q.1⟩) ⟨hd, hq⟩ (by show q.1.length < _; omega) (by show q.1.length < _; omega), gif_s, bnd_s, hb0]
        cases hok : okG ⟨d, q.1⟩ with
        | true => simp [numV]
        | false => simp [numV]
      · have : ¬ ((q.2.b_.length : Int) = 0) := fun h => hb0 (List.length_eq_zero_iff.1 (by omega))
        rw [decide_eq_false this, if_neg (fun h => hb0 h.2.1)]
        rfl

/-! ### There and back -/
theorem nb1 {n : Int} {m : Nat} (h : U64 n) (hm : n ≤ (m : Int)) (t : List Int) : R1.num m ⟨vb n.toNat ++ t, false⟩ = (n.toNat, ⟨t, false⟩) := by rw [L1.nf, num_back h hm]; rfl
theorem sb1 {s : ByteArray} {m : Nat} (h : s.size ≤ m) (hm : m < 18446744073709551616) (t : List Int) : R1.bytes m ⟨bsB (bytesOf s) ++ t, false⟩ = (bytesOf s, ⟨t, false⟩) := by rw [L1.sf, bytes_back h hm]; rfl
theorem bb1 (c : Int) (t : List Int) : R1.byte ⟨c :: t, false⟩ = (c, ⟨t, false⟩) := by rw [L1.bf]; simp [rdByte, rdr]
theorem pN_back {x : Lin} (ok : LinOk x) (h : one x = true) (t : List Int) : pN x.Seq ⟨encN x ++ t, false⟩ = (x, ⟨t, false⟩) := by
  obtain ⟨h1, h2⟩ := one_iff.1 h
  have hc : U64 x.Code := ⟨ok.code.1, by have := ok.code.2; omega⟩
  have i (n : Int) (h : U64 n) : ((n.toNat : Nat) : Int) = n := by have := h.1; omega
  unfold pN encN
  dsimp only
  rw [List.append_assoc, nb1 ok.who h1]
  dsimp only
  rw [List.cons_append, bb1]
  dsimp only
  rw [List.append_assoc, nb1 (m := 65535) hc (by have := ok.code.2; omega)]
  dsimp only
  rw [sb1 h2 (by decide), strOf_bytesOf, i _ ok.who, i _ hc]
theorem repG_back (d : Int) : ∀ (l : List Lin) (i : Nat), (∀ (j : Nat) (x : Lin), l[j]? = some x → LinOk x ∧ one x = true ∧ x.Seq = sAt d (i + j)) → ∀ t, repG d i l.length ⟨l.flatMap encN ++ t, false⟩ = (l, ⟨t, false⟩)
  | [], _, _, _ => rfl
  | a :: l, i, h, t => by
    obtain ⟨h1, h2, h3⟩ := h 0 a rfl
    rw [List.length_cons, repG, List.flatMap_cons, List.append_assoc, show sAt d i = a.Seq from h3.symm, pN_back h1 h2]
    dsimp only
    rw [repG_back d l (i + 1) (fun j x hx => by have := h (j + 1) x (by simpa using hx); rwa [show i + (j + 1) = i + 1 + j by omega] at this)]
theorem dec_back {p : Lgr} (ok : LgrOk p) (o : Okay p) : decG (encG p) = (p, none) := by
  have i (n : Int) (h : U64 n) : ((n.toNat : Nat) : Int) = n := by have := h.1; omega
  have hn : R1.num 32 ⟨vb p.L.length ++ p.L.flatMap encN, false⟩ = (p.L.length, ⟨p.L.flatMap encN, false⟩) := by
    have := nb1 (n := (p.L.length : Int)) (m := 32) ⟨by omega, by have := o.n; omega⟩ (by have := o.n; omega) (p.L.flatMap encN)
    rwa [Int.toNat_natCast] at this
  unfold decG encG
  dsimp only
  rw [nb1 ok.d o.d]
  dsimp only
  rw [hn, i _ ok.d]
  dsimp only
  have hb := repG_back p.Dropped p.L 0 (fun j x hx => ⟨ok.l x (List.mem_of_getElem? hx), (o.l j x hx).1, by rw [Nat.zero_add]; exact (o.l j x hx).2⟩) []
  rw [List.append_nil] at hb
  rw [hb]
  dsimp only
  rw [if_pos ⟨rfl, rfl, okG_iff.2 o⟩]
theorem encG_bts {p : Lgr} (ok : LgrOk p) (hl : p.L.length ≤ 32) : Bts (encG p) := by
  have hv : ∀ n, Bts (vb n) := fun n => vb_bts n
  have hbs : ∀ s : ByteArray, Bts (bytesOf s) := fun s x hx => by
    simp only [bytesOf, List.mem_map] at hx
    obtain ⟨c, _, rfl⟩ := hx
    have := c.toNat_lt
    exact ⟨by omega, by omega⟩
  refine (hv _).app ((hv _).app fun y hy => ?_)
  obtain ⟨x, hx, hy⟩ := List.mem_flatMap.1 hy
  have k := ok.l x hx
  have : Bts (encN x) := (hv _).app (Bts.cons k.what.1 k.what.2 ((hv _).app ((hv _).app (hbs _))))
  exact this y hy
end Go.Proofs.YtmnhfpcbfdgbcaaDoor.Eng.A

/- Ledgers, in plain Lean: the laws. -/
namespace Go.Proofs.YtmnhfpcbfdgbcaaDoor.Eng.A
set_option linter.unusedVariables false
set_option linter.unusedSimpArgs false
open Go.RowKit Go.Proofs.YtmnhfpcbfdgbcaaDoor.Plain Go.Proofs.YtmnhfpcbfdgbcaaDoor.Eng Go.Proofs.YtmnhfpcbfdgbcaaDoor.Eng.Pk Go.Proofs.YtmnhfpcbfdgbcaaDoor.Eng.Rd Go.Proofs.YtmnhfpcbfdgbcaaDoor.Eng.Er

theorem lare_eq {l m : List Lin} {fl : Nat} (hl : l.length < 1000000000000000000) (hf : l.length < fl) : F_lare fl l m = some (decide (l = m)) := by
  unfold F_lare
  rw [ifb_dec]
  by_cases h : l.length = m.length
  · rw [if_neg (by omega), lp_cmp (body := F_lare_b0 l m) qL qL_iff h (fun t => by unfold F_lare_b0; rw [h]; rfl) hl hf]
    by_cases e : l = m <;> simp [e]
  · rw [if_pos (by omega), decide_eq_false (fun e => h (by rw [e]))]
theorem lgive_eq {p : Lgr} {fl : Nat} (hl : p.L.length * 40 ≤ 140737488355328) (hf : p.L.length < fl) : F_lgive fl p = some p := by
  unfold F_lgive
  rw [lp_copy (l := p.L) (n := 40) (body := F_lgive_b0 p) (fun t => rfl) hl (by omega) hf, bnd_s]

/-! ### What must come whatever the input is -/
def x1 : Lin := ⟨1, 7, 2, 12, ⟨#[97]⟩⟩
theorem x1_ok : LinOk x1 := ⟨by decide, by decide, by decide, by decide⟩
theorem g1_ok : LgrOk ⟨0, [x1]⟩ := ⟨by decide, fun x hx => by rw [List.mem_singleton.1 hx]; exact x1_ok⟩
theorem g1_okay : Okay ⟨0, [x1]⟩ := okG_iff.1 (by decide +kernel)
theorem g0_ok : LgrOk ⟨0, []⟩ := ⟨by decide, fun x hx => by cases hx⟩
theorem dec_nil : decG [] = (⟨0, []⟩, some 3) := by
  have h1 : R1.num 4611686018427387904 ⟨[], false⟩ = (0, ⟨[], true⟩) := by
    show ((rdNum 4611686018427387904 [] false).1, rdr (rdNum 4611686018427387904 [] false).2) = _
    rw [num_nil]; rfl
  have h2 : R1.num 32 ⟨[], true⟩ = (0, ⟨[], true⟩) := by
    show ((rdNum 32 [] true).1, rdr (rdNum 32 [] true).2) = _
    rw [num_nil]; rfl
  unfold decG
  dsimp only
  rw [h1]
  dsimp only
  rw [h2]
  dsimp only
  rw [if_neg (fun h => by simp [repG] at h)]
theorem sure30_eq {fl : Nat} (hf : 32 < fl) : F_sure30 fl = some true := by
  have ha : addG ⟨0, []⟩ ⟨0, 7, 2, 12, ⟨#[97]⟩⟩ = (⟨0, [x1]⟩, none) := by decide +kernel
  have hl : (encG ⟨0, [x1]⟩).length = 7 := by
    have hb : (bytesOf x1.Key).length = 1 := by decide
    simp only [encG, encN, bsB, List.length_append, List.flatMap_cons, List.flatMap_nil, List.length_cons, List.length_nil, hb]
    rw [vb_small (by decide), vb_small (by decide), vb_small (by decide), vb_small (by decide)]
    rfl
  have hok : okG ⟨0, [x1]⟩ = true := okG_iff.2 g1_okay
  unfold F_sure30
  rw [ladd_eq g0_ok hf, ha, bnd_s, lenc_eq g1_ok hf, hok, if_pos rfl, bnd_s, ldec_eq (encG_bts g1_ok (by decide)) (by rw [hl]; decide) hf, dec_back g1_ok g1_okay, bnd_s, ldec_eq Bts.nil (by decide) hf, dec_nil, bnd_s, grd_t (fun _ => by decide)]
  dsimp only
  rw [hl]
  decide

/-! ### The laws -/
theorem lTells_eq {p : Lgr} {x : Lin} {b : List Int} {fl : Nat} (ok : LgrOk p) (hb : Bts b) (hf : 100 < fl) (hfl : p.L.length < fl) : F_lTells fl p x b = some true := by
  unfold F_lTells
  generalize hA : (((decide (60 < (p.L.length : Int))) || (decide (100 < (x.Key.size : Int)))) || (decide (3000 < (b.length : Int)))) = A
  cases A with
  | true => rw [ifb_1, sure30_eq (by omega), bnd_s]
  | false =>
    simp only [Bool.or_eq_false_iff, decide_eq_false_iff_not] at hA
    obtain ⟨⟨h1, h2⟩, h3⟩ := hA
    rw [ifb_0]
    have hloop : lp (F_lTells_b0 fl p) fl 0 = some (.inr ()) ∨ lp (F_lTells_b0 fl p) fl 0 = some (.inl true) := by
      rcases lp_find (l := p.L) (body := F_lTells_b0 fl p) (fun y => decide (100 < (y.Key.size : Int))) (fun _ => true) (fl := fl) (fun i y hy => by
          have hi := (List.getElem?_eq_some_iff.1 hy).1
          unfold F_lTells_b0
          rw [ifb_dec, if_pos (by omega), ixb_n hy, sure30_eq (by omega), bnd_s, wrap_i64 (by omega)]; rfl) (by unfold F_lTells_b0; rw [ifb_dec, if_neg (by omega)]) hfl with ⟨_, h⟩ | ⟨_, i, h⟩
      · exact .inl h
      · exact .inr h
    rcases hloop with h | h
    · rw [h, bnd_s, ocs_2, lgive_eq (by omega) hfl, bnd_s, ladd_eq ok (by omega), bnd_s, ladd2_eq ok (by omega) hfl, bnd_s, lsince_eq (by omega), bnd_s, lsince2_eq ok (by omega) hfl, bnd_s, lenc_eq ok (by omega), bnd_s, lenc2_eq ok (by omega) hfl, bnd_s,
        ldec_eq hb (by omega) (by omega), bnd_s, ldec2_eq hb (by omega) (by omega), bnd_s]
      have hal : (addG p x).1.L.length < 100 := by
        unfold addG
        split
        · split
          · decide
          · split <;> simp <;> omega
        · decide
      have hsl : (if okG p = true then (p.L.filter fun y => decide (x.Seq ≤ y.Seq), (0 : Int)) else ([], 1)).1.length < 100 := by
        split
        · have := List.length_filter_le (fun y => decide (x.Seq ≤ y.Seq)) p.L
          show (p.L.filter _).length < _; omega
        · decide
      have hdl : (decG b).1.L.length ≤ 32 := by
        unfold decG
        dsimp only
        split
        · show (repG _ 0 _ _).1.length ≤ _; rw [repG_len]; exact L1.nle _ _
        · decide
      generalize addG p x = a at hal ⊢
      generalize decG b = d at hdl ⊢
      have e1 : F_lare fl a.1.L a.1.L = some true := by rw [lare_eq (by omega) (by omega), decide_eq_true rfl]
      have e3 : F_lare fl d.1.L d.1.L = some true := by rw [lare_eq (by omega) (by omega), decide_eq_true rfl]
      have e4 : F_lare fl p.L p.L = some true := by rw [lare_eq (by omega) (by omega), decide_eq_true rfl]
      cases hok : okG p with
      | true =>
        simp only [hok, if_true] at hsl
        have e2 : F_lare fl (p.L.filter fun y => decide (x.Seq ≤ y.Seq)) (p.L.filter fun y => decide (x.Seq ≤ y.Seq)) = some true := by rw [lare_eq (by omega) (by omega), decide_eq_true rfl]
        simp [e1, e2, e3, e4, oNumG, numV, lcheck_eq (p := p) (fl := fl) (by omega), lmay2_eq ok (fl := fl) (by omega) hfl, sure30_eq (fl := fl) (by omega), hok]
      | false =>
        have e2 : F_lare fl [] [] = some true := by rw [lare_eq (by decide) (by show 0 < fl; omega), decide_eq_true rfl]
        simp [e1, e2, e3, e4, oNumG, numV, lcheck_eq (p := p) (fl := fl) (by omega), lmay2_eq ok (fl := fl) (by omega) hfl, sure30_eq (fl := fl) (by omega), hok]
    · rw [h, bnd_s, ocs_1]

/-- What the lines that were added leave. -/
structure Kept (i : Nat) (all : List Lin) (x : Lgr) : Prop where
  n : all.length ≤ i
  ok : LgrOk x
  o : Okay x
  e : x.L = all.drop (all.length - x.L.length)
  k : x.L.length ≤ all.length
  d : x.Dropped = ((all.length - x.L.length : Nat) : Int)
  f : x.L.length = 32 ∨ x.L.length = all.length
theorem kept_add {i : Nat} {all : List Lin} {x : Lgr} {y : Lin} (h : Kept i all x) (hi : i < 80) (hy : LinOk y) (h1 : one y = true) :
    Kept (i + 1) (all ++ [⟨((all.length : Nat) : Int) + 1, y.Who, y.What, y.Code, y.Key⟩]) (addG x y).1 ∧ (addG x y).2 = none := by
  have hk := h.k; have hn := h.n; have hd := h.d; have hL := h.o.n
  have hs : addL x y = ⟨((all.length : Nat) : Int) + 1, y.Who, y.What, y.Code, y.Key⟩ := by
    unfold addL sAt
    rw [wrap_u64 (n := (x.L.length : Int)) (by omega), wrap_u64 (n := x.Dropped + x.L.length) (by omega), wrap_u64 (by omega)]
    congr 1
    omega
  have hz : LinOk ⟨((all.length : Nat) : Int) + 1, y.Who, y.What, y.Code, y.Key⟩ := ⟨⟨by show (0 : Int) ≤ all.length + 1; omega, by show (all.length : Int) + 1 < _; omega⟩, hy.who, hy.what, hy.code⟩
  have hone : one ⟨((all.length : Nat) : Int) + 1, y.Who, y.What, y.Code, y.Key⟩ = true := h1
  unfold addG
  rw [if_pos ⟨okG_iff.2 h.o, h1⟩, if_neg (by omega), hs]
  generalize hz0 : (⟨((all.length : Nat) : Int) + 1, y.Who, y.What, y.Code, y.Key⟩ : Lin) = z at hz hone ⊢
  have hzs : z.Seq = ((all.length : Nat) : Int) + 1 := by rw [← hz0]
  have hseq : ∀ (d : Int) (j : Nat), 0 ≤ d → d + j < 1000 → sAt d j = d + j + 1 := fun d j h1 h2 => by
    unfold sAt
    rw [wrap_u64 (n := (j : Int)) (by omega), wrap_u64 (n := d + j) (by omega), wrap_u64 (by omega)]
  have hal : (all ++ [z]).length = all.length + 1 := by simp
  by_cases h32 : x.L.length = 32
  · rw [if_pos h32]
    have hl : (x.L.drop 1 ++ [z]).length = 32 := by simp; omega
    refine ⟨⟨by omega, ⟨⟨by show (0 : Int) ≤ x.Dropped + 1; omega, by show x.Dropped + 1 < _; omega⟩, fun w hw => ?_⟩, ⟨by show x.Dropped + 1 ≤ _; omega, by show (x.L.drop 1 ++ [z]).length ≤ _; omega, fun h => by replace h : (x.L.drop 1 ++ [z]).length < 32 := h; omega, fun j w hw => ?_⟩, ?_, by show (x.L.drop 1 ++ [z]).length ≤ _; omega, by show x.Dropped + 1 = (((all ++ [z]).length - (x.L.drop 1 ++ [z]).length : Nat) : Int); omega, .inl hl⟩, rfl⟩
    · rcases List.mem_append.1 hw with hw | hw
      · exact h.ok.l w (List.mem_of_mem_drop hw)
      · rw [List.mem_singleton.1 hw]; exact hz
    · replace hw : (x.L.drop 1 ++ [z])[j]? = some w := hw
      have hj := (List.getElem?_eq_some_iff.1 hw).1
      show one w = true ∧ w.Seq = sAt (x.Dropped + 1) j
      rw [hseq _ _ (by omega) (by omega)]
      by_cases hjl : j < 31
      · rw [List.getElem?_append_left (by simp; omega), List.getElem?_drop] at hw
        have := h.o.l _ _ hw
        rw [hseq _ _ (by omega) (by omega)] at this
        exact ⟨this.1, by rw [this.2]; omega⟩
      · rw [List.getElem?_append_right (by simp; omega)] at hw
        have : j - (x.L.drop 1).length = 0 := by simp; omega
        rw [this] at hw
        cases hw
        exact ⟨hone, by rw [hzs]; omega⟩
    · show x.L.drop 1 ++ [z] = (all ++ [z]).drop ((all ++ [z]).length - (x.L.drop 1 ++ [z]).length)
      rw [hl, hal, List.drop_append_of_le_length (by omega), h.e, List.drop_drop]
      congr 2
      omega
  · have hall : x.L.length = all.length := h.f.resolve_left h32
    have hd0 : x.Dropped = 0 := by omega
    rw [if_neg h32]
    have hl : (x.L ++ [z]).length = x.L.length + 1 := by simp
    refine ⟨⟨by omega, ⟨h.ok.d, fun w hw => ?_⟩, ⟨h.o.d, by show (x.L ++ [z]).length ≤ _; omega, fun _ => by show x.Dropped ≤ 0; omega, fun j w hw => ?_⟩, ?_, by show (x.L ++ [z]).length ≤ _; omega, by show x.Dropped = (((all ++ [z]).length - (x.L ++ [z]).length : Nat) : Int); omega, .inr (by show (x.L ++ [z]).length = _; omega)⟩, rfl⟩
    · rcases List.mem_append.1 hw with hw | hw
      · exact h.ok.l w hw
      · rw [List.mem_singleton.1 hw]; exact hz
    · replace hw : (x.L ++ [z])[j]? = some w := hw
      have hj := (List.getElem?_eq_some_iff.1 hw).1
      show one w = true ∧ w.Seq = sAt x.Dropped j
      by_cases hjl : j < x.L.length
      · rw [List.getElem?_append_left hjl] at hw
        exact h.o.l _ _ hw
      · rw [List.getElem?_append_right (by omega)] at hw
        have : j - x.L.length = 0 := by omega
        rw [this] at hw
        cases hw
        exact ⟨hone, by rw [hzs, hseq _ _ (by omega) (by omega)]; omega⟩
    · show x.L ++ [z] = (all ++ [z]).drop ((all ++ [z]).length - (x.L ++ [z]).length)
      have : (all ++ [z]).length - (x.L ++ [z]).length = 0 := by omega
      rw [this, List.drop_zero]
      have he := h.e
      rw [hall, Nat.sub_self, List.drop_zero] at he
      rw [he]
theorem kept_loop {l : List Lin} {fl0 : Nat} (hok : ∀ x ∈ l, LinOk x) (hf0 : 100 < fl0) : ∀ k i all x fl, i + k = min l.length 80 → Kept i all x → k < fl →
    ∃ all' x', lp (F_lKeeps_b0 fl0 l) fl (all, (i : Int), x) = some (.inr (all', x')) ∧ Kept (min l.length 80) all' x' := by
  intro k
  induction k with
  | zero =>
    intro i all x fl hi hK hf
    obtain ⟨m, rfl⟩ : ∃ m, fl = m + 1 := ⟨fl - 1, by omega⟩
    refine ⟨all, x, ?_, by rw [← hi]; exact hK⟩
    simp only [lp]
    unfold F_lKeeps_b0
    dsimp only
    have : (decide ((i : Int) < (l.length : Int)) && decide ((i : Int) < 80)) = false := by
      by_cases h1 : (i : Int) < l.length
      · have : ¬ (i : Int) < 80 := by omega
        simp [this]
      · simp [h1]
    rw [this, ifb_0, bnd_s, ocs_2]
  | succ k ih =>
    intro i all x fl hi hK hf
    obtain ⟨m, rfl⟩ : ∃ m, fl = m + 1 := ⟨fl - 1, by omega⟩
    have hil : i < l.length := by omega
    have hx := List.getElem?_eq_getElem (l := l) (i := i) hil
    have hy := hok _ (List.getElem_mem hil)
    have hn := hK.n
    generalize l[i] = y at hx hy
    have h80 : (i : Int) < 80 := by omega
    have hi1 : IntKind.i64.wrap ((i : Int) + 1) = ((i + 1 : Nat) : Int) := wrap_i64 (by omega)
    simp only [lp]
    unfold F_lKeeps_b0
    dsimp only
    rw [decide_eq_true (by omega : (i : Int) < (l.length : Int)), decide_eq_true h80, Bool.and_true, ifb_1, ixb_n hx, grd_t (fun _ => belo hil), getD_n hx]
    cases h1 : one y with
    | false =>
      have : (decide (40 < (y.Key.size : Int)) || decide (4611686018427387904 < y.Who)) = true := by
        have hno : ¬ (y.Who ≤ 4611686018427387904 ∧ y.Key.size ≤ 40) := fun h => by rw [one_iff.2 h] at h1; cases h1
        by_cases ha : y.Who ≤ 4611686018427387904
        · have : 40 < (y.Key.size : Int) := by
            have : ¬ y.Key.size ≤ 40 := fun h => hno ⟨ha, h⟩
            omega
          simp [this]
        · have : 4611686018427387904 < y.Who := by omega
          simp [this]
      rw [this, ifb_1, bnd_s, ocs_2, bnd_s, ocs_1, hi1]
      exact ih (i + 1) all x m (by omega) ⟨by have := hK.n; omega, hK.ok, hK.o, hK.e, hK.k, hK.d, hK.f⟩ (by omega)
    | true =>
      obtain ⟨ha, hb⟩ := one_iff.1 h1
      have : (decide (40 < (y.Key.size : Int)) || decide (4611686018427387904 < y.Who)) = false := by
        rw [decide_eq_false (by omega), decide_eq_false (by omega)]; rfl
      obtain ⟨hk1, hk2⟩ := kept_add hK (by omega) hy h1
      rw [this, ifb_0, ixb_n hx, ladd_eq hK.ok (by omega), bnd_s, hk2, Option.isSome_none, ifb_0, ixb_n hx, grd_t ⟨by simp; omega, by simp; omega⟩, bnd_s, ocs_2, bnd_s, ocs_1, hi1]
      dsimp only
      rw [wrap_u64 (n := (all.length : Int)) (by omega), wrap_u64 (by omega)]
      exact ih (i + 1) _ _ m (by omega) hk1 (by omega)
theorem lKeeps_eq {l : List Lin} {fl : Nat} (hok : ∀ x ∈ l, LinOk x) (hf : 100 < fl) : F_lKeeps fl l = some true := by
  obtain ⟨all, x, h1, hK⟩ := kept_loop hok hf (min l.length 80) 0 [] ⟨0, []⟩ fl (by omega) ⟨Nat.le_refl _, g0_ok, okG_iff.1 (by decide +kernel), rfl, Nat.le_refl _, rfl, .inr rfl⟩ (by omega)
  have hn := hK.n; have hk := hK.k; have hd := hK.d; have hL := hK.o.n; have hff := hK.f
  have hal : all.length ≤ 80 := by omega
  unfold F_lKeeps
  rw [show ((([] : List Lin), (0 : Int), (⟨0, []⟩ : Lgr)) = (([] : List Lin), ((0 : Nat) : Int), (⟨0, []⟩ : Lgr))) from rfl, h1, bnd_s, ocs_2]
  dsimp only
  have hw : IntKind.i64.wrap ((all.length : Int) - (x.L.length : Int)) = ((all.length - x.L.length : Nat) : Int) := by rw [wrap_i64 (by omega)]; omega
  have hw2 : IntKind.u64.wrap ((all.length - x.L.length : Nat) : Int) = ((all.length - x.L.length : Nat) : Int) := wrap_u64 (by omega)
  rw [hw, hw2, Int.toNat_natCast]
  have ht : (((((decide (((all.length - x.L.length : Nat) : Int) < 0)) || (decide (32 < (x.L.length : Int)))) || ((decide (0 < ((all.length - x.L.length : Nat) : Int))) && (decide ((x.L.length : Int) ≠ 32)))) || (decide (x.Dropped ≠ ((all.length - x.L.length : Nat) : Int))))) = false := by
    rw [decide_eq_false (by omega), decide_eq_false (by omega), decide_eq_false (by omega : ¬ x.Dropped ≠ ((all.length - x.L.length : Nat) : Int))]
    rcases hff with h | h
    · rw [decide_eq_false (by omega : ¬ ((x.L.length : Int) ≠ 32))]; simp
    · rw [decide_eq_false (by omega : ¬ (0 : Int) < ((all.length - x.L.length : Nat) : Int))]; rfl
  have hare : F_lare fl x.L (all.drop (all.length - x.L.length)) = some true := by
    rw [← hK.e, lare_eq (by omega) (by omega), decide_eq_true rfl]
  have hup : UpTo ((all.length - x.L.length : Nat) : Int) all.length := ⟨by omega, by rw [Int.toNat_natCast]; omega⟩
  have hb : (encG x).length ≤ 100000000000000 := by
    have h1 := flat_le (f := encN) (n := 71) x.L (fun y hy => by
      obtain ⟨i, hi⟩ := List.mem_iff_getElem?.1 hy
      exact encN_le (hK.ok.l y hy) (hK.o.l i y hi).1)
    have h2 := vb_le hK.ok.d
    have h3 := vbn_le (n := x.L.length) (by omega)
    unfold encG
    simp only [List.length_append]
    omega
  rw [ht, grd_t (fun _ => hup), BEq.rfl, gif_1, hare, bnd_s, Bool.not_true, Bool.or_self, ifb_0, lenc_eq hK.ok (by omega), okG_iff.2 hK.o, if_pos rfl, bnd_s, ldec_eq (encG_bts hK.ok hL) hb (by omega), dec_back hK.ok hK.o, bnd_s, grd_t (fun _ => hup)]
  dsimp only
  simp [hare, sure30_eq (fl := fl) (by omega)]
end Go.Proofs.YtmnhfpcbfdgbcaaDoor.Eng.A
