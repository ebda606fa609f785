/- Loops in plain Lean: what the laws share. -/
import Derived.Test.YtokcgacehdgkcaaGreatDoorEngX4
import Derived.Test.YtokcgacehdgkcaaGreatDoorEC4
import Derived.Lib.ItoaNum
import Derived.Lib.ParseIntB
import Derived.Lib.IndexLaws
namespace Go.Proofs.YtokcgacehdgkcaaGreatDoor.Eng.A
set_option linter.unusedVariables false
set_option linter.unusedSimpArgs false
open Go.RowKit Go.Proofs.YtokcgacehdgkcaaGreatDoor.Eng

theorem lp_go {T O : Type} {body : T → Option (T ⊕ O)} {m : Nat} {t u : T} (h : body t = some (.inl u)) : lp body (m + 1) t = lp body m u := by rw [lp, h]; rfl
theorem lp_end {T O : Type} {body : T → Option (T ⊕ O)} {m : Nat} {t : T} {o : O} (h : body t = some (.inr o)) : lp body (m + 1) t = some o := by rw [lp, h]; rfl
end Go.Proofs.YtokcgacehdgkcaaGreatDoor.Eng.A

/- Loops over a list, in plain Lean: by a step that goes on, or ends. -/
namespace Go.Proofs.YtokcgacehdgkcaaGreatDoor.Eng.A
set_option linter.unusedVariables false
set_option linter.unusedSimpArgs false
open Go.RowKit Go.Proofs.YtokcgacehdgkcaaGreatDoor.Eng

def fo {A S O : Type} (f : S → A → S ⊕ O) (e : S → O) : S → List A → O
  | s, [] => e s
  | s, x :: l => match f s x with
    | .inl s' => fo f e s' l
    | .inr o => o
theorem fo_nil {A S O : Type} (f : S → A → S ⊕ O) (e : S → O) (s : S) : fo f e s [] = e s := rfl
theorem fo_l {A S O : Type} {f : S → A → S ⊕ O} {e : S → O} {s s' : S} {x : A} {l : List A} (h : f s x = .inl s') : fo f e s (x :: l) = fo f e s' l := by rw [fo, h]
theorem fo_r {A S O : Type} {f : S → A → S ⊕ O} {e : S → O} {s : S} {o : O} {x : A} {l : List A} (h : f s x = .inr o) : fo f e s (x :: l) = o := by rw [fo, h]
theorem lp_fo {A S T O : Type} {l : List A} (mk : Nat → S → T) {body : T → Option (T ⊕ O)} (f : S → A → S ⊕ O) (e : S → O) (I : Nat → S → Prop) {fl : Nat} {s0 : S} (h0 : I 0 s0)
    (hs : ∀ i x s, l[i]? = some x → I i s → (∃ s', f s x = .inl s' ∧ body (mk i s) = some (.inl (mk (i + 1) s')) ∧ I (i + 1) s') ∨ (∃ o, f s x = .inr o ∧ body (mk i s) = some (.inr o)))
    (he : ∀ s, I l.length s → body (mk l.length s) = some (.inr (e s))) (hf : l.length < fl) : lp body fl (mk 0 s0) = some (fo f e s0 l) := by
  have key : ∀ (m : List A) i s fl, l.drop i = m → i ≤ l.length → m.length < fl → I i s → lp body fl (mk i s) = some (fo f e s m) := by
    intro m
    induction m with
    | nil =>
      intro i s fl hd hi hf hI
      obtain ⟨k, rfl⟩ : ∃ k, fl = k + 1 := ⟨fl - 1, by simp at hf; omega⟩
      have : i = l.length := by
        have := congrArg List.length hd
        rw [List.length_drop] at this
        simp at this; omega
      subst this
      rw [lp_end (he s hI)]; rfl
    | cons x m ih =>
      intro i s fl hd hi hf hI
      obtain ⟨k, rfl⟩ : ∃ k, fl = k + 1 := ⟨fl - 1, by simp at hf; omega⟩
      have hlt : i < l.length := by
        have := congrArg List.length hd
        rw [List.length_drop] at this
        simp at this; omega
      have hx : l[i]? = some x := by
        have := congrArg (fun m => m[0]?) hd
        simpa using this
      rcases hs i x s hx hI with ⟨s', h1, h2, h3⟩ | ⟨o, h1, h2⟩
      · rw [lp_go h2, fo_l h1]
        exact ih (i + 1) s' k (by rw [← List.drop_drop, hd]; rfl) hlt (by simp at hf; omega) h3
      · rw [lp_end h2, fo_r h1]
  exact key l 0 s0 fl rfl (Nat.zero_le _) hf h0
end Go.Proofs.YtokcgacehdgkcaaGreatDoor.Eng.A

/- Bytes and readers, in plain Lean. -/
namespace Go.Proofs.YtokcgacehdgkcaaGreatDoor.Eng.A
set_option linter.unusedVariables false
set_option linter.unusedSimpArgs false
open Go.RowKit Go.Proofs.YtokcgacehdgkcaaGreatDoor.Plain Go.Proofs.YtokcgacehdgkcaaGreatDoor.Eng Go.Proofs.YtokcgacehdgkcaaGreatDoor.Eng.Pk Go.Proofs.YtokcgacehdgkcaaGreatDoor.Eng.Rd

theorem oNum_t {l : List Int} {n : Int} (h : Wrd l.length) (h2 : U64 n) : oNum l n = some (l ++ vb n.toNat) := grd_t ⟨h, h2⟩ _
theorem oByte_t {l : List Int} {n : Int} (h : Wrd l.length) : oByte l n = some (l ++ [n]) := grd_t h _
def bsB (m : List Int) : List Int := vb m.length ++ m
theorem oBytes_t {l m : List Int} (h : Wrd (l.length + m.length)) : oBytes l m = some (l ++ bsB m) := grd_t h _
theorem u64_nat {n : Int} (h : U64 n) : n.toNat < 18446744073709551616 := by have := h.1; have := h.2; omega
theorem num_sub (m : Nat) (l : List Int) (b : Bool) : ∃ k, (rdNum m l b).2.1 = l.drop k := by
  unfold rdNum; split
  · exact ⟨_, rfl⟩
  · exact ⟨l.length, by simp⟩
theorem byte_sub (l : List Int) (b : Bool) : ∃ k, (rdByte l b).2.1 = l.drop k := ⟨1, by simp [rdByte]⟩
theorem bytes_sub (m : Nat) (l : List Int) (b : Bool) : ∃ k, (rdBytes m l b).2.1 = l.drop k := by
  unfold rdBytes; split
  · obtain ⟨k, hk⟩ := num_sub m l b
    exact ⟨_, by rw [hk, List.drop_drop]⟩
  · exact ⟨l.length, by simp⟩
theorem rdok_sub {r : Rdr} (h : RdOk r) {l : List Int} {b : Bool} (hl : ∃ k, l = r.b_.drop k) : RdOk ⟨l, b⟩ := by
  obtain ⟨k, rfl⟩ := hl
  exact ⟨h.1.drop k, by have := h.2; show (r.b_.drop k).length ≤ _; rw [List.length_drop]; omega⟩
theorem rdok_num {r : Rdr} (h : RdOk r) (m : Nat) : RdOk (rdr (rdNum m r.b_ r.wrong_).2) := rdok_sub h (num_sub _ _ _)
theorem rdok_byte {r : Rdr} (h : RdOk r) : RdOk (rdr (rdByte r.b_ r.wrong_).2) := rdok_sub h (byte_sub _ _)
theorem rdok_bytes {r : Rdr} (h : RdOk r) (m : Nat) : RdOk (rdr (rdBytes m r.b_ r.wrong_).2) := rdok_sub h (bytes_sub _ _ _)
theorem byte_rg {r : Rdr} (h : RdOk r) (b : Bool) : 0 ≤ (rdByte r.b_ b).1 ∧ (rdByte r.b_ b).1 < 256 := by
  obtain ⟨l, w⟩ := r
  cases l with
  | nil => simp [rdByte]
  | cons c t => exact h.1 c (List.mem_cons_self)
theorem oRNum_t {r : Rdr} (h : RdOk r) {m : Int} (hm : U64 m) : oRNum r m = some (((rdNum m.toNat r.b_ r.wrong_).1 : Int), rdr (rdNum m.toNat r.b_ r.wrong_).2) := grd_t ⟨h, hm⟩ _
theorem oRBytes_t {r : Rdr} (h : RdOk r) {m : Int} (hm : I64 m) : oRBytes r m = some ((rdBytes m.toNat r.b_ r.wrong_).1, rdr (rdBytes m.toNat r.b_ r.wrong_).2) := grd_t ⟨h, hm⟩ _
theorem oDNum_t {r : Rdr} (h : RdOk r) {m : Int} (hm : U64 m) : oDNum r m = some (rdr (rdNum m.toNat r.b_ false).2, ((rdNum m.toNat r.b_ false).1 : Int)) := grd_t ⟨h, hm⟩ _
theorem oDBytes_t {r : Rdr} (h : RdOk r) {m : Int} (hm : I64 m) : oDBytes r m = some (rdr (rdBytes m.toNat r.b_ false).2, (rdBytes m.toNat r.b_ false).1) := grd_t ⟨h, hm⟩ _
theorem num_lim (m : Nat) (l : List Int) (b : Bool) : 0 ≤ (((rdNum m l b).1 : Nat) : Int) ∧ (((rdNum m l b).1 : Nat) : Int) ≤ (m : Int) := by
  have := (rdNum_le m l b).1; omega
theorem num_back {n : Int} {m : Nat} (h : U64 n) (hm : n ≤ (m : Int)) (t : List Int) : rdNum m (vb n.toNat ++ t) false = (n.toNat, t, false) := rdNum_vb (u64_nat h) (by have := h.1; omega) t false
theorem bytes_back {s : ByteArray} {m : Nat} (h : s.size ≤ m) (hm : m < 18446744073709551616) (t : List Int) : rdBytes m (bsB (bytesOf s) ++ t) false = (bytesOf s, t, false) := by
  unfold bsB; rw [List.append_assoc]
  exact rdBytes_vb (by rw [bytesOf_length]; exact h) (by rw [bytesOf_length]; omega) false
/-! ### Numbers have one form -/
end Go.Proofs.YtokcgacehdgkcaaGreatDoor.Eng.A

/- A reference as a text, and back, in plain Lean. -/
namespace Go.Proofs.YtokcgacehdgkcaaGreatDoor.Eng.A
set_option linter.unusedVariables false
set_option linter.unusedSimpArgs false
open Go.RowKit Go.Proofs.YtokcgacehdgkcaaGreatDoor.Plain Go.Proofs.YtokcgacehdgkcaaGreatDoor.Eng Go.Proofs.YtokcgacehdgkcaaGreatDoor.Eng.Pk Go.Proofs.YtokcgacehdgkcaaGreatDoor.Eng.Rd Go.Lib

theorem u8_nat {n : Nat} (h : n < 256) : (UInt8.ofNat n).toNat = n := by
  rw [UInt8.toNat_ofNat']; exact Nat.mod_eq_of_lt h
theorem pum_app (M : Nat) : ∀ (l : List UInt8) (acc v : Nat) (m : List UInt8), parseUintM M acc l = .ok v → parseUintM M acc (l ++ m) = parseUintM M v m
  | [], acc, v, m, h => by simp only [parseUintM] at h; cases h; rfl
  | c :: r, acc, v, m, h => by
    simp only [parseUintM] at h
    rw [List.cons_append]
    simp only [parseUintM]
    split at h
    · rename_i h1
      rw [if_pos h1]
      split at h
      · cases h
      · rename_i h2
        rw [if_neg h2]
        split at h
        · cases h
        · rename_i h3
          rw [if_neg h3]
          exact pum_app M r _ v m h
    · cases h
theorem pum_one {M acc k : Nat} (hk : k < 10) (h1 : acc < 1844674407370955162) (h2 : acc * 10 + k ≤ M) : parseUintM M acc [UInt8.ofNat (48 + k)] = .ok (acc * 10 + k) := by
  simp only [parseUintM]
  rw [u8_nat (by omega), if_pos (by omega), if_neg (by omega), if_neg (by omega)]
  congr 1; omega
theorem pum_dec {M : Nat} (hM : M < 18446744073709551616) : ∀ (u : Nat), u ≤ M → parseUintM M 0 (decDigits u) = .ok u := by
  intro u
  induction u using Nat.strongRecOn with
  | _ u ih =>
    intro hu
    by_cases h : u < 10
    · rw [decDigits, dif_pos h, pum_one (acc := 0) h (by omega) (by omega)]
      congr 1; omega
    · rw [decDigits, dif_neg h, pum_app M _ _ _ _ (ih (u / 10) (by omega) (by omega)), pum_one (by omega) (by omega) (by omega)]
      congr 1; omega
theorem dec_ne (u : Nat) : decDigits u ≠ [] := by
  rw [decDigits]; split <;> simp
theorem dec_dig : ∀ (u : Nat), ∀ c ∈ decDigits u, c ≠ 46 := by
  intro u
  induction u using Nat.strongRecOn with
  | _ u ih =>
    intro c hc
    have hd : ∀ k, k < 10 → UInt8.ofNat (48 + k) ≠ 46 := fun k hk he => by
      have := congrArg UInt8.toNat he
      rw [u8_nat (by omega)] at this
      have h46 : (46 : UInt8).toNat = 46 := rfl
      rw [h46] at this; omega
    by_cases h : u < 10
    · rw [decDigits, dif_pos h] at hc
      simp only [List.mem_singleton] at hc; subst hc
      exact hd u h
    · rw [decDigits, dif_neg h] at hc
      simp only [List.mem_append, List.mem_singleton] at hc
      rcases hc with hc | rfl
      · exact ih (u / 10) (by omega) c hc
      · exact hd _ (by omega)
theorem dec_len : ∀ (k u : Nat), u < 10 ^ (k + 1) → (decDigits u).length ≤ k + 1
  | 0, u, h => by rw [decDigits, dif_pos (by simpa using h)]; simp
  | k + 1, u, h => by
    rw [decDigits]
    split
    · simp
    · rw [Nat.pow_succ] at h
      rw [List.length_append]
      have := dec_len k (u / 10) (by omega)
      simp only [List.length_singleton]; omega
theorem idx_app : ∀ {a b : List UInt8} {c : UInt8}, (∀ x ∈ a, x ≠ c) → indexByte (a ++ c :: b) c = (a.length : Int)
  | [], b, c, _ => by simp [indexByte]
  | x :: a, b, c, h => by
    rw [List.cons_append]
    unfold indexByte
    have hx : x ≠ c := h x (by simp)
    rw [if_neg (by simpa using hx), idx_app (fun y hy => h y (List.mem_cons_of_mem _ hy)), if_neg (by simp)]
    simp
theorem ba_eq {a b : ByteArray} (h : a.data.toList = b.data.toList) : a = b := by
  cases a; cases b; simp at h; subst h; rfl
theorem puR_dec {B u : Nat} (hB : B ≤ 64) (hu : u < 2 ^ B) : puR B ⟨(decDigits u).toArray⟩ = ((u : Int), false) := by
  have hp : 2 ^ B ≤ 18446744073709551616 := Nat.le_trans (Nat.pow_le_pow_right (by decide) hB) (by decide)
  have h : parseUintB B (⟨(decDigits u).toArray⟩ : ByteArray).data.toList = .ok u := by
    show parseUintB B (decDigits u) = _
    unfold parseUintB
    rw [if_neg (dec_ne u)]
    exact pum_dec (by omega) u (by omega)
  unfold puR
  rw [h]
/-- A reference as a text. -/
def nameR (s g : Nat) : ByteArray := (⟨(decDigits s).toArray⟩ ++ (⟨#[46]⟩ : ByteArray)) ++ ⟨(decDigits g).toArray⟩
theorem nameR_list (s g : Nat) : (nameR s g).data.toList = decDigits s ++ 46 :: decDigits g := by
  unfold nameR; simp
theorem nameR_cut (s g : Nat) : cutB (nameR s g) 46 = (⟨(decDigits s).toArray⟩, ⟨(decDigits g).toArray⟩, true) := by
  have hi : indexByte (nameR s g).data.toList 46 = ((decDigits s).length : Int) := by rw [nameR_list]; exact idx_app (dec_dig s)
  have hsz : (nameR s g).size = (decDigits s).length + 1 + (decDigits g).length := by
    show (nameR s g).data.size = _
    rw [← Array.length_toList, nameR_list]; simp; omega
  unfold cutB
  rw [hi, if_pos (by omega), Int.toNat_natCast]
  refine Prod.ext ?_ (Prod.ext ?_ rfl)
  · apply ba_eq
    show ((nameR s g).extract 0 _).data.toList = decDigits s
    simp [ByteArray.data_extract, nameR_list]
  · apply ba_eq
    show ((nameR s g).extract _ _).data.toList = decDigits g
    simp [ByteArray.data_extract, nameR_list, hsz]
end Go.Proofs.YtokcgacehdgkcaaGreatDoor.Eng.A

/- Capabilities in bytes, and back, in plain Lean. -/
namespace Go.Proofs.YtokcgacehdgkcaaGreatDoor.Eng.A
set_option linter.unusedVariables false
set_option linter.unusedSimpArgs false
open Go.RowKit Go.Proofs.YtokcgacehdgkcaaGreatDoor.Plain Go.Proofs.YtokcgacehdgkcaaGreatDoor.Eng Go.Proofs.YtokcgacehdgkcaaGreatDoor.Eng.Pk Go.Proofs.YtokcgacehdgkcaaGreatDoor.Eng.Rd Go.Lib

abbrev LAST : Int := 4611686018427387904
def slB (n : Int) : Bool := (decide (0 ≤ n)) && (decide (n < 64))
theorem cslot_eq (n : Int) : F_cslot n = some (slB n) := by unfold F_cslot slB; simp
def mayB (r : Rf) : Bool := (slB r.Slot && (decide (1 ≤ r.Gen))) && (decide (r.Gen ≤ LAST))
theorem cmay_eq (r : Rf) : F_cmay r = some (mayB r) := by unfold F_cmay mayB; rw [cslot_eq, bnd_s]
def rootB (c : Cap) (n : Int) : Bool := mayB c.From && ((decide (c.From.Slot = n)) == (decide (n = 0))) && ((decide (n ≠ 0)) || (decide (c.From.Gen = c.Gen)))
theorem croot_eq (c : Cap) (n : Int) : F_croot c n = some (rootB c n) := by
  unfold F_croot rootB
  rw [cmay_eq, bnd_s]
  cases mayB c.From <;> cases decide (c.From.Slot = n) <;> cases decide (n = 0) <;> simp [ifb]
def scpB (x : Scp) : Bool := (decide ((x.Prefix.size : Int) ≤ 40)) && (decide (x.Rights ≠ 0)) && (decide (x.Rights ≤ 63))
theorem schk_eq (x : Scp) : F_schk x = some (if scpB x = true then none else some 1) := by
  unfold F_schk F_rchk scpB
  by_cases h1 : (40 : Int) < x.Prefix.size
  · simp [ifb, h1, show ¬ (x.Prefix.size : Int) ≤ 40 by omega]
  · by_cases h2 : x.Rights = 0
    · simp [ifb, h1, h2]
    · by_cases h3 : 63 < x.Rights
      · simp [ifb, h1, h2, h3, show ¬ x.Rights ≤ 63 by omega]
      · simp [ifb, h1, h2, h3, show (x.Prefix.size : Int) ≤ 40 by omega, show x.Rights ≤ 63 by omega]
def nilC (c : Cap) : Bool := decide (c.Live = false) && (decide (c.Holder = 0) && (decide (c.From.Slot = 0) && (decide (c.From.Gen = 0) && (decide (c.Scope.Prefix = (⟨#[]⟩ : ByteArray)) && (decide (c.Scope.Rights = 0) && true)))))
/-- May it be in the slot? -/
def okB (n : Int) (c : Cap) : Bool := ((slB n && decide (1 ≤ c.Gen)) && decide (c.Gen ≤ LAST)) && (if c.Live = true then decide (c.Holder ≤ LAST) && (rootB c n && scpB c.Scope) else nilC c)
theorem cchk_eq (n : Int) (c : Cap) : F_cchk n c = some (if okB n c = true then none else some 1) := by
  unfold F_cchk okB
  rw [cslot_eq, bnd_s]
  generalize (slB n && decide (1 ≤ c.Gen) && decide (c.Gen ≤ LAST)) = k
  cases hl : c.Live with
  | true =>
    rw [ifb_1, croot_eq]
    generalize hh : decide (c.Holder ≤ LAST) = h
    generalize rootB c n = r
    rw [schk_eq]
    generalize scpB c.Scope = sc
    cases k <;> cases h <;> cases r <;> cases sc <;> simp [ifb, gif, bnd]
  | false =>
    rw [ifb_0]
    unfold nilC
    rw [hl]
    simp only [bnd_s]
    generalize (decide (c.Holder = 0) && (decide (c.From.Slot = 0) && (decide (c.From.Gen = 0) && (decide (c.Scope.Prefix = (⟨#[]⟩ : ByteArray)) && (decide (c.Scope.Rights = 0) && true))))) = m
    cases k <;> cases m <;> simp [ifb]
/-- The kinds of its numbers. -/
structure CapOk (c : Cap) : Prop where
  gen : U64 c.Gen
  hold : U64 c.Holder
  fgen : U64 c.From.Gen
  slot : I64 c.From.Slot
  rig : 0 ≤ c.Scope.Rights ∧ c.Scope.Rights < 256
/-- A capability as bytes. -/
def encC (c : Cap) : List Int := if c.Live = true then vb c.Gen.toNat ++ (1 :: (vb c.Holder.toNat ++ (c.From.Slot :: (vb c.From.Gen.toNat ++ (bsB (bytesOf c.Scope.Prefix) ++ [c.Scope.Rights]))))) else vb c.Gen.toNat ++ [0]
theorem okB_live {n : Int} {c : Cap} (h : okB n c = true) (hl : c.Live = true) : (0 ≤ n ∧ n < 64) ∧ (1 ≤ c.Gen ∧ c.Gen ≤ LAST) ∧ c.Holder ≤ LAST ∧ (0 ≤ c.From.Slot ∧ c.From.Slot < 64) ∧ (1 ≤ c.From.Gen ∧ c.From.Gen ≤ LAST) ∧ c.Scope.Prefix.size ≤ 40 ∧ c.Scope.Rights ≤ 63 := by
  unfold okB rootB mayB scpB slB at h
  rw [if_pos hl] at h
  simp only [Bool.and_eq_true, decide_eq_true_eq] at h
  omega
theorem okB_dead {n : Int} {c : Cap} (h : okB n c = true) (hl : c.Live = false) : (0 ≤ n ∧ n < 64) ∧ (1 ≤ c.Gen ∧ c.Gen ≤ LAST) ∧ c = ⟨c.Gen, false, 0, ⟨0, 0⟩, ⟨⟨#[]⟩, 0⟩⟩ := by
  unfold okB nilC slB at h
  rw [if_neg (by rw [hl]; simp)] at h
  simp only [Bool.and_eq_true, decide_eq_true_eq, and_true] at h
  obtain ⟨⟨h1, h2⟩, h3, h4, h5, h6, h7, h8⟩ := h
  refine ⟨by omega, by omega, ?_⟩
  obtain ⟨g, l, ho, ⟨fs, fg⟩, ⟨p, r⟩⟩ := c
  simp only at *
  subst h3 h4 h5 h6 h7 h8
  rfl
theorem encC_len {n : Int} {c : Cap} (hc : CapOk c) (h : okB n c = true) : 2 ≤ (encC c).length ∧ (encC c).length ≤ 100 := by
  have hv : ∀ {k : Int}, U64 k → 1 ≤ (vb k.toNat).length ∧ (vb k.toNat).length ≤ 10 := fun hk => vb_len10 (u64_nat hk)
  have a1 := hv hc.gen; have a2 := hv hc.hold; have a3 := hv hc.fgen
  unfold encC
  split
  · rename_i hl
    obtain ⟨-, -, -, -, -, hp, -⟩ := okB_live h hl
    have a4 := vb_len10 (n := (bytesOf c.Scope.Prefix).length) (by rw [bytesOf_length]; omega)
    simp only [List.length_append, List.length_cons, List.length_nil, bsB, bytesOf_length] at *
    omega
  · simp only [List.length_append, List.length_cons, List.length_nil]; omega
theorem cenc_eq {n : Int} {c : Cap} (hc : CapOk c) : F_cenc n c = some (if okB n c = true then (encC c, none) else ([], some 1)) := by
  unfold F_cenc
  rw [cchk_eq, bnd_s]
  cases hk : okB n c with
  | false => rfl
  | true =>
    simp only [if_true, Option.isSome_none, ifb_0]
    have hv : ∀ {k : Int}, U64 k → 1 ≤ (vb k.toNat).length ∧ (vb k.toNat).length ≤ 10 := fun hk => vb_len10 (u64_nat hk)
    have a1 := hv hc.gen; have a2 := hv hc.hold; have a3 := hv hc.fgen
    rw [oNum_t (by unfold Wrd; simp) hc.gen, bnd_s]
    cases hl : c.Live with
    | false =>
      simp only [Bool.not_false, ifb_1]
      rw [oByte_t (by unfold Wrd; simp; omega), bnd_s]
      unfold encC
      rw [if_neg (by rw [hl]; simp)]
      simp
    | true =>
      obtain ⟨-, -, -, hs, -, hp, -⟩ := okB_live hk hl
      have a4 := vb_len10 (n := (bytesOf c.Scope.Prefix).length) (by rw [bytesOf_length]; omega)
      simp only [Bool.not_true, ifb_0]
      rw [oByte_t (by unfold Wrd; simp; omega), bnd_s, oNum_t (by unfold Wrd; simp; omega) hc.hold, bnd_s, oByte_t (by unfold Wrd; simp; omega), bnd_s, oNum_t (by unfold Wrd; simp; omega) hc.fgen, bnd_s,
        oBytes_t (by unfold Wrd; simp only [List.length_append, List.length_cons, List.length_nil, bytesOf_length]; omega), bnd_s, oByte_t (by unfold Wrd; simp only [List.length_append, List.length_cons, List.length_nil, bsB, bytesOf_length] at *; omega), bnd_s]
      unfold encC
      rw [if_pos hl, show IntKind.u8.wrap c.From.Slot = c.From.Slot by rw [IntKind.wrap_u8]; omega]
      simp
end Go.Proofs.YtokcgacehdgkcaaGreatDoor.Eng.A

/- Capabilities out of bytes, in plain Lean. -/
namespace Go.Proofs.YtokcgacehdgkcaaGreatDoor.Eng.A
set_option linter.unusedVariables false
set_option linter.unusedSimpArgs false
open Go.RowKit Go.Proofs.YtokcgacehdgkcaaGreatDoor.Plain Go.Proofs.YtokcgacehdgkcaaGreatDoor.Eng Go.Proofs.YtokcgacehdgkcaaGreatDoor.Eng.Pk Go.Proofs.YtokcgacehdgkcaaGreatDoor.Eng.Rd

abbrev MX : Nat := (4611686018427387904 : Int).toNat
def zeroC : Cap := ⟨0, false, 0, ⟨0, 0⟩, ⟨⟨#[]⟩, 0⟩⟩
/-- What stands behind the number and the byte. -/
def parL (g : Int) (r : Rdr) : Cap × Rdr :=
  let h := rdNum MX r.b_ r.wrong_
  let s := rdByte h.2.1 h.2.2
  let f := rdNum MX s.2.1 s.2.2
  let k := rdBytes (40 : Int).toNat f.2.1 f.2.2
  let w := rdByte k.2.1 k.2.2
  (⟨g, true, h.1, ⟨IntKind.i64.wrap s.1, f.1⟩, ⟨strOf k.1, w.1⟩⟩, rdr w.2)
def rA (l : List Int) := rdNum MX l false
def rV (l : List Int) := rdByte (rA l).2.1 (rA l).2.2
def parC (l : List Int) : Cap × Rdr := if (rV l).1 = 1 then parL (rA l).1 (rdr (rV l).2) else (⟨(rA l).1, false, 0, ⟨0, 0⟩, ⟨⟨#[]⟩, 0⟩⟩, rdr (rV l).2)
def goodC (n : Int) (l : List Int) : Prop := ¬ 1 < (rV l).1 ∧ rdDone (parC l).2.wrong_ (parC l).2.b_ = none ∧ okB n (parC l).1 = true
instance (n : Int) (l : List Int) : Decidable (goodC n l) := inferInstanceAs (Decidable (_ ∧ _ ∧ _))
theorem cdec_eq {n : Int} {l : List Int} (hb : Bts l) (hl : l.length ≤ 1000000) (hn : slB n = true) : F_cdec n l = some (if goodC n l then ((parC l).1, none) else (zeroC, some 3)) := by
  have hr : RdOk (⟨l, false⟩ : Rdr) := ⟨hb, by show l.length ≤ _; omega⟩
  unfold F_cdec
  rw [cslot_eq, hn, bnd_s]
  simp only [Bool.not_true, ifb_0]
  rw [show oNew l = some ⟨l, false⟩ from grd_t (by unfold Wrd; omega) _, bnd_s, oRNum_t hr (by decide), bnd_s]
  have h1 : RdOk (rdr (rA l).2) := rdok_num hr MX
  have h2 : RdOk (rdr (rV l).2) := rdok_byte h1
  show bnd (oRByte (rdr (rA l).2)) _ = _
  rw [show oRByte (rdr (rA l).2) = some ((rV l).1, rdr (rV l).2) from rfl, bnd_s]
  dsimp only
  have hE : (ifb (decide ((rV l).1 = 1)) (bnd (oRNum (rdr (rV l).2) 4611686018427387904) fun x_6 => bnd (oRByte x_6.2) fun x_7 => bnd (oRNum x_7.2 4611686018427387904) fun x_8 => bnd (oRBytes x_8.2 40) fun x_9 => bnd (oRByte x_9.2) fun x_10 => some (x_10.2, (⟨(rA l).1, (decide ((rV l).1 = 1)), x_6.1, (⟨IntKind.i64.wrap (x_7.1), x_8.1⟩ : Rf), (⟨(strOf x_9.1), x_10.1⟩ : Scp)⟩ : Cap))) (some (rdr (rV l).2, (⟨(rA l).1, (decide ((rV l).1 = 1)), 0, (⟨0, 0⟩ : Rf), (⟨(⟨#[]⟩ : ByteArray), 0⟩ : Scp)⟩ : Cap)))) = some ((parC l).2, (parC l).1) := by
    unfold parC
    by_cases hv : (rV l).1 = 1
    · rw [if_pos hv, decide_eq_true hv, ifb_1, oRNum_t h2 (by decide), bnd_s]
      have h3 := rdok_num h2 MX
      dsimp only
      rw [show oRByte (rdr (rdNum MX (rdr (rV l).2).b_ (rdr (rV l).2).wrong_).2) = some (_, rdr (rdByte (rdr (rdNum MX (rdr (rV l).2).b_ (rdr (rV l).2).wrong_).2).b_ (rdr (rdNum MX (rdr (rV l).2).b_ (rdr (rV l).2).wrong_).2).wrong_).2) from rfl, bnd_s]
      have h4 := rdok_byte h3
      dsimp only
      rw [oRNum_t h4 (by decide), bnd_s]
      have h5 := rdok_num h4 MX
      dsimp only
      rw [oRBytes_t h5 (by decide), bnd_s]
      rfl
    · rw [if_neg hv, decide_eq_false hv, ifb_0]
  have hE' := congrArg (fun o => bnd o (fun z_5 : Rdr × Cap => bnd (gif ((decide (1 < (rV l).1)) == false) (oRDone z_5.1)) fun x_11 => bnd (gif (((decide (1 < (rV l).1)) || x_11.isSome) == false) (F_cchk n z_5.2)) fun x_12 => ifb (((decide (1 < (rV l).1)) || x_11.isSome) || x_12.isSome) (some (zeroC, some (3 : Int))) (some (z_5.2, none)))) hE
  refine Eq.trans hE' ?_
  rw [bnd_s, show oRDone (parC l).2 = some (rdDone (parC l).2.wrong_ (parC l).2.b_) from rfl, cchk_eq]
  dsimp only
  by_cases hv : 1 < (rV l).1
  · rw [show (if goodC n l then ((parC l).1, (none : Option Int)) else (zeroC, some 3)) = (zeroC, some 3) from if_neg (fun h => h.1 hv)]
    simp [gif, bnd, ifb, hv]
  · cases hd : rdDone (parC l).2.wrong_ (parC l).2.b_ with
    | some e =>
      rw [show (if goodC n l then ((parC l).1, (none : Option Int)) else (zeroC, some 3)) = (zeroC, some 3) from if_neg (fun h => by rw [h.2.1] at hd; cases hd)]
      simp [gif, bnd, ifb, hv]
    | none =>
      cases hk : okB n (parC l).1 with
      | false =>
        rw [show (if goodC n l then ((parC l).1, (none : Option Int)) else (zeroC, some 3)) = (zeroC, some 3) from if_neg (fun h => by rw [h.2.2] at hk; cases hk)]
        simp [gif, bnd, ifb, hv]
      | true =>
        rw [show (if goodC n l then ((parC l).1, (none : Option Int)) else (zeroC, some 3)) = ((parC l).1, none) from if_pos ⟨hv, hd, hk⟩]
        simp [gif, bnd, ifb, hv]
theorem mxI : ((MX : Nat) : Int) = 4611686018427387904 := by decide
theorem nat_of {n : Int} (h : U64 n) : ((n.toNat : Nat) : Int) = n := by have := h.1; omega
/-- What was laid is read. -/
theorem parC_back {n : Int} {c : Cap} (hc : CapOk c) (h : okB n c = true) (t : List Int) : ¬ 1 < (rV (encC c ++ t)).1 ∧ parC (encC c ++ t) = (c, ⟨t, false⟩) := by
  cases hl : c.Live with
  | false =>
    obtain ⟨-, ⟨h1, h2⟩, he⟩ := okB_dead h hl
    have e : encC c ++ t = vb c.Gen.toNat ++ (0 :: t) := by unfold encC; rw [if_neg (by rw [hl]; simp)]; simp
    have ha : rA (encC c ++ t) = (c.Gen.toNat, 0 :: t, false) := by unfold rA; rw [e]; exact num_back hc.gen (by rw [mxI]; exact h2) _
    have hv : rV (encC c ++ t) = (0, t, false) := by unfold rV; rw [ha]; rfl
    refine ⟨by rw [hv]; show ¬ (1 : Int) < 0; decide, ?_⟩
    unfold parC
    rw [hv, if_neg (show ¬ (0 : Int) = 1 by decide), ha]
    refine Prod.ext ?_ rfl
    show (⟨((c.Gen.toNat : Nat) : Int), false, 0, ⟨0, 0⟩, ⟨⟨#[]⟩, 0⟩⟩ : Cap) = c
    rw [nat_of hc.gen]; exact he.symm
  | true =>
    obtain ⟨-, ⟨-, h2⟩, h3, h4, ⟨-, h5⟩, h6, h7⟩ := okB_live h hl
    have e : encC c ++ t = vb c.Gen.toNat ++ (1 :: (vb c.Holder.toNat ++ (c.From.Slot :: (vb c.From.Gen.toNat ++ (bsB (bytesOf c.Scope.Prefix) ++ (c.Scope.Rights :: t)))))) := by unfold encC; rw [if_pos hl]; simp
    have ha : rA (encC c ++ t) = (c.Gen.toNat, 1 :: (vb c.Holder.toNat ++ (c.From.Slot :: (vb c.From.Gen.toNat ++ (bsB (bytesOf c.Scope.Prefix) ++ (c.Scope.Rights :: t))))), false) := by unfold rA; rw [e]; exact num_back hc.gen (by rw [mxI]; exact h2) _
    have hv : rV (encC c ++ t) = (1, vb c.Holder.toNat ++ (c.From.Slot :: (vb c.From.Gen.toNat ++ (bsB (bytesOf c.Scope.Prefix) ++ (c.Scope.Rights :: t)))), false) := by unfold rV; rw [ha]; rfl
    refine ⟨by rw [hv]; show ¬ (1 : Int) < 1; decide, ?_⟩
    unfold parC
    rw [hv, if_pos rfl, ha]
    unfold parL
    simp only [rdr]
    rw [num_back hc.hold (by rw [mxI]; exact h3)]
    simp only [rdByte, List.headD_cons, List.tail_cons, List.isEmpty_cons, Bool.or_false]
    rw [num_back hc.fgen (by rw [mxI]; exact h5)]
    dsimp only
    rw [bytes_back (m := (40 : Int).toNat) h6 (by decide)]
    simp only [List.headD_cons, List.tail_cons, List.isEmpty_cons, Bool.or_false]
    rw [nat_of hc.gen, nat_of hc.hold, nat_of hc.fgen, strOf_bytesOf, show IntKind.i64.wrap c.From.Slot = c.From.Slot by rw [IntKind.wrap_i64]; omega]
    refine Prod.ext ?_ rfl
    obtain ⟨g, l, ho, ⟨fs, fg⟩, ⟨p, r⟩⟩ := c
    simp only at hl
    subst hl; rfl
end Go.Proofs.YtokcgacehdgkcaaGreatDoor.Eng.A

/- CapsBack, in plain Lean. -/
namespace Go.Proofs.YtokcgacehdgkcaaGreatDoor.Eng.A
set_option linter.unusedVariables false
set_option linter.unusedSimpArgs false
open Go.RowKit Go.Proofs.YtokcgacehdgkcaaGreatDoor.Plain Go.Proofs.YtokcgacehdgkcaaGreatDoor.Eng Go.Proofs.YtokcgacehdgkcaaGreatDoor.Eng.Pk Go.Proofs.YtokcgacehdgkcaaGreatDoor.Eng.Rd Go.Lib

theorem dec_size {u k : Nat} (h : u < 10 ^ (k + 1)) : (⟨(decDigits u).toArray⟩ : ByteArray).size ≤ k + 1 := by
  show (decDigits u).toArray.size ≤ _
  rw [List.size_toArray]; exact dec_len k u h
theorem mayB_iff {r : Rf} : mayB r = true ↔ (0 ≤ r.Slot ∧ r.Slot < 64) ∧ 1 ≤ r.Gen ∧ r.Gen ≤ 4611686018427387904 := by
  unfold mayB slB
  simp only [Bool.and_eq_true, decide_eq_true_eq, and_assoc]
theorem cnm_eq {r : Rf} (h : mayB r = true) : F_cnm r = some (nameR r.Slot.toNat r.Gen.toNat) := by
  obtain ⟨⟨h1, h2⟩, h3, h4⟩ := mayB_iff.1 h
  have s1 : (⟨(decDigits r.Slot.toNat).toArray⟩ : ByteArray).size ≤ 2 := dec_size (k := 1) (by omega)
  have s2 : (⟨(decDigits r.Gen.toNat).toArray⟩ : ByteArray).size ≤ 20 := dec_size (k := 19) (by omega)
  have s3 : (⟨#[46]⟩ : ByteArray).size = 1 := rfl
  unfold F_cnm F_Itoa F_FmtUint
  rw [grd_t ⟨h1, by omega⟩, bnd_s, grd_t (by omega), grd_t ⟨by omega, by omega, rfl⟩, bnd_s, grd_t (by rw [ByteArray.size_append]; omega)]
  rfl
theorem cname_eq {r : Rf} (h : mayB r = true) : F_cname r = some (nameR r.Slot.toNat r.Gen.toNat, none) := by
  unfold F_cname
  rw [cmay_eq, bnd_s, h, cnm_eq h]
  rfl
theorem nameR_size {s g : Nat} (h1 : s < 64) (h2 : g < 10 ^ 20) : (nameR s g).size ≤ 23 := by
  have s1 : (⟨(decDigits s).toArray⟩ : ByteArray).size ≤ 2 := dec_size (k := 1) (by omega)
  have s2 : (⟨(decDigits g).toArray⟩ : ByteArray).size ≤ 20 := dec_size (k := 19) (by omega)
  have s3 : (⟨#[46]⟩ : ByteArray).size = 1 := rfl
  unfold nameR
  rw [ByteArray.size_append, ByteArray.size_append]; omega
theorem cparse_eq {r : Rf} (h : mayB r = true) : F_cparse (nameR r.Slot.toNat r.Gen.toNat) = some (r, none) := by
  have hh := mayB_iff.1 h
  obtain ⟨⟨h1, h2⟩, h3, h4⟩ := hh
  have s0 := nameR_size (s := r.Slot.toNat) (g := r.Gen.toNat) (by omega) (by omega)
  have s1 : (⟨(decDigits r.Slot.toNat).toArray⟩ : ByteArray).size ≤ 2 := dec_size (k := 1) (by omega)
  have s2 : (⟨(decDigits r.Gen.toNat).toArray⟩ : ByteArray).size ≤ 20 := dec_size (k := 19) (by omega)
  unfold F_cparse F_Cut
  rw [grd_t ⟨by omega, rfl⟩, bnd_s, nameR_cut]
  dsimp only
  unfold F_ParseUint
  rw [grd_t ⟨by omega, rfl, .inl rfl⟩, bnd_s, show ((8 : Int).toNat) = 8 from rfl, puR_dec (by decide) (by omega)]
  dsimp only
  rw [ifb_0, grd_t ⟨by omega, rfl, .inr rfl⟩, bnd_s, show ((64 : Int).toNat) = 64 from rfl, puR_dec (by decide) (by omega)]
  dsimp only
  rw [ifb_0]
  have e1 : IntKind.i64.wrap ((r.Slot.toNat : Nat) : Int) = r.Slot := by rw [IntKind.wrap_i64]; omega
  have e2 : ((r.Gen.toNat : Nat) : Int) = r.Gen := by omega
  have hr : (⟨IntKind.i64.wrap ((r.Slot.toNat : Nat) : Int), ((r.Gen.toNat : Nat) : Int)⟩ : Rf) = r := by rw [e1, e2]
  rw [hr, cmay_eq, bnd_s, h, cnm_eq h]
  simp [gif, bnd, ifb]
theorem okB_sl {n : Int} {c : Cap} (h : okB n c = true) : slB n = true ∧ (0 ≤ n ∧ n < 64) ∧ 1 ≤ c.Gen ∧ c.Gen ≤ 4611686018427387904 := by
  have h' := h
  unfold okB at h
  simp only [Bool.and_eq_true, decide_eq_true_eq] at h
  obtain ⟨⟨⟨h1, h2⟩, h3⟩, -⟩ := h
  refine ⟨h1, ?_, h2, h3⟩
  unfold slB at h1
  simpa using h1
theorem bytesOf_bts (s : ByteArray) : Bts (bytesOf s) := fun x hx => by
  unfold bytesOf at hx
  obtain ⟨b, -, rfl⟩ := List.mem_map.1 hx
  have := b.toNat_lt
  constructor
  · exact Int.natCast_nonneg _
  · omega
theorem encC_bts {n : Int} {c : Cap} (hc : CapOk c) (h : okB n c = true) : Bts (encC c) := by
  unfold encC
  split
  · rename_i hl
    obtain ⟨-, -, -, hs, -, hp, -⟩ := okB_live h hl
    exact (vb_bts _).app (Bts.cons (by omega) (by omega) ((vb_bts _).app (Bts.cons (by omega) (by omega) ((vb_bts _).app ((((vb_bts _).app (bytesOf_bts _))).app (Bts.one hc.rig.1 hc.rig.2))))))
  · exact (vb_bts _).app (Bts.one (by omega) (by omega))
theorem dec_back {n : Int} {c : Cap} (hc : CapOk c) (h : okB n c = true) : F_cdec n (encC c) = some (c, none) := by
  have hl := encC_len hc h
  rw [cdec_eq (encC_bts hc h) (by omega) (okB_sl h).1]
  obtain ⟨h1, h2⟩ := parC_back hc h []
  rw [List.append_nil] at h1 h2
  rw [if_pos ⟨h1, by rw [h2]; rfl, by rw [h2]; exact h⟩, h2]
/-! ### What must come -/
def c97 : Cap := ⟨2, true, 7, ⟨0, 1⟩, ⟨⟨#[97]⟩, 3⟩⟩
theorem c97_ok : CapOk c97 := ⟨by decide, by decide, by decide, by decide, by decide⟩
theorem c97_3 : okB 3 c97 = true := by decide
theorem c97_0 : okB 0 c97 = false := by decide
theorem c97_len : (encC c97).length = 8 := by
  unfold encC c97 bsB
  rw [if_pos rfl]
  simp only [show ((2 : Int).toNat) = 2 from rfl, show ((7 : Int).toNat) = 7 from rfl, show ((1 : Int).toNat) = 1 from rfl, bytesOf_length, show (⟨#[97]⟩ : ByteArray).size = 1 from rfl, vb_small (n := 2) (by decide), vb_small (n := 7) (by decide), vb_small (n := 1) (by decide), List.length_append, List.length_cons, List.length_nil]
theorem name32 : nameR 3 2 = (⟨#[51, 46, 50]⟩ : ByteArray) := by
  apply ba_eq
  rw [nameR_list, decDigits_one (by decide), decDigits_one (by decide)]
  rfl
theorem sure28_eq : F_l28sure = some true := by
  unfold F_l28sure
  have e1 : F_cenc 3 c97 = some (encC c97, none) := by rw [cenc_eq c97_ok, c97_3]; rfl
  have e2 : F_cenc 0 c97 = some ([], some 1) := by rw [cenc_eq c97_ok, c97_0]; rfl
  have e3 : F_cdec 3 (encC c97) = some (c97, none) := dec_back c97_ok c97_3
  have e4 : F_cname (⟨3, 2⟩ : Rf) = some (nameR 3 2, none) := cname_eq (r := ⟨3, 2⟩) (by decide)
  have e5 : F_cparse (nameR 3 2) = some ((⟨3, 2⟩ : Rf), none) := cparse_eq (r := ⟨3, 2⟩) (by decide)
  rw [show (⟨2, true, 7, (⟨0, 1⟩ : Rf), (⟨(⟨#[97]⟩ : ByteArray), 3⟩ : Scp)⟩ : Cap) = c97 from rfl, e1, bnd_s]
  dsimp only
  rw [e3, bnd_s, e2, bnd_s, e4, bnd_s]
  dsimp only
  rw [e5, bnd_s]
  dsimp only
  rw [c97_len, name32]
  rfl
end Go.Proofs.YtokcgacehdgkcaaGreatDoor.Eng.A
