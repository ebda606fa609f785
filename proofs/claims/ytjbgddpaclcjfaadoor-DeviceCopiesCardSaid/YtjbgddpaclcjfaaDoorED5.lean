/- Loops in plain Lean: what the laws share. -/
import Derived.Test.YtjbgddpaclcjfaaDoorEngX4
import Derived.Test.YtjbgddpaclcjfaaDoorED4
namespace Go.Proofs.YtjbgddpaclcjfaaDoor.Eng.A
set_option linter.unusedVariables false
set_option linter.unusedSimpArgs false
open Go.RowKit Go.Proofs.YtjbgddpaclcjfaaDoor.Eng

theorem lp_find {A : Type} {V : Type} {l : List A} {body : Int → Option (Int ⊕ (V ⊕ Unit))} (p : A → Bool) (v : Nat → V) {fl : Nat}
    (hb : ∀ (i : Nat) (x : A), l[i]? = some x → body (i : Int) = ifb (p x) (some (.inr (.inl (v i)))) (some (.inl ((i + 1 : Nat) : Int)))) (he : body (l.length : Int) = some (.inr (.inr ()))) (hf : l.length < fl) :
    (l.any p = false ∧ lp body fl 0 = some (.inr ())) ∨ (l.any p = true ∧ ∃ i, lp body fl 0 = some (.inl (v i))) := by
  have hn : ∀ (i : Nat) (x : A), l[i]? = some x → p x = false → body (i : Int) = some (.inl ((i + 1 : Nat) : Int)) := fun i x hx hp => by rw [hb i x hx, hp, ifb_0]
  cases ha : l.any p with
  | false => exact .inl ⟨rfl, lp_none (body := body) (fun i => ((i : Nat) : Int)) p ha hn he hf⟩
  | true =>
    obtain ⟨i, x, _, _, h3⟩ := lp_hit (body := body) (fun i => ((i : Nat) : Int)) p (fun i _ => Sum.inl (v i)) ha hn (fun i x hx hp => by rw [hb i x hx, hp, ifb_1]) hf
    exact .inr ⟨rfl, i, h3⟩
theorem lp_cmp {A : Type} [DecidableEq A] {l m : List A} {body : Int → Option (Int ⊕ (Bool ⊕ Unit))} (q : A → A → Bool) (hq : ∀ a b, q a b = true ↔ a = b) (hlm : l.length = m.length) {fl : Nat}
    (hb : ∀ t, body t = ifb (decide (t < (l.length : Int))) (ixb l t fun x => ixb m t fun y => ifb (!q x y) (some (.inr (.inl false))) (some (.inl (IntKind.i64.wrap (t + 1))))) (some (.inr (.inr ())))) (hl : l.length < 1000000000000000000) (hf : l.length < fl) :
    lp body fl 0 = some (if l = m then .inr () else .inl false) := by
  have hz : (l.zip m).length = l.length := by rw [List.length_zip]; omega
  have hany : (l.zip m).any (fun x => !q x.1 x.2) = false ↔ l = m := by
    clear hb hf hl hz
    induction l generalizing m with
    | nil => cases m <;> simp_all
    | cons a l ih =>
      cases m with
      | nil => simp at hlm
      | cons b m =>
        rw [List.zip_cons_cons, List.any_cons, Bool.or_eq_false_iff, ih (by simpa using hlm)]
        have := hq a b
        cases hc : q a b <;> simp_all
  rcases lp_find (l := l.zip m) (body := body) (fun x => !q x.1 x.2) (fun _ => false) (fl := fl) (fun i x hx => by
    have hi := (List.getElem?_eq_some_iff.1 hx).1
    rw [List.getElem?_zip_eq_some] at hx
    rw [hb, ifb_dec, if_pos (by omega), ixb_n hx.1, ixb_n hx.2, wrap_i64 (by omega)]; rfl) (by rw [hb, hz, ifb_dec, if_neg (by omega)]) (by omega) with ⟨h1, h2⟩ | ⟨h1, i, h2⟩
  · rw [h2, if_pos (hany.1 h1)]
  · rw [h2, if_neg (fun h => by rw [hany.2 h] at h1; cases h1)]
theorem getD_n {A : Type} [Inhabited A] {l : List A} {i : Nat} {x : A} (h : l[i]? = some x) : l.getD ((i : Int)).toNat default = x := by
  rw [List.getD_eq_getElem?_getD, Int.toNat_natCast, h]; rfl
theorem belo {i n : Nat} (h : i < n) : Below (i : Int) n := ⟨by omega, by simpa using h⟩

theorem lp_go {T O : Type} {body : T → Option (T ⊕ O)} {m : Nat} {t u : T} (h : body t = some (.inl u)) : lp body (m + 1) t = lp body m u := by rw [lp, h]; rfl
theorem lp_end {T O : Type} {body : T → Option (T ⊕ O)} {m : Nat} {t : T} {o : O} (h : body t = some (.inr o)) : lp body (m + 1) t = some o := by rw [lp, h]; rfl
theorem wrapi {n : Int} (h : -9223372036854775808 ≤ n) (h2 : n < 9223372036854775808) : IntKind.i64.wrap n = n := wrap_i64 ⟨h, h2⟩

end Go.Proofs.YtjbgddpaclcjfaaDoor.Eng.A

/- Loops over a list, in plain Lean: by a step that goes on, or ends. -/
namespace Go.Proofs.YtjbgddpaclcjfaaDoor.Eng.A
set_option linter.unusedVariables false
set_option linter.unusedSimpArgs false
open Go.RowKit Go.Proofs.YtjbgddpaclcjfaaDoor.Eng

def fo {A S O : Type} (f : S → A → S ⊕ O) (e : S → O) : S → List A → O
  | s, [] => e s
  | s, x :: l => match f s x with
    | .inl s' => fo f e s' l
    | .inr o => o
theorem fo_l {A S O : Type} {f : S → A → S ⊕ O} {e : S → O} {s s' : S} {x : A} {l : List A} (h : f s x = .inl s') : fo f e s (x :: l) = fo f e s' l := by rw [fo, h]
theorem fo_r {A S O : Type} {f : S → A → S ⊕ O} {e : S → O} {s : S} {o : O} {x : A} {l : List A} (h : f s x = .inr o) : fo f e s (x :: l) = o := by rw [fo, h]
theorem lp_fo {A S T O : Type} {l : List A} (mk : Nat → S → T) {body : T → Option (T ⊕ O)} (f : S → A → S ⊕ O) (e : S → O) (I : Nat → S → Prop) {fl : Nat} {s0 : S} (h0 : I 0 s0)
    (hs : ∀ i x s, l[i]? = some x → I i s → (∃ s', f s x = .inl s' ∧ body (mk i s) = some (.inl (mk (i + 1) s')) ∧ I (i + 1) s') ∨ (∃ o, f s x = .inr o ∧ body (mk i s) = some (.inr o)))
    (he : ∀ s, I l.length s → body (mk l.length s) = some (.inr (e s))) (hf : l.length < fl) : lp body fl (mk 0 s0) = some (fo f e s0 l) := by
  have key : ∀ (m : List A) i s fl, l.drop i = m → i ≤ l.length → m.length < fl → I i s → lp body fl (mk i s) = some (fo f e s m) := by
    intro m
    induction m with
    | nil =>
      intro i s fl hd hi hf hI
      obtain ⟨k, rfl⟩ : ∃ k, fl = k + 1 := ⟨fl - 1, by simp at hf; omega⟩
      have : i = l.length := by
        have := congrArg List.length hd
        rw [List.length_drop] at this
        simp at this; omega
      subst this
      rw [lp_end (he s hI)]; rfl
    | cons x m ih =>
      intro i s fl hd hi hf hI
      obtain ⟨k, rfl⟩ : ∃ k, fl = k + 1 := ⟨fl - 1, by simp at hf; omega⟩
      have hlt : i < l.length := by
        have := congrArg List.length hd
        rw [List.length_drop] at this
        simp at this; omega
      have hx : l[i]? = some x := by
        have := congrArg (fun m => m[0]?) hd
        simpa using this
      rcases hs i x s hx hI with ⟨s', h1, h2, h3⟩ | ⟨o, h1, h2⟩
      · rw [lp_go h2, fo_l h1]
        exact ih (i + 1) s' k (by rw [← List.drop_drop, hd]; rfl) hlt (by simp at hf; omega) h3
      · rw [lp_end h2, fo_r h1]
  exact key l 0 s0 fl rfl (Nat.zero_le _) hf h0
/-- Steps that only go on. -/
theorem fo_all {A S O : Type} {g : S → A → S} {e : S → O} : ∀ (l : List A) (s : S), fo (fun s x => .inl (g s x)) e s l = e (l.foldl g s)
  | [], s => rfl
  | x :: l, s => by rw [fo_l rfl, fo_all l, List.foldl_cons]
theorem nat_wrap {n : Nat} (h : n < 1000000000000000000) : IntKind.i64.wrap ((n : Int) + 1) = ((n + 1 : Nat) : Int) := by rw [wrapi (by omega) (by omega)]; omega
theorem dec_lt {i n : Nat} (h : i < n) : decide ((i : Int) < (n : Int)) = true := decide_eq_true (by omega)
theorem dec_ge {n : Nat} : decide ((n : Int) < (n : Int)) = false := decide_eq_false (by omega)
end Go.Proofs.YtjbgddpaclcjfaaDoor.Eng.A

/- Devices in plain Lean. -/
namespace Go.Proofs.YtjbgddpaclcjfaaDoor.Eng.A
set_option linter.unusedVariables false
set_option linter.unusedSimpArgs false
open Go.RowKit Go.Proofs.YtjbgddpaclcjfaaDoor.Plain Go.Proofs.YtjbgddpaclcjfaaDoor.Eng

abbrev zs : List Int := List.replicate 64 (0 : Int)
abbrev Mp := At → Option (List Int)
def plc (n : Nat) : At := ⟨((n / 8 : Nat) : Int), ((n % 8 : Nat) : Int)⟩
theorem plc_inj {m n : Nat} (h : plc m = plc n) : m = n := by
  have h1 : ((m / 8 : Nat) : Int) = ((n / 8 : Nat) : Int) := congrArg At.page_ h
  have h2 : ((m % 8 : Nat) : Int) = ((n % 8 : Nat) : Int) := congrArg At.part_ h
  omega
/-- A map of sectors, all of N. -/
structure MOk (N : Nat) (f : Mp) : Prop where
  rep : ∃ l, Rep l f
  len : ∀ k v, f k = some v → v.length = 64
  key : ∀ k v, f k = some v → ∃ n, n < N ∧ k = plc n
theorem mok_nil (N : Nat) : MOk N fnil := ⟨⟨[], rep_nil⟩, (fun k v h => by cases h), (fun k v h => by cases h)⟩
theorem fset_at (f : Mp) (k j : At) (v : List Int) : fset f k v j = if k = j then some v else f j := rfl
theorem fdel_at (f : Mp) (k j : At) : fdel f k j = if k = j then none else f j := rfl
theorem mok_set {N : Nat} {f : Mp} (h : MOk N f) {n : Nat} (hn : n < N) {v : List Int} (hv : v.length = 64) : MOk N (fset f (plc n) v) := by
  obtain ⟨l, hl⟩ := h.rep
  refine ⟨⟨_, rep_set hl _ _⟩, fun k u hu => ?_, fun k u hu => ?_⟩
  · rw [fset_at] at hu
    split at hu
    · cases hu; exact hv
    · exact h.len k u hu
  · rw [fset_at] at hu
    split at hu
    · next hk => exact ⟨n, hn, hk.symm⟩
    · exact h.key k u hu
theorem mok_del {N : Nat} {f : Mp} (h : MOk N f) (k : At) : MOk N (fdel f k) := by
  obtain ⟨l, hl⟩ := h.rep
  refine ⟨⟨_, rep_del hl _⟩, fun j u hu => ?_, fun j u hu => ?_⟩
  · rw [fdel_at] at hu
    split at hu
    · cases hu
    · exact h.len j u hu
  · rw [fdel_at] at hu
    split at hu
    · cases hu
    · exact h.key j u hu
theorem place_eq {n : Nat} (h : n < 8192) : F_dplace (n : Int) = some (plc n) := by
  unfold F_dplace plc
  have h1 : ((n : Int).tdiv 8) = ((n / 8 : Nat) : Int) := rfl
  have h2 : ((n : Int).tmod 8) = ((n % 8 : Nat) : Int) := rfl
  rw [h1, h2, wrapi (by omega) (by omega)]
theorem number_eq {n : Nat} (h : n < 8192) : F_dnumber (plc n) = some (n : Int) := by
  unfold F_dnumber plc
  dsimp only
  rw [wrapi (n := ((n / 8 : Nat) : Int) * 8) (by omega) (by omega), wrapi (by omega) (by omega)]
  congr 1; omega
/-- What is read. -/
def rd (s w : Mp) (n : Nat) : List Int := (w (plc n)).getD ((s (plc n)).getD zs)
theorem zs_len : zs.length = 64 := List.length_replicate
theorem get_len {N : Nat} {f : Mp} (h : MOk N f) (k : At) : ((f k).getD zs).length = 64 := by
  cases hk : f k with
  | none => exact zs_len
  | some v => exact h.len k v hk
theorem rd_len {N : Nat} {s w : Mp} (hs : MOk N s) (hw : MOk N w) (n : Nat) : (rd s w n).length = 64 := by
  unfold rd
  cases hk : w (plc n) with
  | none => exact get_len hs _
  | some v => exact hw.len _ v hk
theorem read_eq {N : Nat} {d : Dev} (hs : MOk N d.safe_) (hw : MOk N d.waits_) {n : Nat} (hn : n < 8192) : F_dread d (n : Int) = some (rd d.safe_ d.waits_ n) := by
  unfold F_dread
  have h1 := get_len hw (plc n)
  have h2 := get_len hs (plc n)
  rw [place_eq hn, bnd_s, ltv_s, grd_t zs_len, grd_t h1]
  unfold rd
  cases hk : d.waits_ (plc n) with
  | some v =>
    rw [hk] at h1
    show ifb true _ _ = _
    rw [ifb_1, grd_t h1, grd_t zs_len, grd_t h1, grd_t h1]; rfl
  | none =>
    show ifb false _ _ = _
    rw [ifb_0, ltv_s, grd_t zs_len, grd_t h2, grd_t h2]; rfl
/-- A device that is not down, of so many sectors. -/
structure DOk (N : Nat) (d : Dev) : Prop where
  pg : d.pages_ * 8 = N
  le : N ≤ 8192
  up : d.down_ = false
  s : MOk N d.safe_
  w : MOk N d.waits_
theorem there_eq {N : Nat} {d : Dev} (h : d.down_ = false) {n : Nat} (hn : n < N) : F_dthere d (n : Int) (N : Int) = some none := by
  unfold F_dthere F_dDown
  rw [bnd_s, h, ifb_0, decide_eq_false (by omega), decide_eq_false (by omega)]; rfl
theorem there_down {d : Dev} (h : d.down_ = true) (n m : Int) : F_dthere d n m = some (some 9) := by
  unfold F_dthere F_dDown
  rw [bnd_s, h, ifb_1]
theorem Read_eq {N : Nat} {d : Dev} (h : DOk N d) {n : Nat} (hn : n < N) : F_dRead d (n : Int) = some (rd d.safe_ d.waits_ n, none) := by
  have hp := h.pg
  have hle := h.le
  have hl := rd_len h.s h.w n
  unfold F_dRead F_dPages
  rw [bnd_s, show 8 * d.pages_ = (N : Int) by omega, wrapi (by omega) (by omega), there_eq h.up hn, bnd_s]
  show ifb false _ _ = _
  rw [ifb_0, read_eq h.s h.w (by omega), bnd_s, grd_t zs_len, grd_t hl, grd_t hl]
/-- A step that does not go down. -/
def lf (n : Int) : Int := if n = -1 then -1 else n - 1
theorem step_eq {d : Dev} (h : d.left_ ≠ 0) (h1 : -1 ≤ d.left_) (h2 : d.left_ < 1000000000) : F_dstep d = some (none, ⟨d.pages_, d.safe_, d.waits_, lf d.left_, d.down_⟩) := by
  unfold F_dstep lf
  rw [decide_eq_false h, ifb_0, wrapi (by omega) (by omega)]
  by_cases h3 : d.left_ = -1
  · rw [if_neg (by omega), if_pos h3]
  · rw [if_pos (by omega), if_neg h3]
theorem step_down {d : Dev} (h : d.left_ = 0) : F_dstep d = some (some 9, ⟨d.pages_, d.safe_, d.waits_, d.left_, true⟩) := by
  unfold F_dstep
  rw [decide_eq_true h, ifb_1]
theorem Write_eq {N : Nat} {d : Dev} (h : DOk N d) {n : Nat} (hn : n < N) {v : List Int} (hv : v.length = 64) (h0 : d.left_ ≠ 0) (h1 : -1 ≤ d.left_) (h2 : d.left_ < 1000000000) :
    F_dWrite d (n : Int) v = some (none, ⟨d.pages_, d.safe_, fset d.waits_ (plc n) v, lf d.left_, d.down_⟩) := by
  have hp := h.pg
  have hle := h.le
  unfold F_dWrite F_dPages
  rw [bnd_s, show 8 * d.pages_ = (N : Int) by omega, wrapi (by omega) (by omega), there_eq h.up hn, bnd_s]
  show ifb false _ _ = _
  rw [ifb_0, decide_eq_false (by omega), ifb_0, step_eq h0 h1 h2, bnd_s]
  show ifb false _ _ = _
  rw [ifb_0, place_eq (by omega), bnd_s, grd_t (by omega), List.take_of_length_le (by omega)]
theorem Write_last {N : Nat} {d : Dev} (h : DOk N d) {n : Nat} (hn : n < N) {v : List Int} (hv : v.length = 64) (h0 : d.left_ = 0) : F_dWrite d (n : Int) v = some (some 9, ⟨d.pages_, d.safe_, d.waits_, d.left_, true⟩) := by
  have hp := h.pg
  have hle := h.le
  unfold F_dWrite F_dPages
  rw [bnd_s, show 8 * d.pages_ = (N : Int) by omega, wrapi (by omega) (by omega), there_eq h.up hn, bnd_s]
  show ifb false _ _ = _
  rw [ifb_0, decide_eq_false (by omega), ifb_0, step_down h0, bnd_s]; rfl
theorem Write_down {d : Dev} (h : d.down_ = true) (n : Int) (v : List Int) : F_dWrite d n v = some (some 9, d) := by
  unfold F_dWrite F_dPages
  rw [bnd_s, there_down h, bnd_s]; rfl
/-! ### What settles -/
def sset (f : Mp) (k : At) (v : List Int) : Mp := if v = zs then fdel f k else fset f k v
theorem sset_at (f : Mp) (k j : At) (v : List Int) : sset f k v j = if k = j then (if v = zs then none else some v) else f j := by
  unfold sset
  by_cases hv : v = zs
  · rw [if_pos hv, if_pos hv, fdel_at]
  · rw [if_neg hv, if_neg hv, fset_at]
theorem mok_sset {N : Nat} {f : Mp} (h : MOk N f) {n : Nat} (hn : n < N) {v : List Int} (hv : v.length = 64) : MOk N (sset f (plc n) v) := by
  unfold sset
  split
  · exact mok_del h _
  · exact mok_set h hn hv
theorem settle_eq {d : Dev} {k : At} (h : ((d.waits_ k).getD zs).length = 64) : F_dsettle d k = some ⟨d.pages_, sset d.safe_ k ((d.waits_ k).getD zs), d.waits_, d.left_, d.down_⟩ := by
  unfold F_dsettle sset
  rw [ltv_s, grd_t zs_len, grd_t h, grd_t h, grd_t h]
  by_cases hv : (d.waits_ k).getD zs = zs
  · rw [decide_eq_true hv, if_pos hv]; rfl
  · rw [decide_eq_false hv, if_neg hv]
    show ifb true _ _ = _
    rw [ifb_1, grd_t h]
/-- All that waits settles. -/
def sy (s w : Mp) : Mp := fun k => match w k with
  | none => s k
  | some v => if v = zs then none else some v
theorem sfold_at {w : Mp} : ∀ (l : List (At × List Int)) (s : Mp), (l.map (·.1)).Nodup → (∀ e ∈ l, w e.1 = some e.2) → ∀ k, (l.foldl (fun s e => sset s e.1 ((w e.1).getD zs)) s) k = match mget l k with
    | none => s k
    | some v => if v = zs then none else some v
  | [], s, _, _, k => rfl
  | e :: l, s, hn, hw, k => by
    obtain ⟨h1, h2⟩ := List.nodup_cons.1 hn
    rw [List.foldl_cons, sfold_at l _ h2 (fun e he => hw e (List.mem_cons_of_mem _ he)) k, mget_cons e.1 e.2 l k, hw e List.mem_cons_self]
    by_cases hk : e.1 = k
    · rw [if_pos hk]
      subst hk
      have h3 : mget l e.1 = none := mget_none.2 h1
      rw [h3]
      show sset s e.1 e.2 e.1 = _
      rw [sset_at, if_pos rfl]
    · rw [if_neg hk]
      cases mget l k with
      | none => show sset s e.1 e.2 k = _; rw [sset_at, if_neg hk]
      | some v => rfl
theorem sync_loop {w : Mp} {N : Nat} (hw : MOk N w) {d : Dev} (hd : d.waits_ = w) : ∀ (l : List (At × List Int)) (s : Mp) (p f : Int) (b : Bool), lpm (F_dSync_b0 d) l (s, p, f, b) = some (l.foldl (fun s e => sset s e.1 ((w e.1).getD zs)) s, p, f, b)
  | [], s, p, f, b => rfl
  | e :: l, s, p, f, b => by
    rw [lpm]
    unfold F_dSync_b0
    show bnd (bnd (F_dsettle _ e.1) _) _ = _
    rw [settle_eq (by show ((d.waits_ e.1).getD zs).length = 64; rw [hd]; exact get_len hw _), bnd_s, bnd_s]
    show lpm (F_dSync_b0 d) l _ = _
    rw [sync_loop hw hd l, List.foldl_cons, hd]
theorem Sync_eq {N : Nat} {d : Dev} (h : DOk N d) (h0 : d.left_ ≠ 0) (h1 : -1 ≤ d.left_) (h2 : d.left_ < 1000000000) : F_dSync d = some (none, ⟨d.pages_, sy d.safe_ d.waits_, fnil, lf d.left_, d.down_⟩) := by
  unfold F_dSync F_dDown
  rw [bnd_s, h.up, ifb_0, step_eq h0 h1 h2, bnd_s]
  show ifb false _ _ = _
  rw [ifb_0]
  obtain ⟨l0, hl0⟩ := h.w.rep
  refine enm_eq hl0 fun l hl => ?_
  rw [sync_loop h.w rfl l, bnd_s]
  have : l.foldl (fun s e => sset s e.1 ((d.waits_ e.1).getD zs)) d.safe_ = sy d.safe_ d.waits_ := by
    funext k
    rw [sfold_at l _ hl.1 (fun e he => (rep_mem hl).1 he) k, hl.2]
    rfl
  rw [this, h.up]
theorem Sync_down {d : Dev} (h : d.down_ = false) (h0 : d.left_ = 0) : F_dSync d = some (some 9, ⟨d.pages_, d.safe_, d.waits_, d.left_, true⟩) := by
  unfold F_dSync F_dDown
  rw [bnd_s, h, ifb_0, step_down h0, bnd_s]; rfl
theorem mok_sy {N : Nat} {s w : Mp} (hs : MOk N s) (hw : MOk N w) : MOk N (sy s w) := by
  obtain ⟨l, hl⟩ := hw.rep
  have key : ∀ (m : List (At × List Int)) (s : Mp), MOk N s → (∀ e ∈ m, w e.1 = some e.2) → MOk N (m.foldl (fun s e => sset s e.1 ((w e.1).getD zs)) s) := by
    intro m
    induction m with
    | nil => intro s hs _; exact hs
    | cons e m ih =>
      intro s hs hm
      rw [List.foldl_cons]
      obtain ⟨n, hn, hk⟩ := hw.key _ _ (hm e List.mem_cons_self)
      refine ih _ ?_ fun e he => hm e (List.mem_cons_of_mem _ he)
      rw [hk]
      exact mok_sset hs hn (get_len hw _)
  have := key l s hs fun e he => (rep_mem hl).1 he
  have h2 : l.foldl (fun s e => sset s e.1 ((w e.1).getD zs)) s = sy s w := by
    funext k
    rw [sfold_at l _ hl.1 (fun e he => (rep_mem hl).1 he) k, hl.2]
    rfl
  rwa [h2] at this
end Go.Proofs.YtjbgddpaclcjfaaDoor.Eng.A

/- Devices in plain Lean: which sectors wait, a crash. -/
namespace Go.Proofs.YtjbgddpaclcjfaaDoor.Eng.A
set_option linter.unusedVariables false
set_option linter.unusedSimpArgs false
open Go.RowKit Go.Proofs.YtjbgddpaclcjfaaDoor.Plain Go.Proofs.YtjbgddpaclcjfaaDoor.Eng

def num8 (k : At) : Int := k.page_ * 8 + k.part_
theorem num8_plc (n : Nat) : num8 (plc n) = (n : Int) := by
  show ((n / 8 : Nat) : Int) * 8 + ((n % 8 : Nat) : Int) = _
  omega
/-- The sectors that wait. -/
def wn (N : Nat) (w : Mp) : List Nat := (List.range N).filter fun n => (w (plc n)).isSome
def wl (N : Nat) (w : Mp) : List Int := (wn N w).map fun n : Nat => (n : Int)
theorem wn_len (N : Nat) (w : Mp) : (wn N w).length ≤ N := by
  have := List.length_filter_le (fun n => (w (plc n)).isSome) (List.range N)
  rwa [List.length_range] at this
theorem wn_mem {N : Nat} {w : Mp} {n : Nat} : n ∈ wn N w ↔ n < N ∧ (w (plc n)).isSome = true := by unfold wn; rw [List.mem_filter, List.mem_range]
theorem wn_asc (N : Nat) (w : Mp) : (wn N w).Pairwise (· < ·) := List.Pairwise.filter _ List.pairwise_lt_range
theorem wl_asc (N : Nat) (w : Mp) : (wl N w).Pairwise (· ≤ ·) := List.pairwise_map.2 ((wn_asc N w).imp fun h => by omega)
theorem nodup_map_inj {A B : Type} {f : A → B} : ∀ {l : List A}, (∀ a ∈ l, ∀ b ∈ l, f a = f b → a = b) → l.Nodup → (l.map f).Nodup
  | [], _, _ => .nil
  | a :: l, hf, h => by
    obtain ⟨h1, h2⟩ := List.nodup_cons.1 h
    refine List.nodup_cons.2 ⟨fun hm => ?_, nodup_map_inj (fun x hx y hy => hf x (List.mem_cons_of_mem _ hx) y (List.mem_cons_of_mem _ hy)) h2⟩
    obtain ⟨b, hb, he⟩ := List.mem_map.1 hm
    have := hf a List.mem_cons_self b (List.mem_cons_of_mem _ hb) he.symm
    subst this; exact h1 hb
theorem wn_nodup (N : Nat) (w : Mp) : (wn N w).Nodup := (wn_asc N w).imp fun h => by omega
theorem wl_nodup (N : Nat) (w : Mp) : (wl N w).Nodup := nodup_map_inj (fun a _ b _ h => by omega) (wn_nodup N w)
theorem ents_perm {N : Nat} {w : Mp} (hw : MOk N w) {l : List (At × List Int)} (hl : Rep l w) : (l.map fun e => num8 e.1).Perm (wl N w) := by
  have hk : ∀ e ∈ l, ∃ n, n < N ∧ e.1 = plc n := fun e he => hw.key _ _ ((rep_mem hl).1 he)
  have hnd : (l.map fun e => num8 e.1).Nodup := by
    have h1 : (l.map fun e => num8 e.1) = (l.map (·.1)).map num8 := by rw [List.map_map]; rfl
    rw [h1]
    refine nodup_map_inj (fun a ha b hb h => ?_) hl.1
    obtain ⟨x, hx, rfl⟩ := List.mem_map.1 ha
    obtain ⟨y, hy, rfl⟩ := List.mem_map.1 hb
    obtain ⟨m, _, h1⟩ := hk x hx
    obtain ⟨n, _, h2⟩ := hk y hy
    rw [h1, h2, num8_plc, num8_plc] at h
    rw [h1, h2, show m = n by omega]
  refine (List.perm_ext_iff_of_nodup hnd (wl_nodup N w)).2 fun a => ⟨fun ha => ?_, fun ha => ?_⟩
  · obtain ⟨e, he, rfl⟩ := List.mem_map.1 ha
    obtain ⟨n, hn, h1⟩ := hk e he
    have h2 : w (plc n) = some e.2 := by rw [← h1]; exact (rep_mem hl).1 he
    refine List.mem_map.2 ⟨n, wn_mem.2 ⟨hn, by rw [h2]; rfl⟩, ?_⟩
    rw [h1, num8_plc]
  · obtain ⟨n, hn, rfl⟩ := List.mem_map.1 ha
    obtain ⟨h1, h2⟩ := wn_mem.1 hn
    obtain ⟨v, hv⟩ := Option.isSome_iff_exists.1 h2
    exact List.mem_map.2 ⟨(plc n, v), (rep_mem hl).2 hv, num8_plc n⟩
theorem wait_loop {N : Nat} (hN : N ≤ 8192) : ∀ (l : List (At × List Int)) (r : List Int), (∀ e ∈ l, ∃ n, n < N ∧ e.1 = plc n) → r.length + l.length ≤ 100000 →
    lpm F_dWaiting_b0 l (r.length, r) = some (r ++ l.map (fun e => num8 e.1), (r ++ l.map (fun e => num8 e.1)).length)
  | [], r, _, _ => by rw [List.map_nil, List.append_nil]; rfl
  | e :: l, r, hk, hle => by
    obtain ⟨n, hn, h1⟩ := hk e List.mem_cons_self
    rw [lpm]
    unfold F_dWaiting_b0
    show bnd (bnd (F_dnumber e.1) _) _ = _
    simp only [List.length_cons] at hle
    rw [h1, number_eq (by omega), bnd_s, grd_t rfl, grd_t ⟨by simp; omega, by simp; omega⟩, bnd_s]
    show lpm F_dWaiting_b0 l _ = _
    have := wait_loop hN l (r ++ [(n : Int)]) (fun e he => hk e (List.mem_cons_of_mem _ he)) (by simp; omega)
    rw [this, List.map_cons, h1, num8_plc, List.append_assoc]; rfl
theorem Waiting_eq {N : Nat} {d : Dev} (hN : N ≤ 8192) (hw : MOk N d.waits_) : F_dWaiting d = some (wl N d.waits_) := by
  obtain ⟨l0, hl0⟩ := hw.rep
  unfold F_dWaiting
  refine enm_eq hl0 fun l hl => ?_
  have hp := ents_perm hw hl
  have hlen := hp.length_eq
  rw [List.length_map] at hlen
  have hwl : (wl N d.waits_).length ≤ N := by unfold wl; rw [List.length_map]; exact wn_len _ _
  rw [wait_loop hN l [] (fun e he => hw.key _ _ ((rep_mem hl).1 he)) (by simp; omega), bnd_s, List.nil_append]
  dsimp only
  unfold F_sortI
  have hs : isort (l.map fun e => num8 e.1) = wl N d.waits_ :=
    List.Perm.eq_of_pairwise (le := (· ≤ ·)) (fun a b _ _ h1 h2 => by omega) (isort_asc _) (wl_asc _ _) ((isort_perm _).trans hp)
  rw [grd_t rfl, grd_t (by rw [List.length_map]; omega), bnd_s, hs, grd_t (by rw [List.length_map]; omega)]
/-! ### A crash -/
abbrev kp (keep : List Bool) (i : Nat) : Bool := decide ((i : Int) < (keep.length : Int)) && keep.getD ((i : Int)).toNat default
def cst (w : Mp) (keep : List Bool) (s : Mp) (e : Int × Nat) : Mp := if kp keep e.2 = true then sset s (plc e.1.toNat) ((w (plc e.1.toNat)).getD zs) else s
def csafe (N : Nat) (s w : Mp) (keep : List Bool) : Mp := (wl N w).zipIdx.foldl (cst w keep) s
theorem Crash_eq {N : Nat} {d : Dev} (hN : N ≤ 8192) (hw : MOk N d.waits_) {fl : Nat} (hf : N < fl) (keep : List Bool) : F_dCrash fl d keep = some ⟨d.pages_, csafe N d.safe_ d.waits_ keep, fnil, -1, false⟩ := by
  have hwl : (wl N d.waits_).length ≤ N := by unfold wl; rw [List.length_map]; exact wn_len _ _
  unfold F_dCrash
  rw [Waiting_eq hN hw, bnd_s]
  have h := lp_fo (l := (wl N d.waits_).zipIdx) (body := F_dCrash_b0 d keep (wl N d.waits_)) (fun i s => ((i : Int), s, d.pages_, d.left_, d.down_)) (fun s x => .inl (cst d.waits_ keep s x)) (fun s => (s, d.pages_, d.left_, d.down_)) (fun i s => True) (fl := fl) (s0 := d.safe_) trivial
    (fun i x s hx hI => by
      have hi := (List.getElem?_eq_some_iff.1 hx).1
      rw [List.length_zipIdx] at hi
      rw [List.getElem?_zipIdx] at hx
      obtain ⟨n, hn, rfl⟩ := Option.map_eq_some_iff.1 hx
      obtain ⟨m, hm, rfl⟩ := List.mem_map.1 (List.mem_of_getElem? hn)
      obtain ⟨hm1, hm2⟩ := wn_mem.1 hm
      refine .inl ⟨_, rfl, ?_, trivial⟩
      unfold F_dCrash_b0
      dsimp only
      rw [dec_lt hi, ifb_1, ixb_n hn, grd_t (fun hh => belo (by simpa using hh))]
      unfold cst
      rw [Nat.zero_add]
      show bnd (ifb (kp keep i) _ _) _ = _
      dsimp only
      cases hk : kp keep i with
      | true =>
        rw [ifb_1, place_eq (by omega), bnd_s, settle_eq (d := ⟨d.pages_, s, d.waits_, d.left_, d.down_⟩) (get_len hw _), bnd_s, bnd_s, nat_wrap (by omega), if_pos rfl]; rfl
      | false =>
        rw [ifb_0, bnd_s, nat_wrap (by omega)]; rfl)
    (fun s hI => by
      unfold F_dCrash_b0; dsimp only
      rw [List.length_zipIdx, dec_ge, ifb_0]) (by rw [List.length_zipIdx]; omega)
  have h' : lp (F_dCrash_b0 d keep (wl N d.waits_)) fl (0, d.safe_, d.pages_, d.left_, d.down_) = _ := h
  rw [h', bnd_s, fo_all]; rfl
theorem cfold_at {w : Mp} {keep : List Bool} : ∀ (l : List (Int × Nat)) (s : Mp), (l.map (·.1)).Nodup → (∀ e ∈ l, 0 ≤ e.1) → ∀ m : Nat,
    (l.foldl (cst w keep) s (plc m)) = match l.find? fun e => decide (e.1 = (m : Int)) with
      | none => s (plc m)
      | some e => if kp keep e.2 = true then (if (w (plc m)).getD zs = zs then none else some ((w (plc m)).getD zs)) else s (plc m)
  | [], s, _, _, m => rfl
  | e :: l, s, hn, h0, m => by
    obtain ⟨h1, h2⟩ := List.nodup_cons.1 hn
    have he := h0 e List.mem_cons_self
    rw [List.foldl_cons, cfold_at l _ h2 (fun e he => h0 e (List.mem_cons_of_mem _ he)) m, List.find?_cons]
    by_cases hk : e.1 = (m : Int)
    · rw [decide_eq_true hk]
      have h3 : (l.find? fun e => decide (e.1 = (m : Int))) = none := List.find?_eq_none.2 fun x hx hd => h1 (List.mem_map.2 ⟨x, hx, by show x.1 = e.1; rw [hk]; simpa using hd⟩)
      rw [h3]
      dsimp only
      unfold cst
      rw [show e.1.toNat = m by omega]
      split
      · rw [sset_at, if_pos rfl]
      · rfl
    · rw [decide_eq_false hk]
      dsimp only
      have h4 : cst w keep s e (plc m) = s (plc m) := by
        unfold cst
        split
        · rw [sset_at, if_neg (fun h => hk (by have := plc_inj h; omega))]
        · rfl
      rw [h4]
theorem mok_csafe {N : Nat} {s w : Mp} (hs : MOk N s) (hw : MOk N w) (keep : List Bool) : MOk N (csafe N s w keep) := by
  have key : ∀ (m : List (Int × Nat)) (s : Mp), MOk N s → (∀ e ∈ m, e.1.toNat < N) → MOk N (m.foldl (cst w keep) s) := by
    intro m
    induction m with
    | nil => intro s hs _; exact hs
    | cons e m ih =>
      intro s hs hm
      rw [List.foldl_cons]
      refine ih _ ?_ fun e he => hm e (List.mem_cons_of_mem _ he)
      unfold cst
      split
      · exact mok_sset hs (hm e List.mem_cons_self) (get_len hw _)
      · exact hs
  refine key _ s hs fun e he => ?_
  have h1 : e.1 ∈ wl N w := by
    obtain ⟨i, hi⟩ := List.getElem?_of_mem he
    rw [List.getElem?_zipIdx] at hi
    obtain ⟨a, ha, rfl⟩ := Option.map_eq_some_iff.1 hi
    exact List.mem_of_getElem? ha
  obtain ⟨n, hn, h2⟩ := List.mem_map.1 h1
  have := (wn_mem.1 hn).1
  omega
/-- Of how many sectors ahead of this one it is asked whether they wait. -/
def an (w : Mp) (n : Nat) : Nat := (wn n w).length
theorem wn_split {N n : Nat} (w : Mp) (h : n < N) : ∃ B : List Nat, wn N w = wn n w ++ (if (w (plc n)).isSome = true then n :: B else B) ∧ ∀ b ∈ B, n < b := by
  have e : List.range N = List.range n ++ (n :: List.range' (n + 1) (N - n - 1)) := by
    rw [List.range_eq_range', List.range_eq_range']
    have h1 : N = n + (N - n) := by omega
    have h2 : N - n = (N - n - 1) + 1 := by omega
    conv => lhs; rw [h1]
    rw [← List.range'_append, h2]
    simp [List.range'_succ]
  refine ⟨(List.range' (n + 1) (N - n - 1)).filter fun n => (w (plc n)).isSome, ?_, fun b hb => ?_⟩
  · unfold wn
    rw [e, List.filter_append, List.filter_cons]
  · have := (List.mem_filter.1 hb).1
    rw [List.mem_range'] at this
    obtain ⟨i, _, rfl⟩ := this
    omega
theorem wl_at {N n : Nat} (w : Mp) (h : n < N) : (decide ((an w n : Int) < ((wl N w).length : Int)) && decide ((wl N w).getD ((an w n : Int)).toNat default = (n : Int))) = (w (plc n)).isSome := by
  obtain ⟨B, h1, h2⟩ := wn_split w h
  unfold wl an
  rw [h1]
  cases hp : (w (plc n)).isSome with
  | true => simp; omega
  | false =>
    simp only [Bool.false_eq_true, if_false, List.map_append, Int.toNat_natCast]
    rw [Bool.and_eq_false_iff]
    cases hB : B with
    | nil => left; simp
    | cons b B' =>
      right
      have := h2 b (by rw [hB]; exact List.mem_cons_self)
      simp; omega
theorem an_succ (w : Mp) (n : Nat) : an w (n + 1) = if (w (plc n)).isSome = true then an w n + 1 else an w n := by
  unfold an wn
  rw [List.range_succ, List.filter_append, List.filter_cons]
  split <;> simp
theorem wl_find {N n : Nat} (w : Mp) (h : n < N) : ((wl N w).zipIdx.find? fun e => decide (e.1 = (n : Int))) = if (w (plc n)).isSome = true then some ((n : Int), an w n) else none := by
  obtain ⟨B, h1, h2⟩ := wn_split w h
  have hA : ∀ a ∈ wn n w, a < n := fun a ha => (wn_mem.1 ha).1
  have hnone : ∀ (l : List Nat) (i : Nat), (∀ a ∈ l, a ≠ n) → (((l.map fun n : Nat => (n : Int)).zipIdx i).find? fun e => decide (e.1 = (n : Int))) = none := fun l i hl => by
    refine List.find?_eq_none.2 fun x hx hd => ?_
    obtain ⟨j, hj⟩ := List.getElem?_of_mem hx
    rw [List.getElem?_zipIdx, List.getElem?_map] at hj
    obtain ⟨a, ha, rfl⟩ := Option.map_eq_some_iff.1 hj
    obtain ⟨b, hb, rfl⟩ := Option.map_eq_some_iff.1 ha
    have := hl b (List.mem_of_getElem? hb)
    simp at hd; omega
  unfold wl
  rw [h1, List.map_append, List.zipIdx_append, List.find?_append, hnone _ _ (fun a ha => by have := hA a ha; omega), Option.none_or, List.length_map]
  split
  · rw [List.map_cons, List.zipIdx_cons, List.find?_cons, decide_eq_true rfl, Nat.zero_add]; rfl
  · exact hnone _ _ fun b hb => by have := h2 b hb; omega
theorem csafe_at {N : Nat} {s w : Mp} (keep : List Bool) {n : Nat} (hn : n < N) : (csafe N s w keep (plc n)).getD zs = if ((w (plc n)).isSome && kp keep (an w n)) = true then (w (plc n)).getD zs else (s (plc n)).getD zs := by
  unfold csafe
  rw [cfold_at _ s (by
    rw [show (wl N w).zipIdx.map (·.1) = wl N w from List.zipIdx_map_fst _ _]; exact wl_nodup N w) (fun e he => by
    obtain ⟨i, hi⟩ := List.getElem?_of_mem he
    rw [List.getElem?_zipIdx] at hi
    obtain ⟨a, ha, rfl⟩ := Option.map_eq_some_iff.1 hi
    obtain ⟨b, hb, rfl⟩ := List.mem_map.1 (List.mem_of_getElem? ha)
    dsimp only; omega) n, wl_find w hn]
  cases hp : (w (plc n)).isSome with
  | false => simp
  | true =>
    simp only [if_true, Bool.true_and]
    split
    · split
      · next h => rw [h]; rfl
      · rfl
    · rfl
end Go.Proofs.YtjbgddpaclcjfaaDoor.Eng.A

/- Devices in plain Lean: the laws' parts. -/
namespace Go.Proofs.YtjbgddpaclcjfaaDoor.Eng.A
set_option linter.unusedVariables false
set_option linter.unusedSimpArgs false
open Go.RowKit Go.Proofs.YtjbgddpaclcjfaaDoor.Plain Go.Proofs.YtjbgddpaclcjfaaDoor.Eng

def sec (c : Int) : List Int := zs.set 5 c
theorem sec_len (c : Int) : (sec c).length = 64 := by unfold sec; rw [List.length_set, zs_len]
theorem sec_0 : sec 0 = zs := by decide
theorem sector_eq (c : Int) : F_l4sector c = some (sec c) := by
  unfold F_l4sector
  rw [grd_t (by rw [List.length_replicate]; exact ⟨by decide, by decide⟩), grd_t (by rw [List.length_replicate]; exact ⟨by decide, by decide⟩), grd_t (by rw [List.length_set])]; rfl
theorem ints_eq {a b : List Int} {fl : Nat} (ha : a.length < 100000) (hf : a.length < fl) : F_l4ints fl a b = some (decide (a = b)) := by
  unfold F_l4ints
  rw [ifb_dec]
  by_cases h : a.length = b.length
  · rw [if_neg (by omega)]
    have := lp_cmp (l := a) (m := b) (body := F_l4ints_b0 a b) (fun x y => decide (x = y)) (fun x y => by simp) h (fl := fl) (fun t => by unfold F_l4ints_b0; simp only [ne_eq, decide_not]) (by omega) (by omega)
    rw [this, bnd_s]
    by_cases he : a = b
    · rw [if_pos he, decide_eq_true he]; rfl
    · rw [if_neg he, decide_eq_false he]; rfl
  · rw [if_pos (by omega), decide_eq_false (fun e => h (by rw [e]))]
/-- A page. -/
def pgl (s w : Mp) (n : Nat) : List Int := (List.range 8).flatMap fun i => rd s w (8 * n + i)
theorem ReadPage_eq {N : Nat} {d : Dev} (h : DOk N d) {n : Nat} (hn : 8 * n + 8 ≤ N) {fl : Nat} (hf : 8 < fl) : F_dReadPage fl d (n : Int) = some (pgl d.safe_ d.waits_ n, none) := by
  have hp := h.pg
  have hle := h.le
  unfold F_dReadPage F_dPages
  have h1 : F_dthere d (n : Int) d.pages_ = some none := by
    have := there_eq (N := N / 8) h.up (n := n) (by omega)
    rwa [show ((N / 8 : Nat) : Int) = d.pages_ by omega] at this
  rw [bnd_s, h1, bnd_s]
  show ifb false _ _ = _
  rw [ifb_0]
  have hl := lp_fo (l := List.range 8) (body := F_dReadPage_b0 d (n : Int)) (fun i s => (s, (i : Int))) (fun s x => .inl (s ++ rd d.safe_ d.waits_ (8 * n + x))) (fun s => s) (fun i s => s.length = 64 * i) (fl := fl) (s0 := []) rfl
    (fun i x s hx hI => by
      have hi := (List.getElem?_eq_some_iff.1 hx).1
      rw [List.length_range] at hi
      rw [List.getElem?_range hi] at hx; cases hx
      have hl := rd_len h.s h.w (8 * n + i)
      refine .inl ⟨_, rfl, ?_, by rw [List.length_append, hI, hl]; omega⟩
      unfold F_dReadPage_b0
      dsimp only
      rw [decide_eq_true (by omega), ifb_1, wrapi (n := (n : Int) * 8) (by omega) (by omega), wrapi (n := (n : Int) * 8 + (i : Int)) (by omega) (by omega), show (n : Int) * 8 + (i : Int) = ((8 * n + i : Nat) : Int) by omega,
        read_eq h.s h.w (by omega), bnd_s, grd_t zs_len, grd_t hl, grd_t hl, grd_t ⟨by omega, by omega⟩, nat_wrap (by omega)])
    (fun s hI => by
      unfold F_dReadPage_b0
      dsimp only
      rw [List.length_range, decide_eq_false (by omega), ifb_0]) (by rw [List.length_range]; exact hf)
  have hl' : lp (F_dReadPage_b0 d (n : Int)) fl ([], 0) = _ := hl
  rw [hl', bnd_s, fo_all]
  have : ∀ (l : List Nat) (s : List Int), l.foldl (fun s x => s ++ rd d.safe_ d.waits_ (8 * n + x)) s = s ++ l.flatMap fun i => rd d.safe_ d.waits_ (8 * n + i) := fun l => by
    induction l with
    | nil => intro s; simp
    | cons x l ih => intro s; rw [List.foldl_cons, ih, List.flatMap_cons, List.append_assoc]
  rw [this, List.nil_append]; rfl
theorem New_eq {n : Int} (h : 1 ≤ n) (h2 : n ≤ 1024) : F_dNew n = some (some ⟨n, fnil, fnil, -1, false⟩, none) := by
  unfold F_dNew
  rw [decide_eq_false (by omega), decide_eq_false (by omega)]; rfl
theorem dok_new {n : Nat} (h : n ≤ 1024) : DOk (8 * n) ⟨(n : Int), fnil, fnil, -1, false⟩ := ⟨by show (n : Int) * 8 = _; omega, by omega, rfl, mok_nil _, mok_nil _⟩
set_option maxRecDepth 100000 in
theorem sure_eq {fl : Nat} (hf : 100 < fl) : F_l4sure fl = some true := by
  unfold F_l4sure
  have h0 : DOk 16 (⟨2, fnil, fnil, -1, false⟩ : Dev) := dok_new (n := 2) (by omega)
  rw [New_eq (by decide) (by decide), bnd_s]
  show ifb false _ _ = _
  rw [ifb_0, sector_eq, bnd_s]
  have hW : F_dWrite (⟨2, fnil, fnil, -1, false⟩ : Dev) 9 (sec 7) = _ := Write_eq (n := 9) h0 (by omega) (sec_len 7) (by decide) (by decide) (by decide)
  rw [hW, bnd_s]
  dsimp only
  rw [show lf (-1) = -1 from rfl]
  have hw1 : MOk 16 (fset fnil (plc 9) (sec 7)) := mok_set (mok_nil _) (by omega) (sec_len 7)
  have h1 : DOk 16 ⟨2, fnil, fset fnil (plc 9) (sec 7), -1, false⟩ := ⟨by decide, by omega, rfl, mok_nil _, hw1⟩
  have hR : F_dRead (⟨2, fnil, fset fnil (plc 9) (sec 7), -1, false⟩ : Dev) 9 = _ := Read_eq (n := 9) h1 (by omega)
  have hP : F_dReadPage fl (⟨2, fnil, fset fnil (plc 9) (sec 7), -1, false⟩ : Dev) 1 = _ := ReadPage_eq (n := 1) h1 (by omega) (by omega)
  rw [hR, bnd_s, hP, bnd_s]
  have hA : F_dArm (⟨2, fnil, fset fnil (plc 9) (sec 7), -1, false⟩ : Dev) 0 = some ⟨2, fnil, fset fnil (plc 9) (sec 7), 0, false⟩ := rfl
  rw [hA, bnd_s]
  dsimp only
  rw [Sync_down rfl rfl, bnd_s]
  dsimp only
  show bnd (some true) _ = _
  rw [bnd_s]
  have hC := Crash_eq (N := 16) (d := ⟨2, fnil, fset fnil (plc 9) (sec 7), 0, true⟩) (by omega) hw1 (fl := fl) (by omega) []
  rw [hC, bnd_s]
  dsimp only
  have h2 : DOk 16 (⟨2, csafe 16 fnil (fset fnil (plc 9) (sec 7)) [], fnil, -1, false⟩ : Dev) := ⟨by decide, by omega, rfl, mok_csafe (mok_nil _) hw1 [], mok_nil _⟩
  have hR2 : F_dRead (⟨2, csafe 16 fnil (fset fnil (plc 9) (sec 7)) [], fnil, -1, false⟩ : Dev) 9 = _ := Read_eq (n := 9) h2 (by omega)
  rw [hR2, bnd_s]
  dsimp only
  have e1 : rd fnil (fset fnil (plc 9) (sec 7)) 9 = sec 7 := by unfold rd; rw [fset_at, if_pos rfl]; rfl
  have e2 : rd (csafe 16 fnil (fset fnil (plc 9) (sec 7)) []) fnil 9 = zs := by
    show ((csafe 16 fnil (fset fnil (plc 9) (sec 7)) []) (plc 9)).getD zs = zs
    rw [csafe_at [] (by omega)]
    have : kp [] (an (fset fnil (plc 9) (sec 7)) 9) = false := by simp [kp]
    rw [this]; simp [fnil]
  have e3 : pgl fnil (fset fnil (plc 9) (sec 7)) 1 = zs ++ sec 7 ++ (List.replicate 384 0) := by
    have hz : ∀ i, i ≠ 9 → rd fnil (fset fnil (plc 9) (sec 7)) i = zs := fun i hi => by
      unfold rd; rw [fset_at, if_neg (fun h => hi (plc_inj h).symm)]; rfl
    unfold pgl
    rw [show List.range 8 = [0, 1, 2, 3, 4, 5, 6, 7] from rfl]
    simp only [List.flatMap_cons, List.flatMap_nil]
    rw [hz _ (by decide), show 8 * 1 + 1 = 9 from rfl, e1, hz _ (by decide), hz _ (by decide), hz _ (by decide), hz _ (by decide), hz _ (by decide), hz _ (by decide)]
    decide +kernel
  rw [e1, e2, e3]
  decide +kernel
end Go.Proofs.YtjbgddpaclcjfaaDoor.Eng.A

/- Devices in plain Lean: the laws. -/
namespace Go.Proofs.YtjbgddpaclcjfaaDoor.Eng.A
set_option linter.unusedVariables false
set_option linter.unusedSimpArgs false
open Go.RowKit Go.Proofs.YtjbgddpaclcjfaaDoor.Plain Go.Proofs.YtjbgddpaclcjfaaDoor.Eng

def wst (w : Mp) (x : Int × Int) : Mp := fset w (plc (x.1.toNat % 32)) (sec x.2)
def ast (a : List Int) (x : Int × Int) : List Int := a.set (x.1.toNat % 32) x.2
structure Jn (base : List Int) (w : Mp) (a : List Int) : Prop where
  ok : MOk 32 w
  len : a.length = 32
  nn : ∀ n, n < 32 → w (plc n) = none → a[n]? = base[n]?
  ss : ∀ n x, a[n]? = some x → ∀ v, w (plc n) = some v → v = sec x
theorem jn_step {base a : List Int} {w : Mp} (h : Jn base w a) (x : Int × Int) : Jn base (wst w x) (ast a x) := by
  have hm : x.1.toNat % 32 < 32 := Nat.mod_lt _ (by decide)
  refine ⟨mok_set h.ok hm (sec_len _), by unfold ast; rw [List.length_set]; exact h.len, fun n hn hw => ?_, fun n y hy v hv => ?_⟩
  · unfold wst at hw
    rw [fset_at] at hw
    split at hw
    · cases hw
    · next hne =>
      unfold ast
      rw [List.getElem?_set_ne (fun e => hne (by rw [e]))]
      exact h.nn n hn hw
  · unfold wst at hv
    unfold ast at hy
    rw [fset_at] at hv
    split at hv
    · next he =>
      have := plc_inj he
      subst this
      rw [List.getElem?_set_self (by rw [h.len]; exact hm)] at hy
      cases hy; cases hv; rfl
    · next hne =>
      rw [List.getElem?_set_ne (fun e => hne (by rw [e]))] at hy
      exact h.ss n y hy v hv
theorem jn_fold {base : List Int} : ∀ (l : List (Int × Int)) {a : List Int} {w : Mp}, Jn base w a → Jn base (l.foldl wst w) (l.foldl ast a)
  | [], _, _, h => h
  | x :: l, _, _, h => jn_fold l (jn_step h x)
abbrev z32 : List Int := List.replicate 32 (0 : Int)
theorem jn_0 : Jn z32 fnil z32 := ⟨mok_nil _, List.length_replicate, fun _ _ _ => rfl, (fun _ _ _ v h => by cases h)⟩
theorem jn_new {base a : List Int} {w : Mp} (h : Jn base w a) : Jn a fnil a := ⟨mok_nil _, h.len, fun _ _ _ => rfl, (fun _ _ _ v h => by cases h)⟩
/-- Pairs of bytes. -/
def Wpp (l : List (Int × Int)) : Prop := ∀ x ∈ l, 0 ≤ x.1 ∧ x.1 < 256
theorem tm32 {n : Int} (h : 0 ≤ n) : n.tmod 32 = ((n.toNat % 32 : Nat) : Int) := by
  obtain ⟨m, rfl⟩ : ∃ m : Nat, n = (m : Int) := ⟨n.toNat, by omega⟩
  rfl
theorem keeps0 {l : List (Int × Int)} (hl : Wpp l) (hl2 : l.length ≤ 60) {y : Dev} (hy : MOk 32 y.safe_) {fl : Nat} (hf : 100 < fl) {base a : List Int} {w : Mp} (h : Jn base w a) :
    lp (F_lDeviceKeeps_b0 l y) fl (0, w, 4, -1, false, a) = some (.inr (l.foldl wst w, 4, -1, false, l.foldl ast a)) := by
  have hx := lp_fo (l := l) (body := F_lDeviceKeeps_b0 l y) (fun i (s : Mp × List Int) => ((i : Int), s.1, 4, -1, false, s.2)) (fun s x => .inl (wst s.1 x, ast s.2 x)) (fun s => .inr (s.1, 4, -1, false, s.2)) (fun i s => Jn base s.1 s.2) (fl := fl) (s0 := (w, a)) h
    (fun i x s hx hI => by
      have hi := (List.getElem?_eq_some_iff.1 hx).1
      obtain ⟨h1, h2⟩ := hl x (List.mem_of_getElem? hx)
      have hm : x.1.toNat % 32 < 32 := Nat.mod_lt _ (by decide)
      refine .inl ⟨_, rfl, ?_, jn_step hI x⟩
      unfold F_lDeviceKeeps_b0
      dsimp only
      have hd : DOk 32 (⟨4, y.safe_, s.1, -1, false⟩ : Dev) := ⟨(by show (4 : Int) * 8 = 32; decide), by decide, rfl, hy, hI.ok⟩
      rw [dec_lt hi, ifb_1, ixb_n hx, ixb_n hx, sector_eq, bnd_s, tm32 h1, wrapi (by omega) (by omega), Write_eq hd hm (sec_len _) (by show (-1 : Int) ≠ 0; decide) (by show (-1 : Int) ≤ -1; decide) (by show (-1 : Int) < _; decide), bnd_s]
      show ifb false _ _ = _
      rw [ifb_0, ixb_n hx, grd_t (belo hm), grd_t (by rw [Int.toNat_natCast]; exact belo (by rw [hI.len]; exact hm)), nat_wrap (by omega)]; rfl)
    (fun s hI => by unfold F_lDeviceKeeps_b0; dsimp only; rw [dec_ge, ifb_0]) (by omega)
  have hx' : lp (F_lDeviceKeeps_b0 l y) fl (0, w, 4, -1, false, a) = _ := hx
  rw [hx', fo_all]
  have : ∀ (l : List (Int × Int)) (s : Mp × List Int), l.foldl (fun s x => (wst s.1 x, ast s.2 x)) s = (l.foldl wst s.1, l.foldl ast s.2) := fun l => by
    induction l with
    | nil => intro s; rfl
    | cons x l ih => intro s; rw [List.foldl_cons, ih]; rfl
  rw [this]
theorem keeps1 {l : List (Int × Int)} (hl : Wpp l) (hl2 : l.length ≤ 60) {y : (Option Int) × Dev} (hy : MOk 32 y.2.safe_) {fl : Nat} (hf : 100 < fl) {base a : List Int} {w : Mp} (h : Jn base w a) :
    lp (F_lDeviceKeeps_b1 l y) fl (0, w, 4, -1, false, a) = some (.inr (l.foldl wst w, 4, -1, false, l.foldl ast a)) := by
  rw [← keeps0 (y := y.2) hl hl2 hy hf h]; rfl
theorem sy_sec {base a : List Int} {w : Mp} (h : Jn z32 w a) {n : Nat} {u : Int} (hn : n < 32) (hu : a[n]? = some u) : ((sy fnil w) (plc n)).getD zs = sec u := by
  unfold sy
  cases hk : w (plc n) with
  | none =>
    have := h.nn n hn hk
    rw [hu] at this
    have h2 : z32[n]? = some 0 := by rw [List.getElem?_replicate, if_pos hn]
    rw [h2] at this
    cases this
    exact sec_0.symm
  | some v =>
    have := h.ss n u hu v hk
    subst this
    dsimp only
    split
    · next he => rw [he]; rfl
    · rfl
theorem get32 {a : List Int} (h : a.length = 32) {n : Nat} (hn : n < 32) : ∃ u, a[n]? = some u := ⟨_, List.getElem?_eq_getElem (by omega)⟩
theorem lKeeps_eq {p0 p1 : List (Int × Int)} {p2 : List Bool} (h0 : Wpp p0) (h1 : Wpp p1) {fl : Nat} (hf : 100 < fl) : F_lDeviceKeeps fl p0 p1 p2 = some true := by
  unfold F_lDeviceKeeps
  rw [New_eq (by decide) (by decide), bnd_s]
  show ifb ((false || _) || _) _ _ = _
  rw [Bool.false_or]
  by_cases hl : 60 < (p0.length : Int) ∨ 60 < (p1.length : Int)
  · have : (decide (60 < (p0.length : Int)) || decide (60 < (p1.length : Int))) = true := by simpa using hl
    rw [this, ifb_1, sure_eq hf]; rfl
  · have : (decide (60 < (p0.length : Int)) || decide (60 < (p1.length : Int))) = false := by simpa using hl
    rw [this, ifb_0]
    have j1 := jn_fold p0 jn_0
    dsimp only
    rw [keeps0 h0 (by omega) (mok_nil _) hf jn_0, bnd_s, ocs_2]
    generalize hw1 : p0.foldl wst fnil = w1 at j1 ⊢
    generalize ha1 : p0.foldl ast z32 = a1 at j1 ⊢
    dsimp only
    have hd1 : DOk 32 (⟨4, fnil, w1, -1, false⟩ : Dev) := ⟨(by show (4 : Int) * 8 = 32; decide), by decide, rfl, mok_nil _, j1.ok⟩
    rw [Sync_eq hd1 (by show (-1 : Int) ≠ 0; decide) (by show (-1 : Int) ≤ -1; decide) (by show (-1 : Int) < _; decide), bnd_s]
    dsimp only
    rw [show lf (-1) = -1 from rfl]
    show bnd (gif true _) _ = _
    rw [gif_1, Waiting_eq (N := 32) (by decide) (mok_nil _), bnd_s]
    have hwn : wl 32 fnil = [] := by
      have : wn 32 fnil = [] := List.filter_eq_nil_iff.2 fun n _ => by simp [fnil]
      unfold wl; rw [this]; rfl
    rw [hwn]
    show ifb false _ _ = _
    rw [ifb_0, grd_t j1.len, grd_t List.length_replicate, grd_t j1.len]
    have hs1 : MOk 32 (sy fnil w1) := mok_sy (mok_nil _) j1.ok
    have j2 := jn_fold p1 (jn_new j1)
    rw [keeps1 h1 (by omega) hs1 hf (jn_new j1), bnd_s, ocs_2]
    generalize hw2 : p1.foldl wst fnil = w2 at j2 ⊢
    generalize ha2 : p1.foldl ast a1 = a2 at j2 ⊢
    dsimp only
    rw [Waiting_eq (N := 32) (by decide) j2.ok, bnd_s, Crash_eq (N := 32) (by decide) j2.ok (by omega), bnd_s]
    dsimp only
    have hs3 : MOk 32 (csafe 32 (sy fnil w1) w2 p2) := mok_csafe hs1 j2.ok p2
    have hd3 : DOk 32 (⟨4, csafe 32 (sy fnil w1) w2 p2, fnil, -1, false⟩ : Dev) := ⟨(by show (4 : Int) * 8 = 32; decide), by decide, rfl, hs3, mok_nil _⟩
    have hx := lp_fo (l := List.range 32) (body := F_lDeviceKeeps_b2 p2 (w1, 4, -1, false, a1) (w2, 4, -1, false, a2) (wl 32 w2) ⟨4, csafe 32 (sy fnil w1) w2 p2, fnil, -1, false⟩)
      (fun i (s : Unit) => ((an w2 i : Int), (i : Int))) (fun s x => .inl ()) (fun s => .inr (an w2 32 : Int)) (fun i s => True) (fl := fl) (s0 := ()) trivial
      (fun i x s hx hI => by
        have hi := (List.getElem?_eq_some_iff.1 hx).1
        rw [List.length_range] at hi
        clear hx
        obtain ⟨u, hu⟩ := get32 j1.len hi
        obtain ⟨v, hv⟩ := get32 j2.len hi
        refine .inl ⟨_, rfl, ?_, trivial⟩
        have han : an w2 i ≤ 32 := Nat.le_trans (wn_len _ _) (by omega)
        unfold F_lDeviceKeeps_b2
        dsimp only
        rw [decide_eq_true (by omega), ifb_1, grd_t (belo hi), Int.toNat_natCast i, ixb_n hu, grd_t (fun hh => belo (by simpa using hh)), wl_at w2 hi]
        have hrd := csafe_at (s := sy fnil w1) (w := w2) p2 hi
        rw [sy_sec (base := z32) j1 hi hu] at hrd
        have hRead := Read_eq hd3 (n := i) hi
        have hrd2 : rd (csafe 32 (sy fnil w1) w2 p2) fnil i = ((csafe 32 (sy fnil w1) w2 p2) (plc i)).getD zs := rfl
        have hRead' : F_dRead (⟨4, csafe 32 (sy fnil w1) w2 p2, fnil, -1, false⟩ : Dev) (i : Int) = some (((csafe 32 (sy fnil w1) w2 p2) (plc i)).getD zs, none) := hRead
        have hs := an_succ w2 i
        have fin : ∀ (t : Int) (c : Int), t = ((an w2 (i + 1) : Nat) : Int) → ((csafe 32 (sy fnil w1) w2 p2) (plc i)).getD zs = sec c →
            (bnd (some (t, c)) fun z_28 => bnd (F_dRead (⟨4, csafe 32 (sy fnil w1) w2 p2, fnil, -1, false⟩ : Dev) (i : Int)) fun x_31 => bnd (gif (x_31.2.isSome == false) (F_l4sector z_28.2)) fun x_32 => ifb (x_31.2.isSome || (decide ((strOf x_31.1) ≠ (strOf x_32)))) (some (.inr (.inl false))) (some (.inl (z_28.1, IntKind.i64.wrap ((i : Int) + 1))))) = (some (.inl (((an w2 (i + 1) : Nat) : Int), ((i + 1 : Nat) : Int))) : Option ((Int × Int) ⊕ (Bool ⊕ Int))) := by
          intro t c ht hc
          rw [bnd_s, hRead', bnd_s, hc]
          show bnd (gif true (F_l4sector c)) _ = _
          rw [gif_1, sector_eq, bnd_s]
          show ifb (false || decide (strOf (sec c) ≠ strOf (sec c))) _ _ = _
          rw [decide_eq_false (fun h => h rfl)]
          show ifb false _ _ = _
          rw [ifb_0, nat_wrap (by omega), ht]
        cases hp : (w2 (plc i)).isSome with
        | false =>
          rw [hp] at hrd hs
          rw [ifb_0]
          exact fin _ _ (by rw [hs]; rfl) (by rw [hrd]; rfl)
        | true =>
          rw [hp] at hrd hs
          rw [ifb_1, grd_t (fun hh => belo (by simpa using hh))]
          show bnd (bnd (ifb (kp p2 (an w2 i)) _ _) _) _ = _
          cases hk : kp p2 (an w2 i) with
          | false =>
            rw [hk] at hrd
            rw [ifb_0, bnd_s, nat_wrap (by omega)]
            exact fin _ _ (by rw [hs]; rfl) (by rw [hrd]; rfl)
          | true =>
            rw [hk] at hrd
            rw [ifb_1, grd_t (belo hi), ixb_n hv, bnd_s, nat_wrap (by omega)]
            obtain ⟨q, hq⟩ := Option.isSome_iff_exists.1 hp
            have := j2.ss i v hv q hq
            subst this
            exact fin _ _ (by rw [hs]; rfl) (by rw [hrd, hq]; rfl))
      (fun s hI => by unfold F_lDeviceKeeps_b2; dsimp only; rw [List.length_range, decide_eq_false (by omega), ifb_0]) (by rw [List.length_range]; omega)
    have hx' : lp (F_lDeviceKeeps_b2 p2 (w1, 4, -1, false, a1) (w2, 4, -1, false, a2) (wl 32 w2) ⟨4, csafe 32 (sy fnil w1) w2 p2, fnil, -1, false⟩) fl (0, 0) = _ := hx
    rw [hx', fo_all, bnd_s, ocs_2]
    have : decide ((an w2 32 : Int) = ((wl 32 w2).length : Int)) = true := decide_eq_true (by unfold an wl; rw [List.length_map])
    rw [this]
    show bnd (gif true _) _ = _
    rw [gif_1, sure_eq hf]; rfl
end Go.Proofs.YtjbgddpaclcjfaaDoor.Eng.A

/- Devices in plain Lean: copies. -/
namespace Go.Proofs.YtjbgddpaclcjfaaDoor.Eng.A
set_option linter.unusedVariables false
set_option linter.unusedSimpArgs false
open Go.RowKit Go.Proofs.YtjbgddpaclcjfaaDoor.Plain Go.Proofs.YtjbgddpaclcjfaaDoor.Eng

theorem copies0 {l : List (Int × Int)} (hl : Wpp l) (hl2 : l.length ≤ 60) {y : Dev} (hy : MOk 32 y.safe_) {fl : Nat} (hf : 100 < fl) {w : Mp} (h : MOk 32 w) :
    lp (F_lDeviceCopies_b0 l y) fl (0, w, 4, -1, false) = some (.inr (l.foldl wst w, 4, -1, false)) := by
  have hx := lp_fo (l := l) (body := F_lDeviceCopies_b0 l y) (fun i (s : Mp) => ((i : Int), s, 4, -1, false)) (fun s x => .inl (wst s x)) (fun s => .inr (s, 4, -1, false)) (fun i s => MOk 32 s) (fl := fl) (s0 := w) h
    (fun i x s hx hI => by
      have hi := (List.getElem?_eq_some_iff.1 hx).1
      obtain ⟨h1, h2⟩ := hl x (List.mem_of_getElem? hx)
      have hm : x.1.toNat % 32 < 32 := Nat.mod_lt _ (by decide)
      refine .inl ⟨_, rfl, ?_, mok_set hI hm (sec_len _)⟩
      unfold F_lDeviceCopies_b0
      dsimp only
      have hd : DOk 32 (⟨4, y.safe_, s, -1, false⟩ : Dev) := ⟨(by show (4 : Int) * 8 = 32; decide), by decide, rfl, hy, hI⟩
      rw [dec_lt hi, ifb_1, ixb_n hx, ixb_n hx, sector_eq, bnd_s, tm32 h1, wrapi (by omega) (by omega), Write_eq hd hm (sec_len _) (by show (-1 : Int) ≠ 0; decide) (by show (-1 : Int) ≤ -1; decide) (by show (-1 : Int) < _; decide), bnd_s]
      show ifb false _ _ = _
      rw [ifb_0, nat_wrap (by omega)]; rfl)
    (fun s hI => by unfold F_lDeviceCopies_b0; dsimp only; rw [dec_ge, ifb_0]) (by omega)
  have hx' : lp (F_lDeviceCopies_b0 l y) fl (0, w, 4, -1, false) = _ := hx
  rw [hx', fo_all]
theorem copies2 {l : List (Int × Int)} (hl : Wpp l) (hl2 : l.length ≤ 60) {fl : Nat} (hf : 100 < fl) {a : List Int} (h : a.length = 32) :
    lp (F_lDeviceCopies_b2 l) fl (0, a) = some (l.foldl ast a) := by
  have hx := lp_fo (l := l) (body := F_lDeviceCopies_b2 l) (fun i (s : List Int) => ((i : Int), s)) (fun s x => .inl (ast s x)) (fun s => s) (fun i s => s.length = 32) (fl := fl) (s0 := a) h
    (fun i x s hx hI => by
      have hi := (List.getElem?_eq_some_iff.1 hx).1
      obtain ⟨h1, h2⟩ := hl x (List.mem_of_getElem? hx)
      have hm : x.1.toNat % 32 < 32 := Nat.mod_lt _ (by decide)
      refine .inl ⟨_, rfl, ?_, by unfold ast; rw [List.length_set]; exact hI⟩
      unfold F_lDeviceCopies_b2
      dsimp only
      rw [dec_lt hi, ifb_1, ixb_n hx, ixb_n hx, tm32 h1, grd_t (belo hm), grd_t (by rw [Int.toNat_natCast]; exact belo (by rw [hI]; exact hm)), nat_wrap (by omega)]; rfl)
    (fun s hI => by unfold F_lDeviceCopies_b2; dsimp only; rw [dec_ge, ifb_0]) (by omega)
  have hx' : lp (F_lDeviceCopies_b2 l) fl (0, a) = _ := hx
  rw [hx', fo_all]
theorem copies1 {l : List (Int × Int)} (hl : Wpp l) (hl2 : l.length ≤ 60) {arm : Nat} (ha : arm < 256) {y : Dev} (hy : MOk 32 y.safe_) {fl : Nat} (hf : 100 < fl) {w : Mp} (h : MOk 32 w) :
    ∃ w2 : Mp, lp (F_lDeviceCopies_b1 l (arm : Int) y) fl (0, 4, (arm : Int), false, w) = some (.inr (4, ((arm - l.length : Nat) : Int), decide (arm < l.length), w2)) := by
  have hx := lp_fo (l := l) (body := F_lDeviceCopies_b1 l (arm : Int) y) (fun i (s : Mp × Nat) => ((i : Int), 4, ((arm - i : Nat) : Int), decide (arm < i), s.1)) (fun s x => .inl ((if s.2 < arm then wst s.1 x else s.1), s.2 + 1))
    (fun s => .inr (4, ((arm - l.length : Nat) : Int), decide (arm < l.length), s.1)) (fun i s => s.2 = i ∧ MOk 32 s.1) (fl := fl) (s0 := (w, 0)) ⟨rfl, h⟩
    (fun i x s hx hI => by
      have hi := (List.getElem?_eq_some_iff.1 hx).1
      obtain ⟨h1, h2⟩ := hl x (List.mem_of_getElem? hx)
      have hm : x.1.toNat % 32 < 32 := Nat.mod_lt _ (by decide)
      obtain ⟨hs2, hs1⟩ := hI
      refine .inl ⟨_, rfl, ?_, by rw [hs2], ?_⟩
      · unfold F_lDeviceCopies_b1
        dsimp only
        rw [dec_lt hi, ifb_1, ixb_n hx, ixb_n hx, sector_eq, bnd_s, tm32 h1, wrapi (n := ((x.1.toNat % 32 : Nat) : Int)) (by omega) (by omega), wrapi (n := (arm : Int)) (by omega) (by omega), hs2]
        rcases Nat.lt_trichotomy i arm with hlt | heq | hgt
        · have hd : DOk 32 (⟨4, y.safe_, s.1, ((arm - i : Nat) : Int), decide (arm < i)⟩ : Dev) := ⟨(by show (4 : Int) * 8 = 32; decide), by decide, decide_eq_false (by omega), hy, hs1⟩
          rw [Write_eq hd hm (sec_len _) (by show ((arm - i : Nat) : Int) ≠ 0; omega) (by show (-1 : Int) ≤ ((arm - i : Nat) : Int); omega) (by show ((arm - i : Nat) : Int) < _; omega), bnd_s, decide_eq_true (show (i : Int) < (arm : Int) by omega)]
          show bnd (some default) _ = _
          rw [bnd_s]
          show ifb false _ _ = _
          rw [ifb_0, nat_wrap (by omega), if_pos hlt]
          have e1 : lf ((arm - i : Nat) : Int) = ((arm - (i + 1) : Nat) : Int) := by unfold lf; rw [if_neg (by omega)]; omega
          dsimp only
          rw [e1, decide_eq_false (show ¬ arm < i by omega), decide_eq_false (show ¬ arm < i + 1 by omega)]; rfl
        · subst heq
          have hd : DOk 32 (⟨4, y.safe_, s.1, ((i - i : Nat) : Int), decide (i < i)⟩ : Dev) := ⟨(by show (4 : Int) * 8 = 32; decide), by decide, decide_eq_false (by omega), hy, hs1⟩
          rw [Write_last hd hm (sec_len _) (by show ((i - i : Nat) : Int) = 0; omega), bnd_s, decide_eq_false (show ¬ (i : Int) < (i : Int) by omega)]
          show bnd (some (9 : Int)) _ = _
          rw [bnd_s]
          show ifb false _ _ = _
          rw [ifb_0, nat_wrap (by omega), if_neg (Nat.lt_irrefl _), decide_eq_true (show i < i + 1 by omega), show i - (i + 1) = i - i by omega]
        · rw [Write_down (d := ⟨4, y.safe_, s.1, ((arm - i : Nat) : Int), decide (arm < i)⟩) (decide_eq_true hgt), bnd_s, decide_eq_false (show ¬ (i : Int) < (arm : Int) by omega)]
          show bnd (some (9 : Int)) _ = _
          rw [bnd_s]
          show ifb false _ _ = _
          rw [ifb_0, nat_wrap (by omega), if_neg (by omega), decide_eq_true hgt, decide_eq_true (show arm < i + 1 by omega), show arm - (i + 1) = arm - i by omega]
      · dsimp only
        split
        · exact mok_set hs1 hm (sec_len _)
        · exact hs1)
    (fun s hI => by unfold F_lDeviceCopies_b1; dsimp only; rw [dec_ge, ifb_0]) (by omega)
  have hx' : lp (F_lDeviceCopies_b1 l (arm : Int) y) fl (0, 4, ((arm - 0 : Nat) : Int), decide (arm < 0), w) = _ := hx
  rw [show arm - 0 = arm from rfl, decide_eq_false (by omega)] at hx'
  rw [hx', fo_all]
  exact ⟨_, rfl⟩
theorem rd_sec {a : List Int} {w : Mp} (h : Jn z32 w a) {n : Nat} {u : Int} (hn : n < 32) (hu : a[n]? = some u) : rd fnil w n = sec u := by
  unfold rd
  cases hk : w (plc n) with
  | none =>
    have := h.nn n hn hk
    rw [hu] at this
    have h2 : z32[n]? = some 0 := by rw [List.getElem?_replicate, if_pos hn]
    rw [h2] at this
    cases this
    exact sec_0.symm
  | some v => exact h.ss n u hu v hk
theorem lCopies_eq {p0 p1 : List (Int × Int)} {p2 : Int} (h0 : Wpp p0) (h1 : Wpp p1) (h2 : 0 ≤ p2 ∧ p2 < 256) {fl : Nat} (hf : 100 < fl) : F_lDeviceCopies fl p0 p1 p2 = some true := by
  obtain ⟨arm, rfl⟩ : ∃ m : Nat, p2 = (m : Int) := ⟨p2.toNat, by omega⟩
  unfold F_lDeviceCopies
  rw [New_eq (by decide) (by decide), bnd_s]
  show ifb ((false || _) || _) _ _ = _
  rw [Bool.false_or]
  by_cases hl : 60 < (p0.length : Int) ∨ 60 < (p1.length : Int)
  · have : (decide (60 < (p0.length : Int)) || decide (60 < (p1.length : Int))) = true := by simpa using hl
    rw [this, ifb_1, sure_eq hf]; rfl
  · have : (decide (60 < (p0.length : Int)) || decide (60 < (p1.length : Int))) = false := by simpa using hl
    rw [this, ifb_0]
    have j1 := jn_fold p0 jn_0
    dsimp only
    rw [copies0 h0 (by omega) (mok_nil _) hf (mok_nil _), bnd_s, ocs_2]
    have hla := copies2 (a := z32) h0 (by omega) hf List.length_replicate
    generalize hw1 : p0.foldl wst fnil = w1 at j1 ⊢
    generalize ha1 : p0.foldl ast z32 = a1 at j1 hla ⊢
    dsimp only
    have hA : F_dArm (⟨4, fnil, w1, -1, false⟩ : Dev) (IntKind.i64.wrap (arm : Int)) = some ⟨4, fnil, w1, (arm : Int), false⟩ := by
      unfold F_dArm
      rw [wrapi (by omega) (by omega), if_pos (by omega)]
    rw [hA, bnd_s]
    dsimp only
    have hC : F_dCopy (⟨4, fnil, w1, (arm : Int), false⟩ : Dev) = some ⟨4, fnil, w1, (arm : Int), false⟩ := rfl
    rw [hC, bnd_s, Waiting_eq (N := 32) (by decide) j1.ok, bnd_s, bnd_s]
    dsimp only
    have hwl : (wl 32 w1).length ≤ 32 := by unfold wl; rw [List.length_map]; exact wn_len _ _
    rw [ints_eq (by omega) (by omega), bnd_s, decide_eq_true rfl]
    show ifb false _ _ = _
    obtain ⟨w2, hb1⟩ := copies1 (y := ⟨4, fnil, w1, (arm : Int), false⟩) h1 (by omega) (show arm < 256 by omega) (mok_nil _) hf j1.ok
    rw [ifb_0, hb1, bnd_s, ocs_2]
    dsimp only
    show bnd (some false) _ = _
    rw [bnd_s]
    show bnd (some (decide (arm < p1.length))) _ = _
    rw [bnd_s, wrapi (by omega) (by omega)]
    have e1 : decide ((arm : Int) < (p1.length : Int)) = decide (arm < p1.length) := by
      rw [Bool.eq_iff_iff, decide_eq_true_iff, decide_eq_true_iff]; omega
    rw [e1]
    have hbb : ∀ b : Bool, (false || (b != b)) = false := fun b => by cases b <;> rfl
    rw [hbb, ifb_0, hla, bnd_s]
    have hd : DOk 32 (⟨4, fnil, w1, (arm : Int), false⟩ : Dev) := ⟨(by show (4 : Int) * 8 = 32; decide), by decide, rfl, mok_nil _, j1.ok⟩
    have hx := lp_fo (l := List.range 32) (body := F_lDeviceCopies_b3 ⟨4, fnil, fnil, -1, false⟩ (w1, 4, -1, false) ⟨4, fnil, w1, (arm : Int), false⟩ a1)
      (fun i (s : Unit) => (i : Int)) (fun s x => .inl ()) (fun s => .inr ()) (fun i s => True) (fl := fl) (s0 := ()) trivial
      (fun i x s hx hI => by
        have hi := (List.getElem?_eq_some_iff.1 hx).1
        rw [List.length_range] at hi
        clear hx
        obtain ⟨u, hu⟩ := get32 j1.len hi
        refine .inl ⟨_, rfl, ?_, trivial⟩
        unfold F_lDeviceCopies_b3
        dsimp only
        rw [decide_eq_true (by omega), ifb_1, Read_eq hd hi, bnd_s, grd_t (fun _ => belo hi), grd_t (fun _ => by rw [Int.toNat_natCast]; exact belo (by rw [j1.len]; exact hi))]
        show bnd (gif true _) _ = _
        rw [gif_1, sector_eq, bnd_s, getD_n hu]
        dsimp only
        rw [rd_sec j1 hi hu]
        show ifb (false || decide (strOf (sec u) ≠ strOf (sec u))) _ _ = _
        rw [decide_eq_false (fun h => h rfl)]
        show ifb false _ _ = _
        rw [ifb_0, nat_wrap (by omega)])
      (fun s hI => by unfold F_lDeviceCopies_b3; dsimp only; rw [List.length_range, decide_eq_false (by omega), ifb_0]) (by rw [List.length_range]; omega)
    have hx' : lp (F_lDeviceCopies_b3 ⟨4, fnil, fnil, -1, false⟩ (w1, 4, -1, false) ⟨4, fnil, w1, (arm : Int), false⟩ a1) fl 0 = _ := hx
    rw [hx', fo_all, bnd_s, ocs_2, sure_eq hf]; rfl
end Go.Proofs.YtjbgddpaclcjfaaDoor.Eng.A
