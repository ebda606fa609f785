/- The engine: the orders of a drawn region, told apart. -/
import Derived.Test.YtmnhfpcbfdgbcaaEngX4
namespace Go.Proofs.Ytmnhfpcbfdgbcaa.Eng
open Go Go.RowKit
set_option linter.unusedVariables false
set_option linter.unusedSimpArgs false

/-- A list of places that a draw may answer. -/
inductive Sch (ops : Array Oper) : Nat → Array Bool → List Nat → Prop
  | zero {l : Array Bool} : Sch ops 0 l []
  | nil {n : Nat} {l : Array Bool} : Region.ready .any ops l = [] → Sch ops (n + 1) l []
  | cons {n : Nat} {l : Array Bool} {i : Nat} {σ : List Nat} : i ∈ Region.ready .any ops l → Sch ops n (l.setIfInBounds i true) σ → Sch ops (n + 1) l (i :: σ)
theorem sch_go (ops : Array Oper) : ∀ (n t : Nat) (l : Array Bool), Sch ops n l (Region.linearise.go .any ops n t l [])
  | 0, t, l => by simp only [Region.linearise.go]; exact .zero
  | n + 1, t, l => by
    simp only [Region.linearise.go]
    change Sch ops (n + 1) l (match (Region.ready .any ops l)[t % (Region.ready .any ops l).length]? with
      | some i => Region.linearise.go .any ops n (t / (Region.ready .any ops l).length) (l.setIfInBounds i true) [i]
      | none => [].reverse)
    cases hi : (Region.ready .any ops l)[t % (Region.ready .any ops l).length]? with
    | none =>
      refine .nil ?_
      cases hr : Region.ready .any ops l with
      | nil => rfl
      | cons x xs =>
        rw [hr] at hi
        have hlt : t % (x :: xs).length < (x :: xs).length := Nat.mod_lt _ (by simp)
        simp at hi
        simp at hlt
        omega
    | some i =>
      simp only []
      rw [linearise_go_acc, List.reverse_singleton, List.singleton_append]
      exact .cons (List.mem_of_getElem? hi) (sch_go ops n _ _)
theorem sch_sound {P : Program} {ops : Array Oper} {Q : Exit → Act → World → Prop} {n : Nat} {l : Array Bool} {σ : List Nat} (h : Sch ops n l σ) : ∀ {a : Act} {w : World}, wpAny P .any ops Q n l a w → wpOps P ops Q σ a w := by
  induction h with
  | zero => intro a w h; exact h.2
  | nil hr => intro a w h; exact h.1 hr
  | cons hi _ ih =>
    intro a w h
    rw [wpOps_cons]
    exact wpOp_mono (fun a w => ih) (h.2 _ hi)

/-- What every order answers. -/
def AnyS (P : Program) (ops : Array Oper) (Q : Exit → Act → World → Prop) (a : Act) (w : World) : Prop := ∀ σ, Sch ops ops.size (Array.replicate ops.size false) σ → wpOps P ops Q σ a w
theorem anyS_of {P : Program} {ops : Array Oper} {Q : Exit → Act → World → Prop} {a : Act} {w : World} (h : wpAny P .any ops Q ops.size (Array.replicate ops.size false) a w) : AnyS P ops Q a w := fun σ hs => sch_sound hs h
theorem wp_region_S {P : Program} {ops : Array Oper} {Q : Exit → Act → World → Prop} {id : Nat} {a : Act} {w : World} (hm : P.follows .mixedOrders = true) (h : AnyS P ops Q a { w with drawn := w.drawn + 1 }) : (Code.region id ops true).wp P Q a w :=
  wp_region_draw fun t => by
    simp only [Region.schedule, hm, Bool.true_or, if_true]
    exact h _ (sch_go ops _ t _)

/-! ### Two regions alike but for their edges and the order in which they are written -/
structure Alike (ops1 ops2 : Array Oper) (π : Nat → Nat) : Prop where
  size : ops2.size = ops1.size
  inj : ∀ i j, π i = π j → i = j
  lt : ∀ i, i < ops1.size ↔ π i < ops1.size
  none : ∀ i, ops1[i]? = .none → ops2[π i]? = .none
  some : ∀ (i : Nat) (o : Oper), ops1[i]? = .some o → ∃ o2, ops2[π i]? = .some o2 ∧ o2.dst = o.dst ∧ o2.op = o.op ∧ o2.type = o.type ∧ o2.pos = o.pos ∧ o2.guard = o.guard.map fun x => (π x.1, x.2)
theorem wp_alike {P : Program} {o o2 : Oper} {a : Act} {w : World} {K : Act → World → Prop} {Q : Exit → Act → World → Prop} (h1 : o2.dst = o.dst) (h2 : o2.op = o.op) (h3 : o2.type = o.type) (h4 : o2.pos = o.pos) : o2.wp P a w K Q = o.wp P a w K Q ∧ o2.asks P a w = o.asks P a w := by
  obtain ⟨d, op, ty, ps, af, gd⟩ := o
  obtain ⟨d', op', ty', ps', af', gd'⟩ := o2
  simp only at h1 h2 h3 h4
  subst h1; subst h2; subst h3; subst h4
  exact ⟨rfl, rfl⟩
theorem yielded_alike {ops1 ops2 : Array Oper} {π : Nat → Nat} (h : Alike ops1 ops2 π) (ts : Array Value) (j : Nat) : yielded ops2 ts (π j) = yielded ops1 ts j := by
  unfold yielded
  cases hj : ops1[j]? with
  | none => rw [h.none j hj]
  | some o =>
    obtain ⟨o2, e, hd, _⟩ := h.some j o hj
    rw [e]
    simp only [Option.bind_some, hd]
theorem wpOps_alike {P : Program} {ops1 ops2 : Array Oper} {π : Nat → Nat} {Q : Exit → Act → World → Prop} (h : Alike ops1 ops2 π) : ∀ (σ : List Nat) (a : Act) (w : World), wpOps P ops2 Q (σ.map π) a w → wpOps P ops1 Q σ a w
  | [], a, w, hh => hh
  | i :: σ, a, w, hh => by
    rw [List.map_cons, wpOps_cons] at hh
    rw [wpOps_cons]
    unfold wpOp at hh ⊢
    cases hi : ops1[i]? with
    | none => rw [h.none i hi] at hh; exact wpOps_alike h σ a w hh
    | some o =>
      obtain ⟨o2, e, hd, ho, ht, hp, hg⟩ := h.some i o hi
      rw [e] at hh
      simp only at hh ⊢
      have hw : Region.wanted o2 (yielded ops2 a.tmps) = Region.wanted o (yielded ops1 a.tmps) := by
        unfold Region.wanted
        rw [hg]
        cases o.guard with
        | none => rfl
        | some x => simp only [Option.map_some, yielded_alike h]
      rw [hw] at hh
      split
      · rename_i hx
        rw [if_pos hx] at hh
        obtain ⟨w1, w2⟩ := wp_alike (P := P) (a := a) (w := w) (K := wpOps P ops2 Q (σ.map π)) (Q := Q) hd ho ht hp
        rw [w1, w2] at hh
        exact hh.imp (Oper.wp_mono fun a w => wpOps_alike h σ a w) id
      · rename_i hx
        rw [if_neg hx, hd] at hh
        exact wpOps_alike h σ _ w hh

/-! ### One more edge -/
def edge1 (a : Nat) (o : Oper) : Oper := { o with after := o.after.push ⟨a, .data⟩ }
def addE : Nat → Nat → List Oper → List Oper
  | _, _, [] => []
  | 0, a, o :: l => edge1 a o :: l
  | b + 1, a, o :: l => o :: addE b a l
theorem addE_len : ∀ (b a : Nat) (l : List Oper), (addE b a l).length = l.length
  | b, a, [] => by cases b <;> rfl
  | 0, a, o :: l => rfl
  | b + 1, a, o :: l => by rw [addE, List.length_cons, addE_len b a l, List.length_cons]
theorem addE_get : ∀ (b a : Nat) (l : List Oper) (i : Nat), (addE b a l)[i]? = (l[i]?).map fun o => if i = b then edge1 a o else o
  | b, a, [], i => by cases b <;> simp [addE]
  | 0, a, o :: l, 0 => by simp [addE]
  | 0, a, o :: l, i + 1 => by simp [addE]
  | b + 1, a, o :: l, 0 => by simp [addE]
  | b + 1, a, o :: l, i + 1 => by
    rw [addE, List.getElem?_cons_succ, addE_get b a l i, List.getElem?_cons_succ]
    simp
theorem alike_add (b a : Nat) (l : List Oper) : Alike l.toArray (addE b a l).toArray id := by
  refine ⟨by simp [addE_len], fun i j h => h, fun i => Iff.rfl, fun i h => ?_, fun i o h => ?_⟩
  · simp only [List.getElem?_toArray, id] at h ⊢
    rw [addE_get, h]; rfl
  · simp only [List.getElem?_toArray, id] at h ⊢
    rw [addE_get, h]
    refine ⟨_, rfl, ?_⟩
    dsimp only
    have hg : o.guard = o.guard.map fun x => (x.1, x.2) := by cases o.guard <;> rfl
    by_cases hi : i = b
    · rw [if_pos hi]; exact ⟨rfl, rfl, rfl, rfl, hg⟩
    · rw [if_neg hi]; exact ⟨rfl, rfl, rfl, rfl, hg⟩
theorem ready_add {b a : Nat} {l : List Oper} {L : Array Bool} {i : Nat} : i ∈ Region.ready .any (addE b a l).toArray L ↔ i ∈ Region.ready .any l.toArray L ∧ (i = b → L.getD a false = true) := by
  rw [mem_ready, mem_ready]
  simp only [List.getElem?_toArray, addE_get]
  constructor
  · rintro ⟨h1, o, h2, h3⟩
    cases hl : l[i]? with
    | none => rw [hl] at h2; cases h2
    | some o' =>
      rw [hl] at h2
      simp only [Option.map_some, Option.some.injEq] at h2
      subst h2
      refine ⟨⟨h1, o', rfl, fun ed hed hb => ?_⟩, fun hi => ?_⟩
      · refine h3 ed ?_ hb
        by_cases hi : i = b
        · rw [if_pos hi]; simp [edge1, hed]
        · rw [if_neg hi]; exact hed
      · refine h3 ⟨a, .data⟩ ?_ rfl
        rw [if_pos hi]; simp [edge1]
  · rintro ⟨⟨h1, o, h2, h3⟩, h4⟩
    refine ⟨h1, _, by rw [h2]; rfl, fun ed hed hb => ?_⟩
    dsimp only at hed
    by_cases hi : i = b
    · rw [if_pos hi] at hed
      simp only [edge1, Array.mem_push] at hed
      rcases hed with hed | rfl
      · exact h3 ed hed hb
      · exact h4 hi
    · rw [if_neg hi] at hed; exact h3 ed hed hb
theorem sch_add {b a : Nat} {l : List Oper} {n : Nat} {L : Array Bool} {σ : List Nat} (h : Sch l.toArray n L σ) : L.size = l.length → (∀ σ1 σ2, σ = σ1 ++ b :: σ2 → L.getD a false = true ∨ a ∈ σ1) → Sch (addE b a l).toArray n L σ := by
  induction h with
  | zero => intro _ _; exact .zero
  | @nil n L hr =>
    intro _ _
    refine .nil (List.eq_nil_iff_forall_not_mem.2 fun i hi => ?_)
    have := (ready_add.1 hi).1
    rw [hr] at this; cases this
  | @cons n L i σ hi hs ih =>
    intro hL hc
    refine .cons (ready_add.2 ⟨hi, fun hib => ?_⟩) (ih (by simpa using hL) fun σ1 σ2 e => ?_)
    · rcases hc [] σ (by rw [hib]; rfl) with h | h
      · exact h
      · cases h
    · rcases hc (i :: σ1) σ2 (by rw [e]; rfl) with h | h
      · left
        by_cases hai : i = a
        · subst hai
          have : i < L.size := by
            obtain ⟨_, o, ho, _⟩ := mem_ready.1 hi
            simp only [List.getElem?_toArray] at ho
            rw [hL]; exact (List.getElem?_eq_some_iff.1 ho).1
          simp [Array.getD_eq_getD_getElem?, Array.getElem?_setIfInBounds, this]
        · simpa [Array.getD_eq_getD_getElem?, Array.getElem?_setIfInBounds, hai] using h
      · rcases List.mem_cons.1 h with rfl | h
        · left
          have : a < L.size := by
            obtain ⟨_, o, ho, _⟩ := mem_ready.1 hi
            simp only [List.getElem?_toArray] at ho
            rw [hL]; exact (List.getElem?_eq_some_iff.1 ho).1
          simp [Array.getD_eq_getD_getElem?, Array.getElem?_setIfInBounds, this]
        · exact .inr h
theorem one_first {a b : Nat} (hab : a ≠ b) : ∀ σ : List Nat, (∀ σ1 σ2, σ = σ1 ++ b :: σ2 → a ∈ σ1) ∨ (∀ σ1 σ2, σ = σ1 ++ a :: σ2 → b ∈ σ1)
  | [] => .inl fun σ1 σ2 h => by simp at h
  | x :: σ => by
    by_cases ha : x = a
    · left
      intro σ1 σ2 h
      cases σ1 with
      | nil => simp at h; omega
      | cons y σ1 => simp at h; simp [← h.1, ha]
    · by_cases hb : x = b
      · right
        intro σ1 σ2 h
        cases σ1 with
        | nil => simp at h; omega
        | cons y σ1 => simp at h; simp [← h.1, hb]
      · rcases one_first hab σ with h | h
        · left
          intro σ1 σ2 e
          cases σ1 with
          | nil => simp at e; omega
          | cons y σ1 => simp at e; exact List.mem_cons_of_mem _ (h σ1 σ2 e.2)
        · right
          intro σ1 σ2 e
          cases σ1 with
          | nil => simp at e; omega
          | cons y σ1 => simp at e; exact List.mem_cons_of_mem _ (h σ1 σ2 e.2)
theorem anyS_split {P : Program} {l : List Oper} {Q : Exit → Act → World → Prop} {ac : Act} {w : World} (a b : Nat) (hab : a ≠ b) (h1 : AnyS P (addE b a l).toArray Q ac w) (h2 : AnyS P (addE a b l).toArray Q ac w) : AnyS P l.toArray Q ac w := by
  intro σ hs
  rcases one_first hab σ with h | h
  · have := h1 σ (by
      have := sch_add (b := b) (a := a) hs (by simp) fun σ1 σ2 e => .inr (h σ1 σ2 e)
      simpa [addE_len] using this)
    exact wpOps_alike (alike_add b a l) σ ac w (by simpa using this)
  · have := h2 σ (by
      have := sch_add (b := a) (a := b) hs (by simp) fun σ1 σ2 e => .inr (h σ1 σ2 e)
      simpa [addE_len] using this)
    exact wpOps_alike (alike_add a b l) σ ac w (by simpa using this)

/-! ### Two neighbours in the other order -/
def sw2 (k i : Nat) : Nat := if i = k then k + 1 else if i = k + 1 then k else i
theorem sw2_inv (k i : Nat) : sw2 k (sw2 k i) = i := by unfold sw2; split <;> (try split) <;> (try split) <;> omega
theorem sw2_inj (k i j : Nat) (h : sw2 k i = sw2 k j) : i = j := by rw [← sw2_inv k i, h, sw2_inv]
theorem sw2_lt {k n : Nat} (hk : k + 1 < n) (i : Nat) : i < n ↔ sw2 k i < n := by unfold sw2; split <;> (try split) <;> omega
def ren (k : Nat) (o : Oper) : Oper := { o with after := o.after.map fun e => ⟨sw2 k e.on, e.ground⟩, guard := o.guard.map fun x => (sw2 k x.1, x.2) }
def swL {α : Type} : Nat → List α → List α
  | 0, a :: b :: l => b :: a :: l
  | k + 1, a :: l => a :: swL k l
  | _, l => l
theorem swL_get {α : Type} : ∀ (k : Nat) (l : List α), k + 1 < l.length → ∀ i, (swL k l)[i]? = l[sw2 k i]?
  | 0, a :: b :: l, _, i => by
    rcases i with _ | _ | i
    · simp [swL, sw2]
    · simp [swL, sw2]
    · simp [swL, sw2]
  | k + 1, a :: l, h, i => by
    rcases i with _ | i
    · simp [swL, sw2]
    · rw [swL, List.getElem?_cons_succ, swL_get k l (by simpa using h) i]
      have : sw2 (k + 1) (i + 1) = sw2 k i + 1 := by unfold sw2; split <;> (try split) <;> (try split) <;> (try split) <;> omega
      rw [this, List.getElem?_cons_succ]
  | 0, [], h, _ => by simp at h
  | 0, [a], h, _ => by simp at h
theorem swL_len {α : Type} : ∀ (k : Nat) (l : List α), (swL k l).length = l.length
  | 0, a :: b :: l => rfl
  | k + 1, a :: l => by rw [swL, List.length_cons, swL_len k l, List.length_cons]
  | 0, [] => rfl
  | 0, [a] => rfl
  | k + 1, [] => rfl
def swapE (k : Nat) (l : List Oper) : List Oper := swL k (l.map (ren k))
theorem swapE_get {k : Nat} {l : List Oper} (hk : k + 1 < l.length) (i : Nat) : (swapE k l)[sw2 k i]? = (l[i]?).map (ren k) := by
  unfold swapE
  rw [swL_get k _ (by simpa using hk), sw2_inv, List.getElem?_map]
theorem alike_swap {k : Nat} {l : List Oper} (hk : k + 1 < l.length) : Alike l.toArray (swapE k l).toArray (sw2 k) := by
  refine ⟨by simp [swapE, swL_len], sw2_inj k, fun i => sw2_lt (by simpa using hk) i, fun i h => ?_, fun i o h => ?_⟩
  · simp only [List.getElem?_toArray] at h ⊢
    rw [swapE_get hk, h]; rfl
  · simp only [List.getElem?_toArray] at h ⊢
    rw [swapE_get hk, h]
    exact ⟨_, rfl, rfl, rfl, rfl, rfl, rfl⟩
theorem ready_swap {k : Nat} {l : List Oper} (hk : k + 1 < l.length) {L1 L2 : Array Bool} (hL : ∀ i, L2[sw2 k i]? = L1[i]?) {i : Nat} : i ∈ Region.ready .any l.toArray L1 → sw2 k i ∈ Region.ready .any (swapE k l).toArray L2 := by
  rw [mem_ready, mem_ready]
  simp only [List.getElem?_toArray, Array.getD_eq_getD_getElem?, swapE_get hk, hL]
  rintro ⟨h1, o, h2, h3⟩
  refine ⟨h1, _, by rw [h2]; rfl, fun ed hed hb => ?_⟩
  simp only [ren, Array.mem_map] at hed
  obtain ⟨e, he, rfl⟩ := hed
  rw [hL]
  exact h3 e he hb
theorem ready_back {k : Nat} {l : List Oper} (hk : k + 1 < l.length) {L1 L2 : Array Bool} (hL : ∀ i, L2[sw2 k i]? = L1[i]?) {i : Nat} : sw2 k i ∈ Region.ready .any (swapE k l).toArray L2 → i ∈ Region.ready .any l.toArray L1 := by
  rw [mem_ready, mem_ready]
  simp only [List.getElem?_toArray, Array.getD_eq_getD_getElem?, swapE_get hk, hL]
  rintro ⟨h1, o, h2, h3⟩
  cases hl : l[i]? with
  | none => rw [hl] at h2; cases h2
  | some o' =>
    rw [hl] at h2
    simp only [Option.map_some, Option.some.injEq] at h2
    subst h2
    refine ⟨h1, o', rfl, fun ed hed hb => ?_⟩
    have := h3 ⟨sw2 k ed.on, ed.ground⟩ (by simp only [ren, Array.mem_map]; exact ⟨ed, hed, rfl⟩) hb
    rwa [hL] at this
theorem sch_swap {k : Nat} {l : List Oper} (hk : k + 1 < l.length) {n : Nat} {L1 : Array Bool} {σ : List Nat} (h : Sch l.toArray n L1 σ) : ∀ {L2 : Array Bool}, L1.size = l.length → L2.size = l.length → (∀ i, L2[sw2 k i]? = L1[i]?) → Sch (swapE k l).toArray n L2 (σ.map (sw2 k)) := by
  induction h with
  | zero => intro L2 _ _ _; exact .zero
  | nil hr =>
    intro L2 _ _ hL
    refine .nil (List.eq_nil_iff_forall_not_mem.2 fun i hi => ?_)
    rw [← sw2_inv k i] at hi
    have := ready_back hk hL hi
    rw [hr] at this; cases this
  | @cons n L i σ hi hs ih =>
    intro L2 h1 h2 hL
    rw [List.map_cons]
    refine .cons (ready_swap hk hL hi) (ih (by simpa using h1) (by simpa using h2) fun j => ?_)
    rw [Array.getElem?_setIfInBounds, Array.getElem?_setIfInBounds, hL]
    by_cases hij : i = j
    · subst hij
      have hlt := sw2_lt hk i
      rw [if_pos rfl, if_pos rfl, h1, h2]
      by_cases hi : i < l.length
      · rw [if_pos hi, if_pos (hlt.1 hi)]
      · rw [if_neg hi, if_neg (fun h => hi (hlt.2 h))]
    · rw [if_neg hij, if_neg (fun h => hij (sw2_inj k _ _ h))]
theorem anyS_swap {P : Program} {l : List Oper} {Q : Exit → Act → World → Prop} {ac : Act} {w : World} (k : Nat) (hk : k + 1 < l.length) (h : AnyS P (swapE k l).toArray Q ac w) : AnyS P l.toArray Q ac w := by
  intro σ hs
  refine wpOps_alike (alike_swap hk) σ ac w (h _ ?_)
  have hsz : (swapE k l).toArray.size = l.length := by simp [swapE, swL_len]
  rw [hsz]
  have hs' : Sch l.toArray l.length (Array.replicate l.length false) σ := by simpa using hs
  refine sch_swap hk hs' (by simp) (by simp) fun i => ?_
  have := sw2_lt hk i
  rw [Array.getElem?_replicate, Array.getElem?_replicate]
  by_cases hi : i < l.length
  · rw [if_pos hi, if_pos (this.1 hi)]
  · rw [if_neg hi, if_neg (fun h => hi (this.2 h))]

/-! ### At the level of a walk -/
def AY (P : Program) (nt : Nat) (l : List Oper) (Q : Exit → Env → St → Prop) (e : Env) (s : St) : Prop :=
  ∀ g a w, ERel nt e g a w → SRel g s w → AnyS P l.toArray (Post nt Q g w) a { w with drawn := w.drawn + 1 }
theorem aw_of_ay {P : Program} {nt id : Nat} {l : List Oper} {Q : Exit → Env → St → Prop} {e : Env} {s : St} (hm : P.follows .mixedOrders = true) (h : AY P nt l Q e s) : AW P nt (.region id l.toArray true) Q e s :=
  fun g a w he hs => wp_region_S hm (h g a w he hs)
theorem ay_split {P : Program} {nt : Nat} {l : List Oper} {Q : Exit → Env → St → Prop} {e : Env} {s : St} (a b : Nat) (hab : Nat.beq a b = false) (h1 : AY P nt (addE b a l) Q e s) (h2 : AY P nt (addE a b l) Q e s) : AY P nt l Q e s :=
  fun g ac w he hs => anyS_split a b (Nat.ne_of_beq_eq_false hab) (h1 g ac w he hs) (h2 g ac w he hs)
theorem ay_swap {P : Program} {nt : Nat} {l : List Oper} {Q : Exit → Env → St → Prop} {e : Env} {s : St} (k : Nat) (hk : Nat.blt (k + 1) l.length = true) (h : AY P nt (swapE k l) Q e s) : AY P nt l Q e s :=
  fun g ac w he hs => anyS_swap k (Nat.le_of_ble_eq_true hk) (h g ac w he hs)
theorem ay_drawn {P : Program} {nt : Nat} {ops : List Oper} {Q : Exit → Env → St → Prop} {e : Env} {s : St} (acts : List Bool) (ws : List (List Nat)) (hd : DOk nt ops acts ws = true)
    (h : DT P ops.toArray (fun tr e' s' => tr.map isAct = acts ∧ LoadsOk s tr tr ws ∧ Q .normal e' s') ops e s []) : AY P nt ops Q e s := by
  intro g a w he hs
  refine anyS_of ?_
  obtain ⟨tr, e', s', htr, hk⟩ := h.tr
  rw [List.nil_append] at hk
  obtain ⟨hacts, hl, hq⟩ := hk
  simp only [DOk, Bool.and_eq_true, decide_eq_true_eq] at hd
  obtain ⟨⟨⟨⟨h1, h2⟩, h3⟩, h4⟩, h5⟩ := hd
  have J : JJ ops nt e s tr g w (Array.replicate ops.toArray.size false) g a { w with drawn := w.drawn + 1 } := by
    refine ⟨Ext.drew g w, ?_, he.size, he.defers, fun t => ?_, by simp, ?_⟩
    · have : ((List.range ops.length).countP fun j => (tr.map isAct).getD j false && (Array.replicate ops.toArray.size false).getD j false) = 0 := by
        rw [List.countP_eq_zero]
        intro j hj
        rw [getD_rep]; simp
      rw [this]
      simpa [stAt] using hs.drew
    · rw [last_agree (h := fun j => decide (j < 0)) ops.length (fun i hi _ => by rw [getD_rep]; simp), last_below 0 _ (by omega)]
      exact (e t).mono (Ext.drew g w) (he.tmp t)
    · intro j o ed _ hl
      rw [getD_rep] at hl; cases hl
  refine drawn_any h1 h2 h3 (by rw [hacts]; exact h4) htr (fun i t ht hc k hlo hhi => ?_) hq ops.toArray.size _ g a _ J ?_
  · obtain ⟨w, hw, ha⟩ := hl.at i t ht hc
    refine ha.at k ?_
    have hi : i < ops.length := by
      have := (List.getElem?_eq_some_iff.1 ht).1
      have h6 := htr.spec.1
      omega
    rw [← h5, wins, List.getElem?_map, List.getElem?_range hi] at hw
    simp only [Option.map_some, Option.some.injEq] at hw
    rw [← hw, List.mem_range'_1]
    rw [hacts] at hlo hhi
    omega
  · have := List.countP_le_length (p := fun j => !(Array.replicate ops.toArray.size false).getD j false) (l := List.range ops.length)
    simpa using this
end Go.Proofs.Ytmnhfpcbfdgbcaa.Eng

/- The engine: rows that are written in place. They lie in a box that has a version. -/
namespace Go.Proofs.Ytmnhfpcbfdgbcaa.Eng
open Go.RowKit

def hot (te r : Nat) : TypeId := te + HOT * r
theorem hot_ver {te r : Nat} {cs : List Pd} (h : Nat.blt te HOT = true) : (⟨hot te r, cs⟩ : Bx).ver = r := by
  have h1 : te < HOT := Eq.mp Nat.blt_eq h
  show (te + HOT * r) / HOT = r
  rw [Nat.add_mul_div_left _ _ (by decide), Nat.div_eq_of_lt h1]; omega
theorem hot_mod {te r : Nat} (h : Nat.blt te HOT = true) : hot te r % HOT = te := by
  have h1 : te < HOT := Eq.mp Nat.blt_eq h
  show (te + HOT * r) % HOT = te
  rw [Nat.add_mul_mod_self_left, Nat.mod_eq_of_lt h1]
theorem hot_obj {te r : Nat} {cs : List Pd} (h : Nat.blt te HOT = true) (hr : 2 ≤ r) (vs : Array Value) : (⟨hot te r, cs⟩ : Bx).obj vs = .cells vs te (0, 0) := by
  have h1 : (hot te r) / HOT = r := hot_ver (cs := cs) h
  have h2 := hot_mod (r := r) h
  have h3 : Nat.beq r 1 = false := by
    cases hh : Nat.beq r 1 with
    | false => rfl
    | true => have := Nat.eq_of_beq_eq_true hh; omega
  unfold Bx.obj
  simp only [h1, h2, h3]; rfl

/-- A slice of the cells of a box: the box's version, where it begins, how many, and how many cells an element has. -/
def hsl (b r off n sz : Nat) : Pd := ⟨fun g _ v => ∃ e A c, g.box[b]? = some e ∧ r ≤ e.ver ∧ v = .slice A n c ∧ n ≤ c ∧ (A = none → c = 0) ∧ (e.ver = r → (e.blk = none ∧ c = 0) ∨ ∃ k, e.blk = some k ∧ A = some ⟨k, off, none⟩ ∧ off + c * sz = e.cnt), by
  rintro g w g' w' v hx ⟨e, A, c, h1, h2, h3, h4, h5, h6⟩
  obtain ⟨e', q1, q2, q3⟩ := hx.box b e h1
  refine ⟨e', A, c, q1, Nat.le_trans h2 q2, h3, h4, h5, fun h => ?_⟩
  have : e.ver = e'.ver := by omega
  have q4 := q3 this
  subst q4
  exact h6 h⟩
theorem hsl_bnd {b r off n sz N : Nat} (m : Nat) (h : b < N) : (hsl b r off n sz).Bnd N m := fun _ _ _ _ _ hb _ ⟨e, A, c, h1, h2⟩ => ⟨e, A, c, hb b e h h1, h2⟩
theorem one_hsl (b r off n sz : Nat) : (hsl b r off n sz).One := fun _ _ _ ⟨_, _, _, _, _, hv, _⟩ => by rw [hv]; rfl

section
variable {P : Program} {e : Env} {s : St} {dst : Option Tmp} {ty : TypeId} {pos : String} {after : Array Edge} {guard : Option (Nat × Bool)} {bs bs' : List Bx} {fs fs' : List Fr}

theorem opD_len_h {b r off n sz : Nat} {x : Operand} {t te : TypeId} (ht : P.underlying t = some (.slice te)) (hx : e.ev x = hsl b r off n sz) :
    OpD P ⟨dst, .call { callee := .builtin .len, args := #[x], argTypes := #[t] }, ty, pos, after, guard⟩ e s (pl (.int .i64 (n : Int))) s :=
  opD_look fun g a w ha _ => by
    have h1 := ha x (by simp [Op.operands, Call.operands])
    rw [hx] at h1
    obtain ⟨e0, A, c, _, _, hv, _⟩ := h1
    refine ⟨_, ?_, rfl⟩
    rw [exec_builtin, show #[x].map a.eval = #[a.eval x] from by simp, hv]
    show (Sem.bind (Builtin.len_ #[t] ty #[.slice A n c]) fun v => Sem.pure (Next.value v)).run P w = _
    exact run_v (by simp [Builtin.len_, run_underlying ht]; rfl)
end

section
variable {P : Program} {e : Env} {s : St} {dst : Option Tmp} {ty : TypeId} {pos : String} {after : Array Edge} {guard : Option (Nat × Bool)} {bs bs' : List Bx} {fs fs' : List Fr}
theorem Pds.pre2 {g : G} {w : World} {ps : List Pd} {vs : List Value} (hp : Pds g w ps vs) (r : List Value) : PdsP g w ps (vs ++ r) := by
  unfold PdsP
  rw [List.take_append_of_le_length (by rw [hp.length]; exact Nat.le_refl _), List.take_of_length_le (by rw [hp.length]; exact Nat.le_refl _)]
  exact hp
theorem flatKB {α : Type} {k : Kn α} {l : List α} {n m : Nat} (hkb : ∀ x n m, ∀ p ∈ k.cs x, p.Bnd n m) : ∀ p ∈ flat k l, p.Bnd n m := fun p hp => by
  simp only [flat, List.mem_flatMap] at hp
  obtain ⟨x, _, hx⟩ := hp
  exact hkb x n m p hx
/-- What an append leaves, wherever it leaves it. -/
theorem append_leaves {α : Type} {k : Kn α} {b r te : Nat} {l l' : List α} {g : G} {w w' : World} {ee : BE} {k' c : Nat} {cs : Array Value} (hte : Nat.blt te HOT = true) (hr : 2 ≤ r) (hev : r % 2 = 0) (hs : SRel g s w) (hB : s.boxes[b]? = some ⟨hot te r, flat k l⟩) (hkb : ∀ x n m, ∀ p ∈ k.cs x, p.Bnd n m)
    (he : g.box[b]? = some ee) (hevr : ee.ver = r) (hkk : ee.blk = some k' ∨ w.heap.size ≤ k') (h0 : g.sld k' = 0) (hos : w'.os = w.os) (htp : w'.tape = w.tape) (hou : w'.output = w.output) (hsz : w.heap.size ≤ w'.heap.size) (hsame : ∀ b, b < w.heap.size → b ≠ k' → w'.heap[b]? = w.heap[b]?)
    (hh : w'.heap[k']? = some (.cells cs te (0, 0))) (hc : cs.size = c * k.sz) (hp : PdsP g w (flat k l') cs.toList) (hlc : l'.length ≤ c) :
    ∃ g', (hsl b (r + 2) 0 l'.length k.sz).h g' w' (.slice (some ⟨k', 0, none⟩) l'.length c) ∧ Ext g w g' w' ∧ SRel g' ⟨s.boxes.set b ⟨hot te (r + 2), flat k l'⟩, s.fr, s.stat⟩ w' := by
  let e' : BE := ⟨some k', r + 2, c * k.sz⟩
  let g' : G := ⟨g.sld, g.box.set b e', g.own, g.base⟩
  have hi : b < g.box.length := (List.getElem?_eq_some_iff.1 he).1
  have hx : Ext g w g' w' := ext_put (e' := e') hs he ⟨rfl, rfl, rfl⟩ rfl rfl (by show ee.ver < r + 2; omega) hkk hos htp hou hsz hsame h0
  refine ⟨g', ⟨e', some ⟨k', 0, none⟩, c, List.getElem?_set_self hi, Nat.le_refl _, rfl, hlc, (fun h => by cases h), fun _ => .inr ⟨k', rfl, rfl, by show 0 + c * k.sz = c * k.sz; omega⟩⟩, hx, ?_⟩
  refine srel_put (B' := ⟨hot te (r + 2), flat k l'⟩) (e' := e') hs hB he hx ⟨rfl, rfl, rfl⟩ rfl rfl (hot_ver hte).symm (fun _ => hc) hkk hsame ?_ h0 (hp.mono hx) (flatKB hkb)
  rw [hot_obj hte (by omega)]; exact hh

theorem opD_append_h {α : Type} {k : Kn α} {b r : Nat} {o2 : Option Nat} {nl2 : Option Bool} {l l2 : List α} {x y : Operand} {t te : TypeId} {by_ : Nat} (ht : P.underlying t = some (.slice te)) (hel : elT P te = some (k.sz, by_)) (hte : Nat.blt te HOT = true) (hr : 2 ≤ r) (hev : r % 2 = 0)
    (hx : e.ev x = hsl b r 0 l.length k.sz) (hy : e.ev y = sl k o2 nl2 l2) (hB : s.boxes[b]? = some ⟨hot te r, flat k l⟩) (hkb : ∀ x n m, ∀ p ∈ k.cs x, p.Bnd n m) (hb : (l.length + l2.length) * by_ ≤ 140737488355328) (hb2 : l.length + l2.length ≤ 9223372036854775807) :
    OpD P ⟨dst, .call { callee := .builtin .append, args := #[x, y], argTypes := #[t, t] }, ty, pos, after, guard⟩ e s (hsl b (r + 2) 0 (l ++ l2).length k.sz) ⟨s.boxes.set b ⟨hot te (r + 2), flat k (l ++ l2)⟩, s.fr, s.stat⟩ :=
  opD_value fun g a w ha hs => by
    have h1 := ha x (by simp [Op.operands, Call.operands])
    have h2 := ha y (by simp [Op.operands, Call.operands])
    rw [hx] at h1
    rw [hy] at h2
    obtain ⟨ee, A, c, q1, q2, hv, hlc, hAn, hblk⟩ := h1
    obtain ⟨A2, c2, hv2, hlc2, hA2, hnl2, hc2, _⟩ := h2
    obtain ⟨i, z, hi, hz, hzs, hsz, hby⟩ := elT_spec hel
    obtain ⟨ee', vs, r1, r2, r3, r4, r5, r6⟩ := hs.bx b _ hB
    rw [q1] at r1; cases r1
    have hevr : ee.ver = r := by rw [r2]; exact hot_ver hte
    have hver : (⟨hot te r, flat k l⟩ : Bx).ver = r := hot_ver hte
    replace hblk := hblk hevr
    rw [exec_builtin, show #[x, y].map a.eval = #[a.eval x, a.eval y] from by simp, hv, hv2]
    show ∃ v g' w', (Sem.bind (Builtin.append_ #[t, t] ty #[.slice A l.length c, .slice A2 l2.length c2]) fun v => Sem.pure (Next.value v)).run P w = _ ∧ _
    by_cases hl : l2 = []
    · subst hl
      obtain ⟨g', hg', hxt, hS⟩ := srel_bump (B' := ⟨hot te (r + 2), flat k l⟩) hs hB q1 rfl (fun vs => by rw [hot_obj hte (by omega), hot_obj hte hr]) (by rw [hver, hot_ver hte]; omega) (by rw [hver]; exact hr) (fun _ => .inr ⟨by rw [hver]; exact hr, by rw [hver]; exact hev⟩)
      refine ⟨.slice A l.length c, g', w, run_v ?_, ?_, hxt, by rw [List.append_nil]; exact hS⟩
      · have : (Builtin.firstCells i.size 0 (.slice A2 0 c2)).run P w = .ok #[] w := by
          cases A2 with
          | none => simp [Builtin.firstCells]
          | some a2 => simpa using run_firstCells_some (P := P) w i.size 0 a2 0 c2 [] (by simp) (fun j v h => by simp at h)
        cases A with
        | none => simp [Builtin.append_, run_underlying ht, sizeOf, typeInfo, hi, Builtin.lenOf, this, hlc]
        | some ad => simp [Builtin.append_, run_underlying ht, sizeOf, typeInfo, hi, Builtin.lenOf, this, hlc, storeCells]
      · rw [List.append_nil]
        subst hg'
        refine ⟨⟨ee.blk, (⟨hot te (r + 2), flat k l⟩ : Bx).ver, ee.cnt⟩, A, c, List.getElem?_set_self (List.getElem?_eq_some_iff.1 q1).1, ?_, rfl, hlc, hAn, fun _ => hblk⟩
        rw [hot_ver hte]; exact Nat.le_refl _
    · obtain ⟨b2, off2, rfl, hcells2⟩ := hc2 hl
      obtain ⟨vs2, hvl2, hvc2, hvp2, hv12⟩ := hcells2.vals
      have hpos : 0 < l2.length := List.length_pos_iff.2 hl
      have hle : (l ++ l2).length = l.length + l2.length := List.length_append
      by_cases hroom : l.length + l2.length ≤ c
      · rcases hblk with ⟨_, hc0⟩ | ⟨kk, hk, hA, hcnt⟩
        · omega
        · subst hA
          unfold Cont at r3
          rw [hk, hot_obj hte hr] at r3
          obtain ⟨hh, hcn⟩ := r3
          replace hcn := hcn (by rw [hver]; exact hr)
          have hvs : vs.size = c * k.sz := by omega
          have hmul : l.length * k.sz + l2.length * k.sz ≤ c * k.sz := by rw [← Nat.add_mul]; exact Nat.mul_le_mul_right _ hroom
          have hrun := run_append_room (P := P) w t ty te i ht hi kk l.length c vs hh ⟨b2, off2, none⟩ l2.length c2 vs2 (by rw [hvl2, hsz]) hvc2 hv12 hroom (by rw [hsz, hvl2, hvs]; exact hmul)
          rw [hsz] at hrun
          have h00 : g.sld kk = 0 := (r5 kk hk).1 (.inr ⟨by rw [hver]; exact hr, by rw [hver]; exact hev⟩)
          have hsl1 : vs.toList.length = c * k.sz := by simpa using hvs
          have hfl := flat_length k l
          obtain ⟨g', p1, p2, p3⟩ := append_leaves (l' := l ++ l2) (k' := kk) (c := c) (w' := w.setRow kk (vs.toList.take (l.length * k.sz) ++ vs2 ++ vs.toList.drop (l.length * k.sz + vs2.length)).toArray) hte hr hev hs hB hkb q1 hevr (.inl hk) h00 rfl rfl rfl (by simp [World.setRow]) (fun b _ hb => setRow_other w _ hb)
            (setRow_heap w kk vs _ te (0, 0) hh) (by simp only [List.size_toArray, List.length_append, List.length_take, List.length_drop]; omega) (by
              rw [flat_append]
              show PdsP g w _ (vs.toList.take (l.length * k.sz) ++ vs2 ++ vs.toList.drop (l.length * k.sz + vs2.length))
              have e1 : Pds g w (flat k l) (vs.toList.take (l.length * k.sz)) := by rw [← hfl]; exact r4
              exact (e1.append hvp2).pre2 _) (by rw [hle]; exact hroom)
          rw [hle] at p1
          rw [hle]
          exact ⟨_, g', _, run_v hrun, p1, p2, p3⟩
      · have hlt : c < l.length + l2.length := by omega
        have hbig : Builtin.nextslicecap (l.length + l2.length) c * i.bytes ≤ 281474976710656 := growslice_fits hlt (by rw [hby]; exact hb)
        have hns : g.sld w.heap.size = 0 := hs.sld0
        cases A with
        | none =>
          have hc0 := hAn rfl
          subst hc0
          have hl0 : l = [] := by cases l with
            | nil => rfl
            | cons => simp at hlc
          subst hl0
          have hrun := run_append_nil (P := P) w t ty te i z ht hi hz ⟨b2, off2, none⟩ l2.length c2 vs2 (by rw [hvl2, hsz]) hvc2 hpos (by simp at hb2; omega) (by rw [hby]; simp at hb; omega)
          have hN := new_drew_alloc w (.cells (vs2.toArray ++ Builtin.zeroCells z.cells (grownCap w l2.length 0 te - l2.length)) te)
          have hcap := growCap_le w l2.length 0 te
          obtain ⟨g', p1, p2, p3⟩ := append_leaves (l' := [] ++ l2) (k' := w.heap.size) (c := grownCap w l2.length 0 te) (w' := w.drew.alloc (.cells (vs2.toArray ++ Builtin.zeroCells z.cells (grownCap w l2.length 0 te - l2.length)) te)) hte hr hev hs hB hkb q1 hevr (.inr (Nat.le_refl _)) hns hN.os hN.tape hN.output (by rw [hN.size]; omega) (fun b hb _ => hN.old b hb)
            (alloc_heap_new w.drew _) (by
              simp only [Array.size_append, List.size_toArray, zeroCells_size, hvl2, hzs, hsz, Nat.sub_mul]
              have := Nat.mul_le_mul_right k.sz hcap
              omega) (by
              rw [List.nil_append]
              show PdsP g w _ _
              simp only [Array.toList_append]
              exact hvp2.pre2 _) (by rw [List.nil_append]; exact hcap)
          refine ⟨_, g', _, run_v hrun, ?_, p2, p3⟩
          simpa using p1
        | some ad =>
          obtain ⟨vs1, hvl1, hvc1, hvp1⟩ : ∃ vs1 : List Value, vs1.length = l.length * k.sz ∧ (∀ j v, vs1[j]? = some v → w.cell? (ad.add j) = some v) ∧ Pds g w (flat k l) vs1 := by
            rcases hblk with ⟨_, hc0⟩ | ⟨kk, hk, hA, hcnt⟩
            · have hl0 : l = [] := by cases l with
                | nil => rfl
                | cons => simp at hlc; omega
              subst hl0
              exact ⟨[], by simp, fun j v h => by simp at h, by simp [flat, Pds]⟩
            · cases hA
              unfold Cont at r3
              rw [hk, hot_obj hte hr] at r3
              have e1 : Pds g w (flat k l) (vs.toList.take (flat k l).length) := r4
              refine ⟨vs.toList.take (flat k l).length, by rw [e1.length, flat_length], fun j v hj => ?_, e1⟩
              have hjl := (List.getElem?_eq_some_iff.1 hj).1
              rw [List.length_take] at hjl
              rw [List.getElem?_take_of_lt (by omega)] at hj
              rw [Addr.add_lit, Nat.zero_add, box_cell (g := g) r3.1]
              simpa using hj
          have hrun := run_append_grow (P := P) w t ty te i z ht hi hz ad l.length c vs1 (by rw [hvl1, hsz]) hvc1 ⟨b2, off2, none⟩ l2.length c2 vs2 (by rw [hvl2, hsz]) hvc2 hlt (by omega) hbig
          have hN := new_drew_alloc w (.cells (vs1.toArray ++ vs2.toArray ++ Builtin.zeroCells z.cells (grownCap w (l.length + l2.length) c te - (l.length + l2.length))) te)
          have hcap := growCap_le w (l.length + l2.length) c te
          obtain ⟨g', p1, p2, p3⟩ := append_leaves (l' := l ++ l2) (k' := w.heap.size) (c := grownCap w (l.length + l2.length) c te) (w' := w.drew.alloc (.cells (vs1.toArray ++ vs2.toArray ++ Builtin.zeroCells z.cells (grownCap w (l.length + l2.length) c te - (l.length + l2.length))) te)) hte hr hev hs hB hkb q1 hevr (.inr (Nat.le_refl _)) hns hN.os hN.tape hN.output (by rw [hN.size]; omega) (fun b hb _ => hN.old b hb)
            (alloc_heap_new w.drew _) (by
              simp only [Array.size_append, List.size_toArray, zeroCells_size, hvl1, hvl2, hzs, hsz, Nat.sub_mul]
              have := Nat.mul_le_mul_right k.sz hcap
              rw [Nat.add_mul] at this ⊢
              omega) (by
              rw [flat_append]
              simp only [Array.toList_append]
              exact (hvp1.append hvp2).pre2 _) (by rw [hle]; exact hcap)
          rw [hle] at p1
          rw [hle]
          exact ⟨_, g', _, run_v hrun, p1, p2, p3⟩
end

/-! ### Sealed: from here on nobody writes it -/
def SealOk {α : Type} (k : Kn α) (l : List α) (b r : Nat) (p q : Pd) : Prop :=
  ∀ g w v, (∃ e, g.box[b]? = some e ∧ e.ver = r ∧ (∀ kk, e.blk = some kk → SlCells k l g w kk 0) ∧ (l ≠ [] → e.blk ≠ none)) → p.h g w v → q.h g w v
theorem seal_same {α : Type} {k : Kn α} {l : List α} {b r : Nat} (p : Pd) : SealOk k l b r p p := fun _ _ _ _ h => h
theorem seal_sl {α : Type} {k : Kn α} {l : List α} {b r : Nat} : SealOk k l b r (hsl b r 0 l.length k.sz) (sl k none none l) := by
  rintro g w v ⟨e, h1, h2, h3, h4⟩ ⟨e', A, c, q1, q2, q3, q4, q5, q6⟩
  rw [h1] at q1; cases q1
  refine ⟨A, c, q3, q4, (fun _ h => by cases h), q5, fun hne => ?_, fun _ h => by cases h⟩
  rcases q6 h2 with ⟨h5, _⟩ | ⟨kk, h5, h6, _⟩
  · exact absurd h5 (h4 hne)
  · exact ⟨kk, 0, h6, h3 kk h5⟩
theorem seal_agg {α : Type} {k : Kn α} {l : List α} {b r : Nat} {ps qs : List Pd} (h : ∀ g w vs, (∃ e, g.box[b]? = some e ∧ e.ver = r ∧ (∀ kk, e.blk = some kk → SlCells k l g w kk 0) ∧ (l ≠ [] → e.blk ≠ none)) → Pds g w ps vs → Pds g w qs vs) : SealOk k l b r (agg ps) (agg qs) :=
  fun g w v hs ⟨cs, hv, hp⟩ => ⟨cs, hv, h g w _ hs hp⟩
def SealL {α : Type} (k : Kn α) (l : List α) (b r : Nat) : List Pd → List Pd → Prop
  | [], [] => True
  | p :: ps, q :: qs => SealOk k l b r p q ∧ SealL k l b r ps qs
  | _, _ => False
theorem SealL.refl {α : Type} {k : Kn α} {l : List α} {b r : Nat} : ∀ ps : List Pd, SealL k l b r ps ps
  | [] => trivial
  | p :: ps => ⟨seal_same p, SealL.refl ps⟩
theorem SealL.len {α : Type} {k : Kn α} {l : List α} {b r : Nat} : ∀ {ps qs : List Pd}, SealL k l b r ps qs → ps.length = qs.length
  | [], [], _ => rfl
  | _ :: _, _ :: _, h => by simp [SealL.len h.2]
  | [], _ :: _, h => h.elim
  | _ :: _, [], h => h.elim
theorem SealL.pds {α : Type} {k : Kn α} {l : List α} {b r : Nat} {g : G} {w : World} (hs : ∃ e, g.box[b]? = some e ∧ e.ver = r ∧ (∀ kk, e.blk = some kk → SlCells k l g w kk 0) ∧ (l ≠ [] → e.blk ≠ none)) : ∀ {ps qs : List Pd} {vs : List Value}, SealL k l b r ps qs → Pds g w ps vs → Pds g w qs vs
  | [], [], [], _, h => h
  | _ :: _, _ :: _, _ :: _, ⟨h1, h2⟩, ⟨h3, h4⟩ => ⟨h1 _ _ _ hs h3, SealL.pds hs h2 h4⟩
  | [], [], _ :: _, _, h => h.elim
  | _ :: _, _ :: _, [], _, h => h.elim
  | [], _ :: _, _, h, _ => h.elim
  | _ :: _, [], _, h, _ => h.elim
theorem seal_aggL {α : Type} {k : Kn α} {l : List α} {b r : Nat} {ps qs : List Pd} (h : SealL k l b r ps qs) : SealOk k l b r (agg ps) (agg qs) := seal_agg fun _ _ _ hs hp => h.pds hs hp
theorem seal_tupL {α : Type} {k : Kn α} {l : List α} {b r : Nat} {ps qs : List Pd} (h : SealL k l b r ps qs) : SealOk k l b r (tup ps) (tup qs) := fun _ _ _ hs ⟨cs, hv, hp⟩ => ⟨cs, hv, h.pds hs hp⟩

def SealBs {α : Type} (k : Kn α) (l : List α) (b r : Nat) : Nat → List Bx → List Bx → Prop
  | _, [], [] => True
  | 0, B :: bs, C :: cs => C = ⟨B.t + HOT, []⟩ ∧ B.cs = flat k l ∧ SealBs k l b r (bs.length + 1) bs cs
  | n + 1, B :: bs, C :: cs => B.t = C.t ∧ SealL k l b r B.cs C.cs ∧ SealBs k l b r n bs cs
  | _, _, _ => False
theorem SealBs.len {α : Type} {k : Kn α} {l : List α} {b r : Nat} : ∀ {n : Nat} {bs cs : List Bx}, SealBs k l b r n bs cs → bs.length = cs.length
  | _, [], [], _ => rfl
  | 0, _ :: _, _ :: _, h => by simp [SealBs.len h.2.2]
  | _ + 1, _ :: _, _ :: _, h => by simp [SealBs.len h.2.2]
  | _, [], _ :: _, h => by cases ‹Nat› <;> exact h.elim
  | 0, _ :: _, [], h => h.elim
  | _ + 1, _ :: _, [], h => h.elim
theorem SealBs.get {α : Type} {k : Kn α} {l : List α} {b r : Nat} : ∀ {n : Nat} {bs cs : List Bx}, SealBs k l b r n bs cs → ∀ (j : Nat) (C : Bx), cs[j]? = some C → ∃ B, bs[j]? = some B ∧ (j = n ∧ C = ⟨B.t + HOT, []⟩ ∧ B.cs = flat k l ∨ j ≠ n ∧ B.t = C.t ∧ SealL k l b r B.cs C.cs)
  | _, [], [], _, j, C, hC => by simp at hC
  | 0, B :: bs, D :: cs, h, 0, C, hC => by simp at hC; subst hC; exact ⟨B, rfl, .inl ⟨rfl, h.1, h.2.1⟩⟩
  | 0, B :: bs, D :: cs, h, j + 1, C, hC => by
    simp at hC
    obtain ⟨B', h1, h2 | h2⟩ := SealBs.get h.2.2 j C hC
    · have := (List.getElem?_eq_some_iff.1 h1).1; omega
    · exact ⟨B', by simpa using h1, .inr ⟨by omega, h2.2⟩⟩
  | n + 1, B :: bs, D :: cs, h, 0, C, hC => by simp at hC; subst hC; exact ⟨B, rfl, .inr ⟨by omega, h.1, h.2.1⟩⟩
  | n + 1, B :: bs, D :: cs, h, j + 1, C, hC => by
    simp at hC
    obtain ⟨B', h1, h2 | h2⟩ := SealBs.get h.2.2 j C hC
    · exact ⟨B', by simpa using h1, .inl ⟨by omega, h2.2⟩⟩
    · exact ⟨B', by simpa using h1, .inr ⟨by omega, h2.2⟩⟩
  | n, [], _ :: _, h, _, _, _ => by cases n <;> exact h.elim
  | 0, _ :: _, [], h, _, _, _ => h.elim
  | _ + 1, _ :: _, [], h, _, _, _ => h.elim
theorem sealbs_end {α : Type} {k : Kn α} {l : List α} {b r : Nat} : ∀ (n : Nat) (bs : List Bx), bs.length ≤ n → SealBs k l b r n bs bs
  | n, [], _ => by cases n <;> trivial
  | 0, _ :: _, h => by simp at h
  | n + 1, B :: bs, h => ⟨rfl, SealL.refl _, sealbs_end n bs (by simpa using h)⟩

def SealE {α : Type} (k : Kn α) (l : List α) (b r : Nat) (e : Env) : List (Nat × Pd) → Prop
  | [] => True
  | (t, q) :: r' => SealOk k l b r (e t) q ∧ SealE k l b r e r'
theorem SealE.of {α : Type} {k : Kn α} {l : List α} {b r : Nat} {e : Env} {g : G} {w : World} {tm : Nat → Value} (hs : ∃ e, g.box[b]? = some e ∧ e.ver = r ∧ (∀ kk, e.blk = some kk → SlCells k l g w kk 0) ∧ (l ≠ [] → e.blk ≠ none)) (he : ∀ t, (e t).h g w (tm t)) : ∀ {L : List (Nat × Pd)}, SealE k l b r e L → ∀ t, (Env.of L t).h g w (tm t)
  | [], _, t => by rw [of_nil]; trivial
  | (u, q) :: L, h, t => by
    by_cases htu : t = u
    · subst htu; rw [of_same]; exact h.1 g w _ hs (he t)
    · rw [of_ne _ _ _ _ htu]; exact SealE.of hs he h.2 t

theorem aw_seal {P : Program} {nt : Nat} {c : Code} {Q : Exit → Env → St → Prop} {e : Env} {s : St} {bs bs' : List Bx} {fs : List Fr} {α : Type} {k : Kn α} {l : List α} {N i r te : Nat} (hN : s.boxes.length = N) (L : List (Nat × Pd)) (hi : bs[i]? = some ⟨hot te r, flat k l⟩) (hte : Nat.blt te HOT = true) (hr : 2 ≤ r) (hev : r % 2 = 0) (hz : 0 < k.sz)
    (hbs : SealBs k l (N + i) r i bs bs') (hb : ∀ B ∈ bs', ∀ q ∈ B.cs, q.Bnd (N + bs'.length) (s.fr.length + fs.length)) (hL : SealE k l (N + i) r e L) (h : AW P nt c Q (Env.of L) (s.ext bs' fs)) : AW P nt c Q e (s.ext bs fs) := by
  subst hN
  intro g a w he hs
  have hlen := hbs.len
  obtain ⟨ee, vs, h1, h2, h3, h4, h5, h6⟩ := hs.bx (s.boxes.length + i) _ (loc_get hi)
  rw [hot_ver hte] at h2
  let g1 : G := ⟨fun x => max (g.sld x) (if ee.blk = some x then (flat k l).length else 0), g.box, g.own, g.base⟩
  let g' : G := ⟨g1.sld, g.box.set (s.boxes.length + i) ⟨ee.blk, r + 1, ee.cnt⟩, g.own, g.base⟩
  have hgs : ∀ x, ee.blk ≠ some x → g'.sld x = g.sld x := fun x hx => by
    show max (g.sld x) (if ee.blk = some x then _ else 0) = _
    rw [if_neg hx]; omega
  have hgk : ∀ x, ee.blk = some x → (flat k l).length ≤ g'.sld x := fun x hx => by
    show _ ≤ max (g.sld x) (if ee.blk = some x then _ else 0)
    rw [if_pos hx]; omega
  have hx0 : Ext g w g1 w := ⟨rfl, rfl, rfl, Nat.le_refl _, fun b => Nat.le_max_left _ _, fun _ _ _ => rfl, fun _ e h => ⟨e, h, Nat.le_refl _, fun _ => rfl⟩, fun _ h => .inl h, fun _ _ h => h, fun _ _ h => .inl h, fun _ _ _ _ _ => rfl, rfl⟩
  have hil : s.boxes.length + i < g.box.length := (List.getElem?_eq_some_iff.1 h1).1
  have hset : ∀ j f, (g.box.set (s.boxes.length + i) ⟨ee.blk, r + 1, ee.cnt⟩)[j]? = some f → (j = s.boxes.length + i ∧ f = ⟨ee.blk, r + 1, ee.cnt⟩) ∨ (j ≠ s.boxes.length + i ∧ g.box[j]? = some f) := fun j f hf => by
    by_cases hj : j = s.boxes.length + i
    · rw [hj, List.getElem?_set_self hil] at hf; cases hf; exact .inl ⟨hj, rfl⟩
    · rw [List.getElem?_set_ne (Ne.symm hj)] at hf; exact .inr ⟨hj, hf⟩
  have hx1 : Ext g1 w g' w := by
    refine ⟨rfl, rfl, rfl, Nat.le_refl _, fun _ => Nat.le_refl _, fun _ _ _ => rfl, fun j f hf => ?_, fun q hq => ?_, fun _ _ h => h, fun _ _ h => .inl h, fun _ _ _ _ _ => rfl, rfl⟩
    · replace hf : g.box[j]? = some f := hf
      by_cases hj : j = s.boxes.length + i
      · subst hj
        rw [h1] at hf; cases hf
        exact ⟨_, List.getElem?_set_self hil, by show ee.ver ≤ r + 1; omega, fun hh => by have : ee.ver = r + 1 := hh; omega⟩
      · exact ⟨f, by show (g.box.set _ _)[j]? = _; rw [List.getElem?_set_ne (Ne.symm hj)]; exact hf, Nat.le_refl _, fun _ => rfl⟩
    · obtain ⟨j, f, hf, hfq⟩ := hq
      rcases hset j f hf with ⟨q1, rfl⟩ | ⟨q1, q2⟩
      · exact .inl ⟨_, ee, h1, hfq⟩
      · exact .inl ⟨j, f, q2, hfq⟩
  have hx := hx0.trans hx1
  have hseal : ∃ e, g1.box[s.boxes.length + i]? = some e ∧ e.ver = r ∧ (∀ kk, e.blk = some kk → SlCells k l g1 w kk 0) ∧ (l ≠ [] → e.blk ≠ none) := by
    refine ⟨ee, h1, h2, fun kk hk => slCells_of_flat fun q p hq => ?_, fun hne hk => ?_⟩
    · obtain ⟨v, q1, q2⟩ := h4.get q p hq
      have hq2 := (List.getElem?_eq_some_iff.1 hq).1
      have := hgk kk hk
      unfold Cont at h3
      rw [hk, hot_obj hte hr] at h3
      refine ⟨by have : g1.sld kk = g'.sld kk := rfl; omega, v, ?_, p.mono hx0 q2⟩
      rw [Nat.zero_add, box_cell (g := g) h3.1]; simpa using q1
    · unfold Cont at h3
      rw [hk] at h3
      have := h4.len
      rw [h3.1] at this
      simp only [flat_length, List.size_toArray, List.length_nil] at this
      have h7 : 0 < l.length := List.length_pos_iff.2 hne
      have := Nat.mul_pos h7 hz
      simp at *
      omega
  have hS : SRel g' (s.ext bs' fs) w := by
    refine ⟨by show (g.box.set _ _).length = _; rw [List.length_set, ext_boxes_length, ← hlen, ← ext_boxes_length s bs fs]; exact hs.len, ?_, fun j C hC => ?_, fun b id c ho => ?_, fun b hn => ?_, s.stat.mono hx hs.st, hs.sb, hs.bz⟩
    · intro a b e1 e2 q q1 q2 q3 q4
      rcases hset a e1 q1 with ⟨q5, rfl⟩ | ⟨q5, q6⟩ <;> rcases hset b e2 q2 with ⟨q7, rfl⟩ | ⟨q7, q8⟩
      · rw [q5, q7]
      · exact absurd (hs.nd _ b ee e2 q h1 q8 q3 q4) (Ne.symm q7)
      · exact absurd (hs.nd _ a ee e1 q h1 q6 q4 q3) (Ne.symm q5)
      · exact hs.nd a b e1 e2 q q6 q8 q3 q4
    · have hother : ∀ (f : BE) q, g.box[j]? = some f → j ≠ s.boxes.length + i → f.blk = some q → g'.sld q = g.sld q := fun f q hf hj hq => hgs q fun hk => hj (hs.nd j _ f ee q hf h1 hq hk)
      by_cases hj : j < s.boxes.length
      · have hC' : (s.ext bs fs).boxes[j]? = some C := by
          simp only [St.ext, List.getElem?_append_left hj] at hC ⊢; exact hC
        obtain ⟨f, us, q1, q2, q3, q4, q5, q6⟩ := hs.bx j C hC'
        exact ⟨f, us, by show (g.box.set _ _)[j]? = _; rw [List.getElem?_set_ne (by omega)]; exact q1, q2, q3, q4.mono hx, fun q hq => by rw [hother f q q1 (by omega) hq]; exact q5 q hq, by rw [ext_boxes_length, ← hlen, ← ext_boxes_length s bs fs]; exact q6⟩
      · simp only [St.ext, List.getElem?_append_right (Nat.le_of_not_lt hj)] at hC
        obtain ⟨B, hB, hd | hd⟩ := hbs.get _ C hC
        · obtain ⟨r1, r2, r3⟩ := hd
          have hji : j = s.boxes.length + i := by omega
          subst hji
          rw [Nat.add_sub_cancel_left] at hB
          rw [hi] at hB; cases hB
          subst r2
          have hv1 : (⟨hot te r + HOT, []⟩ : Bx) = ⟨hot te (r + 1), []⟩ := by unfold hot; rw [Nat.mul_add, Nat.mul_one, Nat.add_assoc]
          rw [show (⟨(⟨hot te r, flat k l⟩ : Bx).t + HOT, []⟩ : Bx) = ⟨hot te (r + 1), []⟩ from hv1]
          refine ⟨_, vs, List.getElem?_set_self hil, (hot_ver hte).symm, ?_, trivial, fun q hq => ⟨fun h0 => ?_, (h5 q hq).2⟩, fun p hp => by cases hp⟩
          · unfold Cont at h3 ⊢
            cases hk : ee.blk with
            | none => rw [hk] at h3; exact h3
            | some kk => rw [hk] at h3; exact ⟨by rw [hot_obj hte (by omega)]; rw [hot_obj hte hr] at h3; exact h3.1, fun _ => h3.2 (by rw [hot_ver hte]; exact hr)⟩
          · rcases h0 with h0 | ⟨_, h0⟩
            · exact absurd rfl h0
            · rw [hot_ver hte] at h0; omega
        · obtain ⟨r1, r2, r3⟩ := hd
          have hB' : (s.ext bs fs).boxes[j]? = some B := by
            simp only [St.ext, List.getElem?_append_right (Nat.le_of_not_lt hj)]; exact hB
          obtain ⟨f, us, q1, q2, q3, q4, q5, q6⟩ := hs.bx j B hB'
          refine ⟨f, us, by show (g.box.set _ _)[j]? = _; rw [List.getElem?_set_ne (by omega)]; exact q1, q2.trans (ver_same r2), q3.same r2, ?_, fun q hq => ?_, ?_⟩
          · show Pds _ _ _ _
            rw [← r3.len]
            exact Pds.mono hx1 (r3.pds hseal (q4.mono hx0))
          · rw [hother f q q1 (by omega) hq]
            refine ⟨fun hn => (q5 q hq).1 (hn.elim (fun h0 => .inl fun h7 => h0 ?_) fun h1 => .inr (by rw [ver_same r2]; exact h1)), (q5 q hq).2⟩
            have := r3.len
            rw [h7] at this
            exact List.length_eq_zero_iff.1 this.symm
          · rw [ext_boxes_length, ext_fr_length]
            exact hb C (List.mem_of_getElem? hC)
    · obtain ⟨f, cs, q1, q2, q3, q4⟩ := hs.ow b id c ho
      refine ⟨f, cs, q1, q2, q3, ?_⟩
      rw [hgs b fun hk => ?_]
      · exact q4
      · have := (h5 b hk).2.1
        rw [show g.own b = some (id, c) from ho] at this; cases this
    · by_cases hk : ee.blk = some b
      · exact h3.lt hk
      · rw [hgs b hk] at hn; exact hs.sl b hn
  refine wp_mono (h g' a w ⟨he.size, he.defers, fun t => (Env.of L t).mono hx1 (SealE.of hseal (fun t => (e t).mono hx0 (he.tmp t)) hL t)⟩ hS) ?_
  rintro x a1 w1 ⟨e1, s1, g1, hq, hx1, he1, hs1⟩
  exact ⟨e1, s1, g1, hq, hx.trans hx1, he1, hs1⟩
end Go.Proofs.Ytmnhfpcbfdgbcaa.Eng

/- The engine: rows in place: more operations. -/
namespace Go.Proofs.Ytmnhfpcbfdgbcaa.Eng
open Go.RowKit

theorem flat_drop {α : Type} (k : Kn α) : ∀ (i : Nat) (l : List α), (flat k l).drop (i * k.sz) = flat k (l.drop i)
  | 0, l => by simp
  | i + 1, [] => by simp [flat]
  | i + 1, x :: l => by
    have hx := k.len x
    rw [List.drop_succ_cons, ← flat_drop k i l, Nat.add_mul, Nat.one_mul]
    show (k.cs x ++ flat k l).drop _ = _
    rw [List.drop_append, List.drop_eq_nil_of_le (by omega), List.nil_append, hx, Nat.add_sub_cancel]
theorem flat_take {α : Type} (k : Kn α) : ∀ (i : Nat) (l : List α), (flat k l).take (i * k.sz) = flat k (l.take i)
  | 0, l => by simp [flat]
  | i + 1, [] => by simp [flat]
  | i + 1, x :: l => by
    have hx := k.len x
    rw [List.take_succ_cons, Nat.add_mul, Nat.one_mul]
    show (k.cs x ++ flat k l).take _ = k.cs x ++ flat k (l.take i)
    rw [List.take_append, List.take_of_length_le (by omega), hx, Nat.add_sub_cancel, flat_take k i l]

section
variable {P : Program} {e : Env} {s : St} {N : Nat} {dst : Option Tmp} {ty : TypeId} {pos : String} {after : Array Edge} {guard : Option (Nat × Bool)} {bs bs' : List Bx} {fs fs' : List Fr}

/-- An empty row to be appended to. -/
theorem opD_buildEmptyH {α : Type} {k : Kn α} {t te : TypeId} {zs : List Value} (ht : P.underlying t = some (.slice te)) (hsz : sizeT P te = some k.sz) (hz : zeroT P te = some zs) (hte : Nat.blt te HOT = true) :
    OpD P ⟨dst, .buildSlice t 0 [].toArray, ty, pos, after, guard⟩ e s (hsl s.boxes.length 2 0 ([] : List α).length k.sz) ⟨s.boxes ++ [⟨hot te 2, flat k []⟩], s.fr, s.stat⟩ :=
  opD_value fun g a w ha hs => by
    obtain ⟨z, hz0, hz2⟩ := Option.map_eq_some_iff.1 hz
    have hrun := run_buildSlice (P := P) (t := t) (te := te) (n := 0) (sz := k.sz) (parts := ([] : List (Nat × Operand)).toArray.map fun (i, x) => (i, a.eval x)) (z := z) (cells := #[]) ht hsz (by omega) hz0 (by simp [Instr.fill]) w
    have hv : (⟨hot te 2, flat k []⟩ : Bx).ver = 2 := hot_ver hte
    have hS : SRel (g.addBE ⟨some w.heap.size, 2, 0⟩) ⟨s.boxes ++ [⟨hot te 2, flat k []⟩], s.fr, s.stat⟩ (w.alloc (.cells #[] te)) := by
      have h0 := srel_addBE hs (B := ⟨hot te 2, flat k []⟩) (cs := #[]) (e := ⟨some w.heap.size, 2, 0⟩) rfl hv.symm (fun _ => rfl) (by simp [flat, PdsP, Pds]) (by simp [flat])
      rw [hot_obj hte (Nat.le_refl 2)] at h0
      exact h0
    have hP : (hsl s.boxes.length 2 0 ([] : List α).length k.sz).h (g.addBE ⟨some w.heap.size, 2, 0⟩) (w.alloc (.cells #[] te)) (.slice (some ⟨w.heap.size, 0, none⟩) 0 0) := by
      have hget : (g.addBE ⟨some w.heap.size, 2, 0⟩).box[s.boxes.length]? = some ⟨some w.heap.size, 2, 0⟩ := by
        show (g.box ++ [_])[s.boxes.length]? = _
        rw [← hs.len]; simp
      exact ⟨_, some ⟨w.heap.size, 0, none⟩, 0, hget, Nat.le_refl 2, rfl, Nat.zero_le _, (fun h => by cases h), fun _ => Or.inr ⟨w.heap.size, rfl, rfl, by rw [Nat.zero_mul]⟩⟩
    have hR : (execOp a.eval ⟨dst, .buildSlice t 0 [].toArray, ty, pos, after, guard⟩).run P w = .ok (.value (.slice (some ⟨w.heap.size, 0, none⟩) 0 0)) (w.alloc (.cells #[] te)) := by
      show (Sem.bind (Instr.buildSlice t 0 (([] : List (Nat × Operand)).toArray.map fun (i, x) => (i, a.eval x))) fun v => Sem.pure (Next.value v)).run P w = _
      exact run_v hrun
    exact ⟨_, _, _, hR, hP, ext_addBE hs _ _ rfl, hS⟩

/-- 'nil', to be appended to. -/
theorem hotnil {α : Type} (k : Kn α) {r te : Nat} {g : G} {w : World} (hte : Nat.blt te HOT = true) (hs : SRel g s w) :
    ∃ g', (∀ v, v = .slice none 0 0 → (hsl s.boxes.length r 0 ([] : List α).length k.sz).h g' w v) ∧ Ext g w g' w ∧ SRel g' ⟨s.boxes ++ [⟨hot te r, flat k []⟩], s.fr, s.stat⟩ w := by
  have hv : (⟨hot te r, flat k []⟩ : Bx).ver = r := hot_ver hte
  let e0 : BE := ⟨none, r, 0⟩
  have hlen : g.box.length = s.boxes.length := hs.len
  have hx : Ext g w (g.addBE e0) w := by
    refine ⟨rfl, rfl, rfl, Nat.le_refl _, fun _ => Nat.le_refl _, fun _ _ _ => rfl, fun i e1 h1 => ⟨e1, addBE_old h1, Nat.le_refl _, fun _ => rfl⟩, fun k hk => ?_, fun _ _ h => h, fun _ _ h => .inl h, fun _ _ _ _ _ => rfl, rfl⟩
    rcases addBE_isB hk with h1 | h1
    · exact .inl h1
    · cases h1
  have hget : (g.addBE e0).box[s.boxes.length]? = some e0 := by
    show (g.box ++ [e0])[_]? = _
    rw [← hlen]; simp
  refine ⟨g.addBE e0, fun v hv => ⟨e0, none, 0, hget, Nat.le_refl _, hv, Nat.le_refl _, fun _ => rfl, fun _ => .inl ⟨rfl, rfl⟩⟩, hx, ?_⟩
  refine ⟨by show (g.box ++ [e0]).length = _; rw [List.length_append, hlen]; simp, ?_, fun i C hC => ?_, hs.ow, hs.sl, s.stat.mono hx hs.st, hs.sb, hs.bz⟩
  · intro i j e1 e2 q h1 h2 h3 h4
    rcases addBE_get h1 with q1 | ⟨q1, rfl⟩ <;> rcases addBE_get h2 with q2 | ⟨q2, rfl⟩
    · exact hs.nd i j e1 e2 q q1 q2 h3 h4
    · cases h4
    · cases h3
    · rw [q1, q2]
  · by_cases hi : i < s.boxes.length
    · rw [List.getElem?_append_left hi] at hC
      obtain ⟨e1, vs, h1, h2, h3, h4, h5, h6⟩ := hs.bx i C hC
      exact ⟨e1, vs, addBE_old h1, h2, h3, h4.mono hx, h5, fun p hp => (h6 p hp).up (by simp) (Nat.le_refl _)⟩
    · have hie : i = s.boxes.length := by
        have := (List.getElem?_eq_some_iff.1 hC).1
        simp at this; omega
      subst hie
      simp at hC
      subst hC
      exact ⟨e0, #[], hget, hv.symm, ⟨rfl, rfl⟩, by simp [flat, PdsP, Pds], (fun q hq => by cases hq), by simp [flat]⟩
theorem nilHN (hN : s.boxes.length = N) {α : Type} (k : Kn α) {n r te : Nat} {x : Operand} (hn : bs.length = n) (hte : Nat.blt te HOT = true) (hx : e.ev x = pl (.slice none 0 0)) (h' : bs ++ [⟨hot te r, flat k []⟩] = bs') :
    OpD P ⟨dst, .assign x, ty, pos, after, guard⟩ e (s.ext bs fs) (hsl (N + n) r 0 ([] : List α).length k.sz) (s.ext bs' fs) := by
  subst hN; subst hn; subst h'
  refine opD_value fun g a w ha hs => ?_
  have h1 := ha x (by simp [Op.operands])
  rw [hx] at h1
  obtain ⟨g', q1, q2, q3⟩ := hotnil k (r := r) (te := te) hte hs
  refine ⟨a.eval x, g', w, rfl, ?_, q2, ?_⟩
  · have := q1 _ h1
    rwa [ext_boxes_length] at this
  · simpa [St.ext] using q3

/-- A function that makes a thing. -/
theorem callNP (hN : s.boxes.length = N) {f : FuncId} {xs : List Operand} {ats : Array TypeId} {ps : List Pd} {B : Bx} {p : Nat → Pd} {n : Nat} (hf : hasText P f = true) (hc : ∀ s, AC P f ps s (p s.boxes.length) (s.ext [B] [])) (hx : Args e xs ps) (hn : bs.length = n) (h' : bs ++ [B] = bs') :
    OpD P ⟨dst, .call { callee := .value (.func f), args := xs.toArray, argTypes := ats }, ty, pos, after, guard⟩ e (s.ext bs fs) (p (N + n)) (s.ext bs' fs) := by
  subst hN; subst hn; subst h'
  have := opD_call (P := P) (dst := dst) (ty := ty) (pos := pos) (after := after) (guard := guard) (ats := ats) hf (hc (s.ext bs fs)) hx
  rw [ext_boxes_length, ext_ext, List.append_nil] at this
  exact this
/-- A function that changes a row in place. -/
theorem callHN (hN : s.boxes.length = N) {f : FuncId} {xs : List Operand} {ats : Array TypeId} {ps : Nat → List Pd} {i : Nat} {B B' : Bx} {p : Nat → Pd} (hf : hasText P f = true) (hc : ∀ s g, s.boxes[g]? = some B → AC P f (ps g) s (p g) (s.upd g B')) (hB : bs[i]? = some B) (hx : Args e xs (ps (N + i))) (h' : bs.set i B' = bs') :
    OpD P ⟨dst, .call { callee := .value (.func f), args := xs.toArray, argTypes := ats }, ty, pos, after, guard⟩ e (s.ext bs fs) (p (N + i)) (s.ext bs' fs) := by
  subst hN; subst h'
  have := opD_call (P := P) (dst := dst) (ty := ty) (pos := pos) (after := after) (guard := guard) (ats := ats) hf (hc (s.ext bs fs) (s.boxes.length + i) (loc_get hB)) hx
  rw [ext_upd_loc] at this
  exact this

theorem done_newP {fn : Func} {x : Exit} {B : Bx} {p : Pd} (hx : x = .normal ∨ x = .ret) (hr : Res P fn e (s.ext (B :: bs) fs) p) (hp : p.Bnd (s.boxes.length + 1) s.fr.length) (hB : ∀ q ∈ B.cs, q.Bnd (s.boxes.length + 1) s.fr.length) :
    Done P fn s (s.boxes.length + 1) s.fr.length p (s.ext [B] []) x e (s.ext (B :: bs) fs) := by
  refine ⟨hx, hr, ?_, by omega, Nat.le_refl _, by simp [St.ext], by simp [St.ext], rfl, hp, fun i C hi hC => ?_⟩
  · simp [St.ext, List.take_append, List.take_of_length_le]
  · by_cases hil : i < s.boxes.length
    · left
      have h1 : (s.ext (B :: bs) fs).boxes[i]? = s.boxes[i]? := List.getElem?_append_left hil
      rw [← h1]; exact hC
    · right
      have : i = s.boxes.length := by omega
      subst this
      have h2 := loc_get (s := s) (bs := B :: bs) (fs := fs) (i := 0) (B := B) rfl
      rw [Nat.add_zero, hC] at h2
      cases h2
      exact hB
theorem opD_slice_hc {b r n sz : Nat} {x lo hi : Operand} {k1 k2 : IntKind} {t te : TypeId} {cs : List Pd} (i j : Nat) (ht : P.underlying t = some (.slice te)) (hsz : sizeT P te = some sz) (hte : Nat.blt te HOT = true) (hr : 2 ≤ r) (hz : 0 < sz) (hx : e.ev x = hsl b r 0 n sz) (hB : s.boxes[b]? = some ⟨hot te r, cs⟩) (hjc : j * sz ≤ cs.length) (hlo : e.ev lo = pl (.int k1 i)) (hhi : e.ev hi = pl (.int k2 j)) (hij : i < j) :
    OpD P ⟨dst, .slice t x (some lo) (some hi) none, ty, pos, after, guard⟩ e s (hsl b r (i * sz) (j - i) sz) s :=
  opD_look fun g a w ha hs => by
    have h1 := ha x (by simp [Op.operands])
    rw [hx] at h1
    obtain ⟨e0, A, c, q1, q2, hv, hnc, hA, hb⟩ := h1
    obtain ⟨ee', vs, r1, r2, r3, r4, r5, r6⟩ := hs.bx b _ hB
    rw [q1] at r1; cases r1
    have hver : (⟨hot te r, cs⟩ : Bx).ver = r := hot_ver hte
    have hb := hb (by rw [r2]; exact hver)
    have hcl : cs.length ≤ vs.size := by simpa using r4.len
    have h2 : a.eval lo = .int k1 i := by have := ha lo (by simp [Op.operands]); rw [hlo] at this; exact this
    have h3 : a.eval hi = .int k2 j := by have := ha hi (by simp [Op.operands]); rw [hhi] at this; exact this
    unfold Cont at r3
    rcases hb with ⟨hk, hc0⟩ | ⟨kk, hk, hAe, hcnt⟩
    · rw [hk] at r3
      rw [r3.1] at hcl
      have : cs.length = 0 := by simpa using hcl
      have h9 : j * sz = 0 := by omega
      rcases Nat.mul_eq_zero.1 h9 with h | h <;> omega
    · rw [hk] at r3
      have hcn := r3.2 (by rw [hver]; exact hr)
      have hjc2 : j ≤ c := Nat.le_of_mul_le_mul_right (by omega : j * sz ≤ c * sz) hz
      subst hAe
      have hci : c ≠ i := by omega
      refine ⟨.slice (some ⟨kk, i * sz, none⟩) (j - i) (c - i), ?_, e0, _, c - i, q1, q2, rfl, by omega, (fun h => by cases h), fun _ => .inr ⟨kk, hk, rfl, ?_⟩⟩
      · show (Sem.bind (Instr.sliceAt t (a.eval x) ((some lo).map a.eval) ((some hi).map a.eval) none) fun v => Sem.pure (Next.value v)).run P w = _
        rw [hv]
        refine run_v ?_
        have := run_sliceAt_sl ht hsz (some ⟨kk, 0, none⟩) (len := n) (c := c) (i := i) (j := j) (by omega) hjc2 (lo := some (a.eval lo)) (hi := some (a.eval hi)) (.inr ⟨k1, by rw [h2]⟩) (.inr ⟨k2, by rw [h3]⟩) w
        rw [if_neg hci] at this
        simpa [Addr.add_lit] using this
      · rw [Nat.sub_mul]
        have : i * sz ≤ c * sz := Nat.mul_le_mul_right _ (by omega)
        omega
theorem ones_flat {α : Type} {k : Kn α} {l : List α} : ∀ p ∈ flat k l, p.One := fun p hp => by
  simp only [flat, List.mem_flatMap] at hp
  obtain ⟨x, _, hx⟩ := hp
  exact k.one x p hx
theorem buildEmptyHN (hN : s.boxes.length = N) {α : Type} {k : Kn α} {t te : TypeId} {zs : List Value} {n : Nat} (ht : P.underlying t = some (.slice te)) (hsz : sizeT P te = some k.sz) (hz : zeroT P te = some zs) (hte : Nat.blt te HOT = true) (hn : bs.length = n) (h' : bs ++ [⟨hot te 2, flat k []⟩] = bs') :
    OpD P ⟨dst, .buildSlice t 0 [].toArray, ty, pos, after, guard⟩ e (s.ext bs fs) (hsl (N + n) 2 0 ([] : List α).length k.sz) (s.ext bs' fs) := by
  subst hN; subst hn; subst h'
  have := opD_buildEmptyH (P := P) (e := e) (s := s.ext bs fs) (k := k) (dst := dst) (ty := ty) (pos := pos) (after := after) (guard := guard) ht hsz hz hte
  rw [ext_boxes_length] at this
  simpa [St.ext] using this
theorem appendHN (hN : s.boxes.length = N) {α : Type} {k : Kn α} {i r : Nat} {o2 : Option Nat} {nl2 : Option Bool} {l l2 : List α} {x y : Operand} {t te : TypeId} {by_ : Nat} (ht : P.underlying t = some (.slice te)) (hel : elT P te = some (k.sz, by_)) (hte : Nat.blt te HOT = true) (hr : 2 ≤ r) (hev : r % 2 = 0)
    (hx : e.ev x = hsl (N + i) r 0 l.length k.sz) (hy : e.ev y = sl k o2 nl2 l2) (hB : bs[i]? = some ⟨hot te r, flat k l⟩) (hkb : KB k) (hb : (l.length + l2.length) * by_ ≤ 140737488355328) (hb2 : l.length + l2.length ≤ 9223372036854775807) (h' : bs.set i ⟨hot te (r + 2), flat k (l ++ l2)⟩ = bs') :
    OpD P ⟨dst, .call { callee := .builtin .append, args := #[x, y], argTypes := #[t, t] }, ty, pos, after, guard⟩ e (s.ext bs fs) (hsl (N + i) (r + 2) 0 (l ++ l2).length k.sz) (s.ext bs' fs) := by
  subst hN; subst h'
  have := opD_append_h (P := P) (dst := dst) (ty := ty) (pos := pos) (after := after) (guard := guard) (s := s.ext bs fs) ht hel hte hr hev hx hy (loc_get hB) hkb hb hb2
  have he : (s.boxes ++ bs).set (s.boxes.length + i) ⟨hot te (r + 2), flat k (l ++ l2)⟩ = s.boxes ++ bs.set i ⟨hot te (r + 2), flat k (l ++ l2)⟩ := by
    rw [List.set_append_right _ _ (by omega), Nat.add_sub_cancel_left]
  simp only [St.ext] at this ⊢
  rw [he] at this
  exact this

/-! ### Slices of a row in place -/
theorem opD_slice_hx {b r off n sz : Nat} {x lo hi mx : Operand} {t te : TypeId} {k1 k2 k3 : IntKind} {i j m : Nat} (ht : P.underlying t = some (.slice te)) (hsz : sizeT P te = some sz) (hx : e.ev x = hsl b r off n sz) (hlo : e.ev lo = pl (.int k1 i)) (hhi : e.ev hi = pl (.int k2 j)) (hmx : e.ev mx = pl (.int k3 m)) (hij : i ≤ j) (hjm : j ≤ m) (hmn : m ≤ n) :
    OpD P ⟨dst, .slice t x (some lo) (some hi) (some mx), ty, pos, after, guard⟩ e s any s :=
  opD_look fun g a w ha _ => by
    have h1 := ha x (by simp [Op.operands])
    rw [hx] at h1
    obtain ⟨e0, A, c, _, _, hv, hnc, _⟩ := h1
    have h2 : a.eval lo = .int k1 i := by have := ha lo (by simp [Op.operands]); rw [hlo] at this; exact this
    have h3 : a.eval hi = .int k2 j := by have := ha hi (by simp [Op.operands]); rw [hhi] at this; exact this
    have h4 : a.eval mx = .int k3 m := by have := ha mx (by simp [Op.operands]); rw [hmx] at this; exact this
    refine ⟨.slice (if m = i then A else A.map (·.add (i * sz))) (j - i) (m - i), ?_, trivial⟩
    show (Sem.bind (Instr.sliceAt t (a.eval x) ((some lo).map a.eval) ((some hi).map a.eval) ((some mx).map a.eval)) fun v => Sem.pure (Next.value v)).run P w = _
    rw [hv]
    refine run_v ?_
    unfold Instr.sliceAt
    rw [Sem.run_bind P, run_underlying ht]
    have hmc : m ≤ c := by omega
    show (Instr.slice t (.slice A n c) _ _ _).run P w = _
    simp [Instr.slice, Instr.sliceBounds, Instr.sliceBound, asIntOf, run_underlying ht, run_sizeOf hsz, h2, h3, h4, hij, hjm, hmc]

theorem opD_slice_h {b r off n sz : Nat} {x : Operand} {lo hi : Option Operand} {t te : TypeId} (i j : Nat) (ht : P.underlying t = some (.slice te)) (hsz : sizeT P te = some sz) (hx : e.ev x = hsl b r off n sz) (hlo : BdOk e lo 0 i) (hhi : BdOk e hi n j) (hij : i ≤ j) (hjn : j ≤ n) (hin : i = 0 ∨ i < n) :
    OpD P ⟨dst, .slice t x lo hi none, ty, pos, after, guard⟩ e s (hsl b r (off + i * sz) (j - i) sz) s :=
  opD_look fun g a w ha _ => by
    have h1 := ha x (by simp [Op.operands])
    rw [hx] at h1
    obtain ⟨e0, A, c, q1, q2, hv, hnc, hA, hb⟩ := h1
    refine ⟨.slice (if c = i then A else A.map (·.add (i * sz))) (j - i) (c - i), ?_, e0, _, c - i, q1, q2, rfl, by omega, ?_, fun hr => ?_⟩
    · show (Sem.bind (Instr.sliceAt t (a.eval x) (lo.map a.eval) (hi.map a.eval) none) fun v => Sem.pure (Next.value v)).run P w = _
      rw [hv]
      refine run_v (run_sliceAt_sl ht hsz A hij (by omega) ?_ ?_ w)
      · cases lo with
        | none => exact .inl ⟨rfl, hlo⟩
        | some y =>
          obtain ⟨k1, h1⟩ := hlo
          have h2 := ha y (by simp [Op.operands])
          rw [h1] at h2
          exact .inr ⟨k1, by rw [Option.map_some, show a.eval y = _ from h2]⟩
      · cases hi with
        | none => exact .inl ⟨rfl, hhi⟩
        | some y =>
          obtain ⟨k1, h1⟩ := hhi
          have h2 := ha y (by simp [Op.operands])
          rw [h1] at h2
          exact .inr ⟨k1, by rw [Option.map_some, show a.eval y = _ from h2]⟩
    · intro h
      split at h
      · rw [hA h]; omega
      · cases A with
        | none => rw [hA rfl]; omega
        | some ad => cases h
    · rcases hb hr with ⟨h3, h4⟩ | ⟨kk, h3, h4, h5⟩
      · exact .inl ⟨h3, by omega⟩
      · refine .inr ⟨kk, h3, ?_, ?_⟩
        · subst h4
          by_cases hci : c = i
          · have : i = 0 := by omega
            subst this; simp [hci]
          · rw [if_neg hci]; simp [Addr.add_lit]
        · rw [Nat.sub_mul, ← h5]
          have : i * sz ≤ c * sz := Nat.mul_le_mul_right _ (by omega)
          omega

/-- A piece is put behind another one of the same row. -/
theorem opD_append_hh {b r off2 n m sz : Nat} {x y : Operand} {t te : TypeId} {by_ : Nat} {cs : List Pd} (ht : P.underlying t = some (.slice te)) (hel : elT P te = some (sz, by_)) (hte : Nat.blt te HOT = true) (hr : 2 ≤ r) (hev : r % 2 = 0) (hz : 0 < sz)
    (hx : e.ev x = hsl b r 0 n sz) (hy : e.ev y = hsl b r off2 m sz) (hB : s.boxes[b]? = some ⟨hot te r, cs⟩) (h1c : ∀ p ∈ cs, p.One) (hl1 : (n + m) * sz ≤ cs.length) (hl2 : off2 + m * sz ≤ cs.length) :
    OpD P ⟨dst, .call { callee := .builtin .append, args := #[x, y], argTypes := #[t, t] }, ty, pos, after, guard⟩ e s (hsl b r 0 (n + m) sz) ⟨s.boxes.set b ⟨hot te r, cs.take (n * sz) ++ (cs.drop off2).take (m * sz) ++ cs.drop (n * sz + m * sz)⟩, s.fr, s.stat⟩ :=
  opD_value fun g a w ha hs => by
    have h1 := ha x (by simp [Op.operands, Call.operands])
    have h2 := ha y (by simp [Op.operands, Call.operands])
    rw [hx] at h1
    rw [hy] at h2
    obtain ⟨ee, A, c, q1, q2, hv, hlc, hAn, hblk⟩ := h1
    obtain ⟨ee2, A2, c2, p1, p2, hv2, hlc2, hAn2, hblk2⟩ := h2
    rw [q1] at p1; cases p1
    obtain ⟨i, z, hi, hzz, hzs, hsz, hby⟩ := elT_spec hel
    obtain ⟨ee', vs, r1, r2, r3, r4, r5, r6⟩ := hs.bx b _ hB
    rw [q1] at r1; cases r1
    have hver : (⟨hot te r, cs⟩ : Bx).ver = r := hot_ver hte
    have hevr : ee.ver = r := by rw [r2]; exact hver
    replace hblk := hblk hevr
    replace hblk2 := hblk2 hevr
    have hcl : cs.length ≤ vs.size := by simpa using r4.len
    unfold Cont at r3
    rcases hblk with ⟨hk, hc0⟩ | ⟨kk, hk, hA, hcnt⟩
    · rw [hk] at r3
      rw [r3.1] at hcl
      simp at hcl
      have hcl0 : cs.length = 0 := by simpa using hcl
      have hn0 : n = 0 := by omega
      have hm0 : m = 0 := by
        have h7 : m * sz = 0 := by omega
        rcases Nat.mul_eq_zero.1 h7 with h | h <;> omega
      subst hn0; subst hm0
      have hce : cs = [] := List.length_eq_zero_iff.1 (by simpa using hcl)
      subst hce
      have hset : s.boxes.set b ⟨hot te r, ([] : List Pd).take (0 * sz) ++ (([] : List Pd).drop off2).take (0 * sz) ++ ([] : List Pd).drop (0 * sz + 0 * sz)⟩ = s.boxes := by
        simpa using set_self hB
      rw [exec_builtin, show #[x, y].map a.eval = #[a.eval x, a.eval y] from by simp, hv, hv2]
      refine ⟨.slice A 0 c, g, w, run_v ?_, ⟨ee, A, c, q1, q2, rfl, Nat.zero_le _, hAn, fun _ => .inl ⟨hk, hc0⟩⟩, Ext.refl _ _, by rw [hset]; exact hs⟩
      have : (Builtin.firstCells i.size 0 (.slice A2 0 c2)).run P w = .ok #[] w := by
        cases A2 with
        | none => simp [Builtin.firstCells]
        | some a2 => simpa using run_firstCells_some (P := P) w i.size 0 a2 0 c2 [] (by simp) (fun j v h => by simp at h)
      cases A with
      | none => simp [Builtin.append_, run_underlying ht, sizeOf, typeInfo, hi, Builtin.lenOf, this]
      | some ad => simp [Builtin.append_, run_underlying ht, sizeOf, typeInfo, hi, Builtin.lenOf, this, storeCells]
    · rcases hblk2 with ⟨hk2, _⟩ | ⟨kk2, hk2, hA2, hcnt2⟩
      · rw [hk] at hk2; cases hk2
      · rw [hk] at hk2; cases hk2
        subst hA; subst hA2
        rw [hk, hot_obj hte hr] at r3
        obtain ⟨hh, hcn⟩ := r3
        replace hcn := hcn (by rw [hver]; exact hr)
        have hroom : n + m ≤ c := by
          have : (n + m) * sz ≤ c * sz := by omega
          exact Nat.le_of_mul_le_mul_right this hz
        have h00 : g.sld kk = 0 := (r5 kk hk).1 (.inr ⟨by rw [hver]; exact hr, by rw [hver]; exact hev⟩)
        have e0 : Pds g w cs (vs.toList.take cs.length) := r4
        let news := ((vs.toList.take cs.length).drop off2).take (m * sz)
        have en : Pds g w ((cs.drop off2).take (m * sz)) news := (e0.drop off2).take (m * sz)
        have hnl : news.length = m * sz := by rw [en.length, List.length_take, List.length_drop]; omega
        have hmul : (n + m) * sz = n * sz + m * sz := Nat.add_mul _ _ _
        have hcl2 : cs.length ≤ vs.size := hcl
        have hrun := run_append_room (P := P) w t ty te i ht hi kk n c vs hh ⟨kk, off2, none⟩ m c2 news (by rw [hnl, hsz]) (fun j v hj => by
          have hjl := (List.getElem?_eq_some_iff.1 hj).1
          rw [hnl] at hjl
          rw [List.getElem?_take_of_lt hjl, List.getElem?_drop, List.getElem?_take_of_lt (by omega)] at hj
          rw [Addr.add_lit, box_cell (g := g) hh]; simpa using hj) (one_agg_mem (fun p hp => h1c p (List.mem_of_mem_drop (List.mem_of_mem_take hp))) en) hroom (by rw [hsz, hnl]; omega)
        rw [hsz] at hrun
        rw [exec_builtin, show #[x, y].map a.eval = #[a.eval x, a.eval y] from by simp, hv, hv2]
        have hS := srel_setCells hs hB q1 hk (vs := vs) (by rw [hot_mod hte]; exact hh) (by
            rw [hver]
            cases hh : Nat.beq r 1 with
            | false => rfl
            | true => have := Nat.eq_of_beq_eq_true hh; omega) h00 (cs := (vs.toList.take (n * sz) ++ news ++ vs.toList.drop (n * sz + news.length)).toArray) (ps := cs.take (n * sz) ++ (cs.drop off2).take (m * sz) ++ cs.drop (n * sz + m * sz)) (fun _ => by
            have : vs.toList.length = vs.size := by simp
            have h8 : n * sz + m * sz ≤ vs.size := by omega
            simp only [List.size_toArray, List.length_append, List.length_take, List.length_drop, hnl]; omega) (by
            rw [hnl]
            refine PdsP.append (Pds.append ?_ en) (r4.drop _)
            exact r4.part (by show n * sz ≤ cs.length; omega)) (fun p hp => by
            rcases List.mem_append.1 hp with hp | hp
            · rcases List.mem_append.1 hp with hp | hp
              · exact r6 p (List.mem_of_mem_take hp)
              · exact r6 p (List.mem_of_mem_drop (List.mem_of_mem_take hp))
            · exact r6 p (List.mem_of_mem_drop hp))
        exact ⟨_, g, _, run_v hrun, ⟨ee, some ⟨kk, 0, none⟩, c, q1, q2, rfl, hroom, (fun h => by cases h), fun _ => .inr ⟨kk, hk, rfl, hcnt⟩⟩, ext_setRow hs ⟨b, ee, q1, hk⟩ h00 _, hS⟩

/-- What stands behind is noughts; nobody looks. -/
theorem opD_clear_h {b r off n sz : Nat} {x : Operand} {t te : TypeId} {by_ : Nat} {cs : List Pd} (ht : P.underlying t = some (.slice te)) (hel : elT P te = some (sz, by_)) (hone : ∀ z, (P.info? te).bind (·.zero) = some z → ∀ v ∈ z.cells.toList, v.oneCell' = true) (hte : Nat.blt te HOT = true) (hr : 2 ≤ r) (hev : r % 2 = 0)
    (hx : e.ev x = hsl b r off n sz) (hB : s.boxes[b]? = some ⟨hot te r, cs⟩) (hl : off ≤ cs.length) :
    OpD P ⟨dst, .call { callee := .builtin .clear, args := #[x], argTypes := #[t] }, ty, pos, after, guard⟩ e s any ⟨s.boxes.set b ⟨hot te r, cs.take off⟩, s.fr, s.stat⟩ :=
  opD_value fun g a w ha hs => by
    have h1 := ha x (by simp [Op.operands, Call.operands])
    rw [hx] at h1
    obtain ⟨ee, A, c, q1, q2, hv, hlc, hAn, hblk⟩ := h1
    obtain ⟨i, z, hi, hzz, hzs, hsz, hby⟩ := elT_spec hel
    obtain ⟨ee', vs, r1, r2, r3, r4, r5, r6⟩ := hs.bx b _ hB
    rw [q1] at r1; cases r1
    have hver : (⟨hot te r, cs⟩ : Bx).ver = r := hot_ver hte
    have hevr : ee.ver = r := by rw [r2]; exact hver
    replace hblk := hblk hevr
    have hcl : cs.length ≤ vs.size := by simpa using r4.len
    have hcut : PdsP g w (cs.take off) vs.toList := by
      show Pds g w _ _
      rw [List.length_take, Nat.min_eq_left hl]
      exact r4.part hl
    rw [exec_builtin, show #[x].map a.eval = #[a.eval x] from by simp, hv]
    have hweak : SRel g ⟨s.boxes.set b ⟨hot te r, cs.take off⟩, s.fr, s.stat⟩ w := by
      cases hk : ee.blk with
      | none =>
        unfold Cont at r3
        rw [hk] at r3
        rw [r3.1] at hcl
        have hce : cs = [] := List.length_eq_zero_iff.1 (by simpa using hcl)
        subst hce
        rw [List.take_nil, set_self hB]; exact hs
      | some kk =>
        unfold Cont at r3
        rw [hk, hot_obj hte hr] at r3
        have h00 : g.sld kk = 0 := (r5 kk hk).1 (.inr ⟨by rw [hver]; exact hr, by rw [hver]; exact hev⟩)
        have := srel_setCells hs hB q1 hk (vs := vs) (by rw [hot_mod hte]; exact r3.1) (by
            rw [hver]
            cases hh : Nat.beq r 1 with
            | false => rfl
            | true => have := Nat.eq_of_beq_eq_true hh; omega) h00 (cs := vs) (ps := cs.take off) r3.2 hcut (fun p hp => r6 p (List.mem_of_mem_take hp))
        rwa [setRow_self w kk vs te (0, 0) r3.1] at this
    cases n with
    | zero =>
      refine ⟨.tuple #[], g, w, run_v ?_, trivial, Ext.refl _ _, hweak⟩
      cases A <;> simp [Builtin.clear_, run_underlying ht]
    | succ n =>
      rcases hblk with ⟨hk, hc0⟩ | ⟨kk, hk, hA, hcnt⟩
      · omega
      · subst hA
        unfold Cont at r3
        rw [hk, hot_obj hte hr] at r3
        have h00 : g.sld kk = 0 := (r5 kk hk).1 (.inr ⟨by rw [hver]; exact hr, by rw [hver]; exact hev⟩)
        have hcn := r3.2 (by rw [hver]; exact hr)
        have hzl : (Builtin.zeroCells z.cells (n + 1)).toList.length = (n + 1) * sz := by
          have := zeroCells_size (z := z) (n + 1)
          rw [Array.length_toList, this, hzs, hsz]
        have hfit : off + (n + 1) * sz ≤ vs.size := by
          have : (n + 1) * sz ≤ c * sz := Nat.mul_le_mul_right _ hlc
          omega
        have h1z : ∀ v ∈ (Builtin.zeroCells z.cells (n + 1)).toList, v.oneCell' = true := fun v hv => by
          obtain ⟨j, hj, he⟩ := List.mem_iff_getElem.1 hv
          simp only [Builtin.zeroCells, Array.getElem_toList, Array.getElem_map, Array.getElem_range] at he
          have hj' : j < (n + 1) * z.cells.size := by simpa [Builtin.zeroCells] using hj
          have hpos : 0 < z.cells.size := by
            rcases Nat.eq_zero_or_pos z.cells.size with h0 | h0
            · rw [h0] at hj'; omega
            · exact h0
          have hm := Nat.mod_lt j hpos
          rw [← he, getElem!_pos z.cells _ hm]
          exact hone z (by rw [hi]; exact hzz) _ (by simp)
        have hst := run_storeCells_at P kk off te (Builtin.zeroCells z.cells (n + 1)).toList 0 vs w r3.1 (by rw [hzl]; omega) h1z
        simp only [Nat.add_zero] at hst
        have hS := srel_setCells hs hB q1 hk (vs := vs) (by rw [hot_mod hte]; exact r3.1) (by
            rw [hver]
            cases hh : Nat.beq r 1 with
            | false => rfl
            | true => have := Nat.eq_of_beq_eq_true hh; omega) h00 (cs := (vs.toList.take off ++ (Builtin.zeroCells z.cells (n + 1)).toList ++ vs.toList.drop (off + (Builtin.zeroCells z.cells (n + 1)).toList.length)).toArray) (ps := cs.take off) (fun _ => by
            have : vs.toList.length = vs.size := by simp
            simp only [List.size_toArray, List.length_append, List.length_take, List.length_drop, hzl]; omega) (by
            rw [List.append_assoc]
            have e1 : Pds g w (cs.take off) (vs.toList.take off) := r4.part hl
            exact e1.pre2 _) (fun p hp => r6 p (List.mem_of_mem_take hp))
        refine ⟨_, g, _, run_v (v := .tuple #[]) (w' := w.setRow kk _) ?_, trivial, ext_setRow hs ⟨b, ee, q1, hk⟩ h00 _, hS⟩
        simp [Builtin.clear_, run_underlying ht, zeroValue, typeInfo, hi, hzz, hst]

/-! ### A row of the caller's -/
theorem hhU {α : Type} {k : Kn α} {g r i j : Nat} {l : List α} {x y : Operand} {t te : TypeId} {by_ : Nat} (hlt : g < s.boxes.length) (ht : P.underlying t = some (.slice te)) (hel : elT P te = some (k.sz, by_)) (hte : Nat.blt te HOT = true) (hr : 2 ≤ r) (hev : r % 2 = 0) (hz : 0 < k.sz)
    (hx : e.ev x = hsl g r (0 + 0 * k.sz) (i - 0) k.sz) (hy : e.ev y = hsl g r (0 + j * k.sz) (l.length - j) k.sz) (hij : i ≤ j) (hj : j ≤ l.length) :
    OpD P ⟨dst, .call { callee := .builtin .append, args := #[x, y], argTypes := #[t, t] }, ty, pos, after, guard⟩ e ((s.upd g ⟨hot te r, flat k l⟩).ext bs fs) (hsl g r 0 (l.take i ++ l.drop j).length k.sz) ((s.upd g ⟨hot te r, flat k (l.take i ++ l.drop j) ++ (flat k l).drop ((l.take i ++ l.drop j).length * k.sz)⟩).ext bs fs) := by
  have hl : (l.take i ++ l.drop j).length = i + (l.length - j) := by simp; omega
  have hfl := flat_length k l
  have h1 : (i + (l.length - j)) * k.sz ≤ (flat k l).length := by rw [hfl]; exact Nat.mul_le_mul_right _ (by omega)
  have h2 : 0 + j * k.sz + (l.length - j) * k.sz ≤ (flat k l).length := by rw [hfl, Nat.zero_add, ← Nat.add_mul]; exact Nat.mul_le_mul_right _ (by omega)
  rw [Nat.zero_mul, Nat.add_zero, Nat.sub_zero] at hx
  have := opD_append_hh (P := P) (dst := dst) (ty := ty) (pos := pos) (after := after) (guard := guard) ht hel hte hr hev hz hx hy (updx_get (bs := bs) (fs := fs) hlt) ones_flat h1 h2
  have e1 : (flat k l).take (i * k.sz) ++ ((flat k l).drop (0 + j * k.sz)).take ((l.length - j) * k.sz) ++ (flat k l).drop (i * k.sz + (l.length - j) * k.sz) = flat k (l.take i ++ l.drop j) ++ (flat k l).drop ((l.take i ++ l.drop j).length * k.sz) := by
    rw [Nat.zero_add, flat_take, flat_drop, flat_append, hl, Nat.add_mul]
    congr 2
    rw [List.take_of_length_le]
    rw [flat_length, List.length_drop]; exact Nat.le_refl _
  rw [e1, ← hl] at this
  have h3 := updx_upd (s := s) (g := g) (B := ⟨hot te r, flat k l⟩) (C := ⟨hot te r, flat k (l.take i ++ l.drop j) ++ (flat k l).drop ((l.take i ++ l.drop j).length * k.sz)⟩) (bs := bs) (fs := fs) hlt
  rw [← h3]
  exact this
theorem sliceHU {α : Type} {k : Kn α} {g r i j : Nat} {l : List α} {junk : List Pd} {x lo hi : Operand} {k1 k2 : IntKind} {t te : TypeId} (hlt : g < s.boxes.length) (ht : P.underlying t = some (.slice te)) (hsz : sizeT P te = some k.sz) (hte : Nat.blt te HOT = true) (hr : 2 ≤ r) (hz : 0 < k.sz) (hx : e.ev x = hsl g r 0 i k.sz)
    (hjc : j * k.sz ≤ (flat k l ++ junk).length) (hlo : e.ev lo = pl (.int k1 i)) (hhi : e.ev hi = pl (.int k2 j)) (hij : i < j) :
    OpD P ⟨dst, .slice t x (some lo) (some hi) none, ty, pos, after, guard⟩ e ((s.upd g ⟨hot te r, flat k l ++ junk⟩).ext bs fs) (hsl g r (i * k.sz) (j - i) k.sz) ((s.upd g ⟨hot te r, flat k l ++ junk⟩).ext bs fs) :=
  opD_slice_hc i j ht hsz hte hr hz hx (updx_get hlt) hjc hlo hhi hij
theorem clearHU {α : Type} {k : Kn α} {g r n m : Nat} {l : List α} {junk : List Pd} {x : Operand} {t te : TypeId} {by_ : Nat} (hlt : g < s.boxes.length) (ht : P.underlying t = some (.slice te)) (hel : elT P te = some (k.sz, by_)) (hone : ∀ z, (P.info? te).bind (·.zero) = some z → ∀ v ∈ z.cells.toList, v.oneCell' = true) (hte : Nat.blt te HOT = true) (hr : 2 ≤ r) (hev : r % 2 = 0)
    (hx : e.ev x = hsl g r (m * k.sz) n k.sz) (hm : m = l.length) :
    OpD P ⟨dst, .call { callee := .builtin .clear, args := #[x], argTypes := #[t] }, ty, pos, after, guard⟩ e ((s.upd g ⟨hot te r, flat k l ++ junk⟩).ext bs fs) any ((s.upd g ⟨hot te r, flat k l⟩).ext bs fs) := by
  subst hm
  have hfl := flat_length k l
  have := opD_clear_h (P := P) (dst := dst) (ty := ty) (pos := pos) (after := after) (guard := guard) (cs := flat k l ++ junk) ht hel hone hte hr hev hx (updx_get (bs := bs) (fs := fs) hlt) (by rw [List.length_append, hfl]; omega)
  rw [List.take_append_of_le_length (by rw [hfl]; exact Nat.le_refl _), List.take_of_length_le (by rw [hfl]; exact Nat.le_refl _)] at this
  have h3 := updx_upd (s := s) (g := g) (B := ⟨hot te r, flat k l ++ junk⟩) (C := ⟨hot te r, flat k l⟩) (bs := bs) (fs := fs) hlt
  rw [← h3]
  exact this

theorem callNH {N : Nat} (hN : s.boxes.length = N) {f : FuncId} {xs : List Operand} {ats : Array TypeId} {ps : List Pd} {B : Bx} {r n sz m : Nat} (hf : hasText P f = true) (hc : ∀ s, AC P f ps s (hsl s.boxes.length r 0 n sz) (s.ext [B] [])) (hx : Args e xs ps) (hn : bs.length = m) (h' : bs ++ [B] = bs') :
    OpD P ⟨dst, .call { callee := .value (.func f), args := xs.toArray, argTypes := ats }, ty, pos, after, guard⟩ e (s.ext bs fs) (hsl (N + m) r 0 n sz) (s.ext bs' fs) :=
  callNP (p := fun b => hsl b r 0 n sz) hN hf hc hx hn h'
theorem callHH {N : Nat} (hN : s.boxes.length = N) {f : FuncId} {xs : List Operand} {ats : Array TypeId} {ps : List Pd} {i : Nat} {B B' : Bx} {r n r' n' sz : Nat} (hf : hasText P f = true) (hc : ∀ s g, s.boxes[g]? = some B → AC P f (hsl g r 0 n sz :: ps) s (hsl g r' 0 n' sz) (s.upd g B')) (hB : bs[i]? = some B) (hx : Args e xs (hsl (N + i) r 0 n sz :: ps)) (h' : bs.set i B' = bs') :
    OpD P ⟨dst, .call { callee := .value (.func f), args := xs.toArray, argTypes := ats }, ty, pos, after, guard⟩ e (s.ext bs fs) (hsl (N + i) r' 0 n' sz) (s.ext bs' fs) :=
  callHN (ps := fun b => hsl b r 0 n sz :: ps) (p := fun b => hsl b r' 0 n' sz) hN hf hc hB hx h'
theorem seal_e {α : Type} {k : Kn α} {l : List α} {b r t : Nat} {p q : Pd} (h : Env.ev e (.tmp t) = p) (h2 : SealOk k l b r p q) : SealOk k l b r (e t) q := by
  have h : e t = p := h
  rw [h]; exact h2
end
end Go.Proofs.Ytmnhfpcbfdgbcaa.Eng

/- The engine: arrays. -/
namespace Go.Proofs.Ytmnhfpcbfdgbcaa.Eng
open Go.RowKit Go.ChangeShapes Go.WideShapes

theorem cellsN {e : Env} {x : Operand} {α : Type} {k : Kn α} (hx : e.ev x = pl (.slice none 0 0)) : CellsOf (e.ev x) [sl k none none ([] : List α)] := by
  rw [hx]; exact fun g w v h => cellsOf_one (one_sl _ _ _ _) g w v (sl_nl _ _ _ _ g w v (nil_le k none g w v h))
theorem flat_at {α : Type} {k : Kn α} (h : k.sz = 1) {l : List α} {i : Nat} {x : α} {p : Pd} (hx : l[i]? = some x) (hp : k.cs x = [p]) : (flat k l)[i * 1]? = some p := by
  have := flat_get k l i 0 (by omega)
  rw [h, Nat.add_zero, hx] at this
  rw [this]
  simp [hp]
theorem flat_at0 {α : Type} {k : Kn α} (h : k.sz = 1) {l : List α} {i : Nat} {x : α} {p : Pd} (hx : l[i]? = some x) (hp : k.cs x = [p]) : (flat k l)[0 + i * 1]? = some p := by
  rw [Nat.zero_add]; exact flat_at h hx hp
theorem flat_set {α : Type} {k : Kn α} (h : k.sz = 1) {x : α} {p : Pd} (hp : k.cs x = [p]) : ∀ (l : List α) (i : Nat), (flat k l).set i p = flat k (l.set i x)
  | [], i => by simp [flat]
  | a :: l, 0 => by
    have ha := k.len a
    rw [h] at ha
    obtain ⟨q, hq⟩ := List.length_eq_one_iff.1 ha
    simp [flat, hq, hp]
  | a :: l, i + 1 => by
    have ha := k.len a
    rw [h] at ha
    obtain ⟨q, hq⟩ := List.length_eq_one_iff.1 ha
    have := flat_set h hp l i
    simp only [flat] at this ⊢
    simp [hq, this]
theorem flat_len1 {α : Type} {k : Kn α} (h : k.sz = 1) {l : List α} {n : Nat} (hl : l.length = n) : (flat k l).length = n := by rw [flat_length, h, Nat.mul_one, hl]
theorem flat_rep {α : Type} {k : Kn α} {x : α} {p : Pd} (hp : k.cs x = [p]) : ∀ n, flat k (List.replicate n x) = List.replicate n p
  | 0 => rfl
  | n + 1 => by rw [List.replicate_succ, List.replicate_succ, ← flat_rep hp n]; simp [flat, hp]

section
variable {P : Program} {e : Env} {s : St} {N : Nat} {dst : Option Tmp} {ty : TypeId} {pos : String} {after : Array Edge} {guard : Option (Nat × Bool)} {bs bs' : List Bx} {fs fs' : List Fr}
theorem allocFN (hN : s.boxes.length = N) {α : Type} {k : Kn α} {x0 : α} {t : TypeId} {z : Value} {n m : Nat} (hz : zeroT P t = some (List.replicate m z)) (hk : k.cs x0 = [pl z]) (hn : bs.length = n) (h' : bs ++ [⟨t, flat k (List.replicate m x0)⟩] = bs') (hT : Nat.blt t HOT = true := by rfl) :
    OpD P ⟨dst, .alloc t, ty, pos, after, guard⟩ e (s.ext bs fs) (ptr (N + n) 0) (s.ext bs' fs) := by
  subst h'
  exact allocN (hT := hT) hN hz hn (by rw [flat_rep hk]; simp)
theorem boxFN (hN : s.boxes.length = N) {α : Type} {k : Kn α} {l : List α} {t : TypeId} {x : Operand} {ps : List Pd} {n : Nat} (hx : e.ev x = agg ps) (hps : ps = flat k l) (hkb : KB k) (hn : bs.length = n) (h' : bs ++ [⟨t, flat k l⟩] = bs') (hT : Nat.blt t HOT = true := by rfl) :
    OpD P ⟨dst, .box t x, ty, pos, after, guard⟩ e (s.ext bs fs) (ptr (N + n) 0) (s.ext bs' fs) := by
  subst hps
  exact boxAN (hT := hT) hN hx (flatKB hkb) hn h'
theorem storeFN (hN : s.boxes.length = N) {α : Type} {k : Kn α} {l : List α} {t bt : TypeId} {x y : Operand} {b i : Nat} {z : α} {p : Pd} (hn : sizeT P t = some 1) (hx : e.ev x = ptr (N + b) (0 + i * 1)) (hy : (e.ev y).le p) (h1 : p.One) (hk1 : k.sz = 1) (hB : bs[b]? = some ⟨bt, flat k l⟩) (hi : i < l.length) (hk : k.cs z = [p]) (hkb : KB k)
    (h' : bs.set b ⟨bt, flat k (l.set i z)⟩ = bs') (hT : Nat.blt bt HOT = true := by rfl) : OpD P ⟨dst, .store t x y, ty, pos, after, guard⟩ e (s.ext bs fs) any (s.ext bs' fs) :=
  storeON (hT := hT) hN hn hx hy h1 hB (by show 0 + i * 1 < (flat k l).length; rw [flat_length, hk1]; omega) (hkb z _ _ p (by rw [hk]; simp)) (by show (flat k l).set (0 + i * 1) p = _; rw [Nat.zero_add, Nat.mul_one]; exact flat_set hk1 hk l i) h'
theorem loadFN {α : Type} {k : Kn α} {l : List α} {t bt : TypeId} {x : Operand} {b n : Nat} (ht : aggT P t = some true) (hn : sizeT P t = some n) (hx : e.ev x = ptr b 0) (hB : s.boxes[b]? = some ⟨bt, flat k l⟩) (hk1 : k.sz = 1) (hl : l.length = n) (hT : Nat.blt bt HOT = true := by rfl) :
    OpD P ⟨dst, .load t x, ty, pos, after, guard⟩ e s (agg (flat k l)) s :=
  opD_load_aggX (hT := hT) ht hn hx hB (by show 0 + n ≤ (flat k l).length; rw [flat_len1 hk1 hl]; omega) (by show ((flat k l).drop 0).take n = _; rw [List.drop_zero, List.take_of_length_le]; rw [flat_len1 hk1 hl]; exact Nat.le_refl _)
theorem nat_lt {n m : Nat} (h : Below ((n : Nat) : Int) m) : n < m := by have := h.2; simpa using this
theorem storeWF (hN : s.boxes.length = N) {α : Type} {k : Kn α} {l l2 : List α} {t bt : TypeId} {x y : Operand} {b n : Nat} (hn : sizeT P t = some n) (hx : e.ev x = ptr (N + b) 0) (hy : e.ev y = agg (flat k l2)) (hk1 : k.sz = 1) (hB : bs[b]? = some ⟨bt, flat k l⟩) (h0 : l.length = n) (h2 : l2.length = n) (hpos : 0 < n) (hkb : KB k)
    (h' : bs.set b ⟨bt, flat k l2⟩ = bs') (hT : Nat.blt bt HOT = true := by rfl) : OpD P ⟨dst, .store t x y, ty, pos, after, guard⟩ e (s.ext bs fs) any (s.ext bs' fs) :=
  storeAN (hT := hT) hN hn hx hy ones_flat hB (flat_len1 hk1 h2) (by show 0 + n ≤ (flat k l).length; rw [flat_len1 hk1 h0]; omega) (by show flat k l ≠ []; intro h; have := flat_len1 hk1 h0; rw [h] at this; simp at this; omega) (flatKB hkb)
    (by show (flat k l).take 0 ++ flat k l2 ++ (flat k l).drop (0 + n) = flat k l2; rw [List.take_zero, List.nil_append, List.drop_eq_nil_of_le (by rw [flat_len1 hk1 h0]; omega), List.append_nil]) h'
theorem nat_ix {α : Type} {l : List α} {n : Nat} {x : α} (h : l[((n : Nat) : Int).toNat]? = some x) : l[n]? = some x := by simpa using h
theorem opD_complU {xt : TypeId} {k : IntKind} {n r : Int} {x : Operand} (hs : k.signed = false) (hx : e.ev x = pl (.int k n)) (hr : bits BinOp.xor k k.max n = r) : OpD P ⟨dst, .unOp .xor xt x, ty, pos, after, guard⟩ e s (pl (.int k r)) s :=
  opD_un hx (fun w => by subst hr; simp [go_sem, hs, Op.unary])
/-- A row that was made, and is read alone. -/
theorem opD_makeS {α : Type} {k : Kn α} {x0 : α} {t te : TypeId} {x y : Operand} {k1 k2 : IntKind} {i1 i2 : Int} {n by_ : Nat} {z : Value} (ht : P.underlying t = some (.slice te)) (hel : elT P te = some (1, by_)) (hz : zeroT P te = some [z]) (hk1 : k.sz = 1) (hk : k.cs x0 = [pl z])
    (hx : e.ev x = pl (.int k1 i1)) (hy : e.ev y = pl (.int k2 i2)) (h1 : i1 = (n : Int)) (h2 : i2 = (n : Int)) (hb : n * by_ ≤ 140737488355328) (hb2 : n ≤ 140737488355328) :
    OpD P ⟨dst, .makeSlice t x y, ty, pos, after, guard⟩ e s (sl k none (some false) (List.replicate n x0)) s :=
  opD_value fun g a w ha hs => by
    subst h1; subst h2
    have e1 : a.eval x = .int k1 n := by have := ha x (by simp [Op.operands]); rw [hx] at this; exact this
    have e2 : a.eval y = .int k2 n := by have := ha y (by simp [Op.operands]); rw [hy] at this; exact this
    obtain ⟨i, z', hi, hzz, hzs, hsz, hby⟩ := elT_spec hel
    have hzc : z'.cells = #[z] := by
      unfold zeroT at hz
      rw [hi] at hz
      simp only [Option.bind_some, hzz, Option.map_some, Option.some.injEq] at hz
      exact Array.toList_inj.1 hz
    have hbig : (i.bytes : Int) * (n : Int) ≤ 281474976710656 := by
      have h3 : (by_ : Int) * (n : Int) = ((n * by_ : Nat) : Int) := by rw [Int.natCast_mul, Int.mul_comm]
      rw [hby, h3]; omega
    have hrun := run_make (P := P) w t te i z' ht hi hzz k1 k2 (n : Int) (n : Int) (by omega) (Int.le_refl _) hbig (by omega)
    simp only [Int.toNat_natCast] at hrun
    have hcells : (madeCells z'.cells (n * i.size)).toList = List.replicate n z := by rw [hzc, hsz, Nat.mul_one]; exact toList_madeCells_one z n
    have hN := new_alloc w (.cells (madeCells z'.cells (n * i.size)) te)
    refine ⟨.slice (some ⟨w.heap.size, 0, none⟩) n n, g.addRow w.heap.size (n * 1) none, w.alloc (.cells (madeCells z'.cells (n * i.size)) te), ?_, ?_, ext_new hs hN _ _, srel_new hs hN (FrLe.refl _) (fun _ _ h => by cases h)⟩
    · show (Sem.bind (Instr.makeSlice t (a.eval x) (a.eval y)) fun v => Sem.pure (Next.value v)).run P w = _
      rw [e1, e2]
      exact run_v hrun
    · refine ⟨some ⟨w.heap.size, 0, none⟩, n, by rw [List.length_replicate], by simp, (fun b hb => by cases hb; rfl), (fun h => by cases h), fun hne => ⟨w.heap.size, 0, rfl, ?_⟩, fun _ h => by cases h⟩
      refine slCells_new (vs := List.replicate n z) (ext_new hs hN _ _) ?_ (alloc_heap_new w _) (fun j v hj => ?_) ?_
      · rw [flat_rep hk]
        have := pds_pl g w (List.replicate n z)
        simpa using this
      · rw [← hcells] at hj; simpa using hj
      · rw [flat_rep hk, List.length_replicate]; simp [G.addRow]
end

/-! ### An array as an argument -/
def kV {α : Type} (n : Nat) (k : Kn α) : Kn { l : List α // l.length = n } := ⟨n * k.sz, fun x => flat k x.1, fun x => by rw [flat_length, x.2], fun x p hp => ones_flat p hp⟩
theorem openk_array {α : Type} {P : Program} {t e : TypeId} {n : Nat} {k : Kn α} {Wf : α → Prop} (ht : P.underlying t = some (.array n e)) (hc : P.cellsOf e = k.sz) (hct : P.cellsOf t = n * k.sz) (he : OpensK P e k Wf) :
    OpensK P t (kV n k) (fun x => ∀ a ∈ x.1, Wf a) := by
  intro H enc w fuel cs x h hlt
  obtain ⟨xs, m, rfl, rfl, hl, hx, hel⟩ := DataW.trod_array ht h
  have hlen : cs.length = n * k.sz := hl.trans hct
  have hwt : ∀ i (hi : i < xs.length), Light P e xs[i].1 := fun i hi q hq => hlt q (by
    have := weights_mem_all (P := P) (e := e) (List.mem_map.2 ⟨_, List.getElem_mem hi, rfl⟩ : xs[i].1 ∈ xs.map (·.1)) q hq
    simpa [DataW.weights, ht] using this)
  have key : ∀ j, j ≤ n → ∃ l : List α, l.length = j ∧ Pds (G0 w) w (flat k l) (cs.take (j * k.sz)) ∧ ∀ a ∈ l, Wf a := by
    intro j
    induction j with
    | zero => intro _; exact ⟨[], rfl, by simp [flat, Pds], fun a ha => by cases ha⟩
    | succ j ih =>
      intro hj
      obtain ⟨l, h1, h2, h3⟩ := ih (by omega)
      have h0 := hel j (by omega)
      rw [List.getElem?_eq_getElem (by omega), hc] at h0
      obtain ⟨a, ha, wa⟩ := he _ enc w m _ _ h0 (hwt _ _)
      refine ⟨l ++ [a], by simp [h1], ?_, fun b hb => ?_⟩
      · rw [flat_append, Nat.add_mul, Nat.one_mul, List.take_add]
        exact h2.append (by simpa [flat] using ha)
      · rcases List.mem_append.1 hb with hb | hb
        · exact h3 b hb
        · rw [List.mem_singleton.1 hb]; exact wa
  obtain ⟨l, h1, h2, h3⟩ := key n (Nat.le_refl _)
  refine ⟨⟨l, h1⟩, ?_, h3⟩
  rw [List.take_of_length_le (by omega)] at h2
  exact h2
end Go.Proofs.Ytmnhfpcbfdgbcaa.Eng
