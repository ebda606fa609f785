/- The engine: the orders of a drawn region, told apart. -/
import Derived.Test.YtmnhfpcbfdgbcaaDoorEngX4
namespace Go.Proofs.YtmnhfpcbfdgbcaaDoor.Eng
open Go Go.RowKit
set_option linter.unusedVariables false
set_option linter.unusedSimpArgs false

/-- A list of places that a draw may answer. -/
inductive Sch (ops : Array Oper) : Nat → Array Bool → List Nat → Prop
  | zero {l : Array Bool} : Sch ops 0 l []
  | nil {n : Nat} {l : Array Bool} : Region.ready .any ops l = [] → Sch ops (n + 1) l []
  | cons {n : Nat} {l : Array Bool} {i : Nat} {σ : List Nat} : i ∈ Region.ready .any ops l → Sch ops n (l.setIfInBounds i true) σ → Sch ops (n + 1) l (i :: σ)
theorem sch_go (ops : Array Oper) : ∀ (n t : Nat) (l : Array Bool), Sch ops n l (Region.linearise.go .any ops n t l [])
  | 0, t, l => by simp only [Region.linearise.go]; exact .zero
  | n + 1, t, l => by
    simp only [Region.linearise.go]
    change Sch ops (n + 1) l (match (Region.ready .any ops l)[t % (Region.ready .any ops l).length]? with
      | some i => Region.linearise.go .any ops n (t / (Region.ready .any ops l).length) (l.setIfInBounds i true) [i]
      | none => [].reverse)
    cases hi : (Region.ready .any ops l)[t % (Region.ready .any ops l).length]? with
    | none =>
      refine .nil ?_
      cases hr : Region.ready .any ops l with
      | nil => rfl
      | cons x xs =>
        rw [hr] at hi
        have hlt : t % (x :: xs).length < (x :: xs).length := Nat.mod_lt _ (by simp)
        simp at hi
        simp at hlt
        omega
    | some i =>
      simp only []
      rw [linearise_go_acc, List.reverse_singleton, List.singleton_append]
      exact .cons (List.mem_of_getElem? hi) (sch_go ops n _ _)
theorem sch_sound {P : Program} {ops : Array Oper} {Q : Exit → Act → World → Prop} {n : Nat} {l : Array Bool} {σ : List Nat} (h : Sch ops n l σ) : ∀ {a : Act} {w : World}, wpAny P .any ops Q n l a w → wpOps P ops Q σ a w := by
  induction h with
  | zero => intro a w h; exact h.2
  | nil hr => intro a w h; exact h.1 hr
  | cons hi _ ih =>
    intro a w h
    rw [wpOps_cons]
    exact wpOp_mono (fun a w => ih) (h.2 _ hi)

/-- What every order answers. -/
def AnyS (P : Program) (ops : Array Oper) (Q : Exit → Act → World → Prop) (a : Act) (w : World) : Prop := ∀ σ, Sch ops ops.size (Array.replicate ops.size false) σ → wpOps P ops Q σ a w
theorem anyS_of {P : Program} {ops : Array Oper} {Q : Exit → Act → World → Prop} {a : Act} {w : World} (h : wpAny P .any ops Q ops.size (Array.replicate ops.size false) a w) : AnyS P ops Q a w := fun σ hs => sch_sound hs h
theorem wp_region_S {P : Program} {ops : Array Oper} {Q : Exit → Act → World → Prop} {id : Nat} {a : Act} {w : World} (hm : P.follows .mixedOrders = true) (h : AnyS P ops Q a { w with drawn := w.drawn + 1 }) : (Code.region id ops true).wp P Q a w :=
  wp_region_draw fun t => by
    simp only [Region.schedule, hm, Bool.true_or, if_true]
    exact h _ (sch_go ops _ t _)

/-! ### Two regions alike but for their edges and the order in which they are written -/
structure Alike (ops1 ops2 : Array Oper) (π : Nat → Nat) : Prop where
  size : ops2.size = ops1.size
  inj : ∀ i j, π i = π j → i = j
  lt : ∀ i, i < ops1.size ↔ π i < ops1.size
  none : ∀ i, ops1[i]? = .none → ops2[π i]? = .none
  some : ∀ (i : Nat) (o : Oper), ops1[i]? = .some o → ∃ o2, ops2[π i]? = .some o2 ∧ o2.dst = o.dst ∧ o2.op = o.op ∧ o2.type = o.type ∧ o2.pos = o.pos ∧ o2.guard = o.guard.map fun x => (π x.1, x.2)
theorem wp_alike {P : Program} {o o2 : Oper} {a : Act} {w : World} {K : Act → World → Prop} {Q : Exit → Act → World → Prop} (h1 : o2.dst = o.dst) (h2 : o2.op = o.op) (h3 : o2.type = o.type) (h4 : o2.pos = o.pos) : o2.wp P a w K Q = o.wp P a w K Q ∧ o2.asks P a w = o.asks P a w := by
  obtain ⟨d, op, ty, ps, af, gd⟩ := o
  obtain ⟨d', op', ty', ps', af', gd'⟩ := o2
  simp only at h1 h2 h3 h4
  subst h1; subst h2; subst h3; subst h4
  exact ⟨rfl, rfl⟩
theorem yielded_alike {ops1 ops2 : Array Oper} {π : Nat → Nat} (h : Alike ops1 ops2 π) (ts : Array Value) (j : Nat) : yielded ops2 ts (π j) = yielded ops1 ts j := by
  unfold yielded
  cases hj : ops1[j]? with
  | none => rw [h.none j hj]
  | some o =>
    obtain ⟨o2, e, hd, _⟩ := h.some j o hj
    rw [e]
    simp only [Option.bind_some, hd]
theorem wpOps_alike {P : Program} {ops1 ops2 : Array Oper} {π : Nat → Nat} {Q : Exit → Act → World → Prop} (h : Alike ops1 ops2 π) : ∀ (σ : List Nat) (a : Act) (w : World), wpOps P ops2 Q (σ.map π) a w → wpOps P ops1 Q σ a w
  | [], a, w, hh => hh
  | i :: σ, a, w, hh => by
    rw [List.map_cons, wpOps_cons] at hh
    rw [wpOps_cons]
    unfold wpOp at hh ⊢
    cases hi : ops1[i]? with
    | none => rw [h.none i hi] at hh; exact wpOps_alike h σ a w hh
    | some o =>
      obtain ⟨o2, e, hd, ho, ht, hp, hg⟩ := h.some i o hi
      rw [e] at hh
      simp only at hh ⊢
      have hw : Region.wanted o2 (yielded ops2 a.tmps) = Region.wanted o (yielded ops1 a.tmps) := by
        unfold Region.wanted
        rw [hg]
        cases o.guard with
        | none => rfl
        | some x => simp only [Option.map_some, yielded_alike h]
      rw [hw] at hh
      split
      · rename_i hx
        rw [if_pos hx] at hh
        obtain ⟨w1, w2⟩ := wp_alike (P := P) (a := a) (w := w) (K := wpOps P ops2 Q (σ.map π)) (Q := Q) hd ho ht hp
        rw [w1, w2] at hh
        exact hh.imp (Oper.wp_mono fun a w => wpOps_alike h σ a w) id
      · rename_i hx
        rw [if_neg hx, hd] at hh
        exact wpOps_alike h σ _ w hh

/-! ### One more edge -/
def edge1 (a : Nat) (o : Oper) : Oper := { o with after := o.after.push ⟨a, .data⟩ }
def addE : Nat → Nat → List Oper → List Oper
  | _, _, [] => []
  | 0, a, o :: l => edge1 a o :: l
  | b + 1, a, o :: l => o :: addE b a l
theorem addE_len : ∀ (b a : Nat) (l : List Oper), (addE b a l).length = l.length
  | b, a, [] => by cases b <;> rfl
  | 0, a, o :: l => rfl
  | b + 1, a, o :: l => by rw [addE, List.length_cons, addE_len b a l, List.length_cons]
theorem addE_get : ∀ (b a : Nat) (l : List Oper) (i : Nat), (addE b a l)[i]? = (l[i]?).map fun o => if i = b then edge1 a o else o
  | b, a, [], i => by cases b <;> simp [addE]
  | 0, a, o :: l, 0 => by simp [addE]
  | 0, a, o :: l, i + 1 => by simp [addE]
  | b + 1, a, o :: l, 0 => by simp [addE]
  | b + 1, a, o :: l, i + 1 => by
    rw [addE, List.getElem?_cons_succ, addE_get b a l i, List.getElem?_cons_succ]
    simp
theorem alike_add (b a : Nat) (l : List Oper) : Alike l.toArray (addE b a l).toArray id := by
  refine ⟨by simp [addE_len], fun i j h => h, fun i => Iff.rfl, fun i h => ?_, fun i o h => ?_⟩
  · simp only [List.getElem?_toArray, id] at h ⊢
    rw [addE_get, h]; rfl
  · simp only [List.getElem?_toArray, id] at h ⊢
    rw [addE_get, h]
    refine ⟨_, rfl, ?_⟩
    dsimp only
    have hg : o.guard = o.guard.map fun x => (x.1, x.2) := by cases o.guard <;> rfl
    by_cases hi : i = b
    · rw [if_pos hi]; exact ⟨rfl, rfl, rfl, rfl, hg⟩
    · rw [if_neg hi]; exact ⟨rfl, rfl, rfl, rfl, hg⟩
theorem ready_add {b a : Nat} {l : List Oper} {L : Array Bool} {i : Nat} : i ∈ Region.ready .any (addE b a l).toArray L ↔ i ∈ Region.ready .any l.toArray L ∧ (i = b → L.getD a false = true) := by
  rw [mem_ready, mem_ready]
  simp only [List.getElem?_toArray, addE_get]
  constructor
  · rintro ⟨h1, o, h2, h3⟩
    cases hl : l[i]? with
    | none => rw [hl] at h2; cases h2
    | some o' =>
      rw [hl] at h2
      simp only [Option.map_some, Option.some.injEq] at h2
      subst h2
      refine ⟨⟨h1, o', rfl, fun ed hed hb => ?_⟩, fun hi => ?_⟩
      · refine h3 ed ?_ hb
        by_cases hi : i = b
        · rw [if_pos hi]; simp [edge1, hed]
        · rw [if_neg hi]; exact hed
      · refine h3 ⟨a, .data⟩ ?_ rfl
        rw [if_pos hi]; simp [edge1]
  · rintro ⟨⟨h1, o, h2, h3⟩, h4⟩
    refine ⟨h1, _, by rw [h2]; rfl, fun ed hed hb => ?_⟩
    dsimp only at hed
    by_cases hi : i = b
    · rw [if_pos hi] at hed
      simp only [edge1, Array.mem_push] at hed
      rcases hed with hed | rfl
      · exact h3 ed hed hb
      · exact h4 hi
    · rw [if_neg hi] at hed; exact h3 ed hed hb
theorem sch_add {b a : Nat} {l : List Oper} {n : Nat} {L : Array Bool} {σ : List Nat} (h : Sch l.toArray n L σ) : L.size = l.length → (∀ σ1 σ2, σ = σ1 ++ b :: σ2 → L.getD a false = true ∨ a ∈ σ1) → Sch (addE b a l).toArray n L σ := by
  induction h with
  | zero => intro _ _; exact .zero
  | @nil n L hr =>
    intro _ _
    refine .nil (List.eq_nil_iff_forall_not_mem.2 fun i hi => ?_)
    have := (ready_add.1 hi).1
    rw [hr] at this; cases this
  | @cons n L i σ hi hs ih =>
    intro hL hc
    refine .cons (ready_add.2 ⟨hi, fun hib => ?_⟩) (ih (by simpa using hL) fun σ1 σ2 e => ?_)
    · rcases hc [] σ (by rw [hib]; rfl) with h | h
      · exact h
      · cases h
    · rcases hc (i :: σ1) σ2 (by rw [e]; rfl) with h | h
      · left
        by_cases hai : i = a
        · subst hai
          have : i < L.size := by
            obtain ⟨_, o, ho, _⟩ := mem_ready.1 hi
            simp only [List.getElem?_toArray] at ho
            rw [hL]; exact (List.getElem?_eq_some_iff.1 ho).1
          simp [Array.getD_eq_getD_getElem?, Array.getElem?_setIfInBounds, this]
        · simpa [Array.getD_eq_getD_getElem?, Array.getElem?_setIfInBounds, hai] using h
      · rcases List.mem_cons.1 h with rfl | h
        · left
          have : a < L.size := by
            obtain ⟨_, o, ho, _⟩ := mem_ready.1 hi
            simp only [List.getElem?_toArray] at ho
            rw [hL]; exact (List.getElem?_eq_some_iff.1 ho).1
          simp [Array.getD_eq_getD_getElem?, Array.getElem?_setIfInBounds, this]
        · exact .inr h
theorem one_first {a b : Nat} (hab : a ≠ b) : ∀ σ : List Nat, (∀ σ1 σ2, σ = σ1 ++ b :: σ2 → a ∈ σ1) ∨ (∀ σ1 σ2, σ = σ1 ++ a :: σ2 → b ∈ σ1)
  | [] => .inl fun σ1 σ2 h => by simp at h
  | x :: σ => by
    by_cases ha : x = a
    · left
      intro σ1 σ2 h
      cases σ1 with
      | nil => simp at h; omega
      | cons y σ1 => simp at h; simp [← h.1, ha]
    · by_cases hb : x = b
      · right
        intro σ1 σ2 h
        cases σ1 with
        | nil => simp at h; omega
        | cons y σ1 => simp at h; simp [← h.1, hb]
      · rcases one_first hab σ with h | h
        · left
          intro σ1 σ2 e
          cases σ1 with
          | nil => simp at e; omega
          | cons y σ1 => simp at e; exact List.mem_cons_of_mem _ (h σ1 σ2 e.2)
        · right
          intro σ1 σ2 e
          cases σ1 with
          | nil => simp at e; omega
          | cons y σ1 => simp at e; exact List.mem_cons_of_mem _ (h σ1 σ2 e.2)
theorem anyS_split {P : Program} {l : List Oper} {Q : Exit → Act → World → Prop} {ac : Act} {w : World} (a b : Nat) (hab : a ≠ b) (h1 : AnyS P (addE b a l).toArray Q ac w) (h2 : AnyS P (addE a b l).toArray Q ac w) : AnyS P l.toArray Q ac w := by
  intro σ hs
  rcases one_first hab σ with h | h
  · have := h1 σ (by
      have := sch_add (b := b) (a := a) hs (by simp) fun σ1 σ2 e => .inr (h σ1 σ2 e)
      simpa [addE_len] using this)
    exact wpOps_alike (alike_add b a l) σ ac w (by simpa using this)
  · have := h2 σ (by
      have := sch_add (b := a) (a := b) hs (by simp) fun σ1 σ2 e => .inr (h σ1 σ2 e)
      simpa [addE_len] using this)
    exact wpOps_alike (alike_add a b l) σ ac w (by simpa using this)

/-! ### Two neighbours in the other order -/
def sw2 (k i : Nat) : Nat := if i = k then k + 1 else if i = k + 1 then k else i
theorem sw2_inv (k i : Nat) : sw2 k (sw2 k i) = i := by unfold sw2; split <;> (try split) <;> (try split) <;> omega
theorem sw2_inj (k i j : Nat) (h : sw2 k i = sw2 k j) : i = j := by rw [← sw2_inv k i, h, sw2_inv]
theorem sw2_lt {k n : Nat} (hk : k + 1 < n) (i : Nat) : i < n ↔ sw2 k i < n := by unfold sw2; split <;> (try split) <;> omega
def ren (k : Nat) (o : Oper) : Oper := { o with after := o.after.map fun e => ⟨sw2 k e.on, e.ground⟩, guard := o.guard.map fun x => (sw2 k x.1, x.2) }
def swL {α : Type} : Nat → List α → List α
  | 0, a :: b :: l => b :: a :: l
  | k + 1, a :: l => a :: swL k l
  | _, l => l
theorem swL_get {α : Type} : ∀ (k : Nat) (l : List α), k + 1 < l.length → ∀ i, (swL k l)[i]? = l[sw2 k i]?
  | 0, a :: b :: l, _, i => by
    rcases i with _ | _ | i
    · simp [swL, sw2]
    · simp [swL, sw2]
    · simp [swL, sw2]
  | k + 1, a :: l, h, i => by
    rcases i with _ | i
    · simp [swL, sw2]
    · rw [swL, List.getElem?_cons_succ, swL_get k l (by simpa using h) i]
      have : sw2 (k + 1) (i + 1) = sw2 k i + 1 := by unfold sw2; split <;> (try split) <;> (try split) <;> (try split) <;> omega
      rw [this, List.getElem?_cons_succ]
  | 0, [], h, _ => by simp at h
  | 0, [a], h, _ => by simp at h
theorem swL_len {α : Type} : ∀ (k : Nat) (l : List α), (swL k l).length = l.length
  | 0, a :: b :: l => rfl
  | k + 1, a :: l => by rw [swL, List.length_cons, swL_len k l, List.length_cons]
  | 0, [] => rfl
  | 0, [a] => rfl
  | k + 1, [] => rfl
def swapE (k : Nat) (l : List Oper) : List Oper := swL k (l.map (ren k))
theorem swapE_get {k : Nat} {l : List Oper} (hk : k + 1 < l.length) (i : Nat) : (swapE k l)[sw2 k i]? = (l[i]?).map (ren k) := by
  unfold swapE
  rw [swL_get k _ (by simpa using hk), sw2_inv, List.getElem?_map]
theorem alike_swap {k : Nat} {l : List Oper} (hk : k + 1 < l.length) : Alike l.toArray (swapE k l).toArray (sw2 k) := by
  refine ⟨by simp [swapE, swL_len], sw2_inj k, fun i => sw2_lt (by simpa using hk) i, fun i h => ?_, fun i o h => ?_⟩
  · simp only [List.getElem?_toArray] at h ⊢
    rw [swapE_get hk, h]; rfl
  · simp only [List.getElem?_toArray] at h ⊢
    rw [swapE_get hk, h]
    exact ⟨_, rfl, rfl, rfl, rfl, rfl, rfl⟩
theorem ready_swap {k : Nat} {l : List Oper} (hk : k + 1 < l.length) {L1 L2 : Array Bool} (hL : ∀ i, L2[sw2 k i]? = L1[i]?) {i : Nat} : i ∈ Region.ready .any l.toArray L1 → sw2 k i ∈ Region.ready .any (swapE k l).toArray L2 := by
  rw [mem_ready, mem_ready]
  simp only [List.getElem?_toArray, Array.getD_eq_getD_getElem?, swapE_get hk, hL]
  rintro ⟨h1, o, h2, h3⟩
  refine ⟨h1, _, by rw [h2]; rfl, fun ed hed hb => ?_⟩
  simp only [ren, Array.mem_map] at hed
  obtain ⟨e, he, rfl⟩ := hed
  rw [hL]
  exact h3 e he hb
theorem ready_back {k : Nat} {l : List Oper} (hk : k + 1 < l.length) {L1 L2 : Array Bool} (hL : ∀ i, L2[sw2 k i]? = L1[i]?) {i : Nat} : sw2 k i ∈ Region.ready .any (swapE k l).toArray L2 → i ∈ Region.ready .any l.toArray L1 := by
  rw [mem_ready, mem_ready]
  simp only [List.getElem?_toArray, Array.getD_eq_getD_getElem?, swapE_get hk, hL]
  rintro ⟨h1, o, h2, h3⟩
  cases hl : l[i]? with
  | none => rw [hl] at h2; cases h2
  | some o' =>
    rw [hl] at h2
    simp only [Option.map_some, Option.some.injEq] at h2
    subst h2
    refine ⟨h1, o', rfl, fun ed hed hb => ?_⟩
    have := h3 ⟨sw2 k ed.on, ed.ground⟩ (by simp only [ren, Array.mem_map]; exact ⟨ed, hed, rfl⟩) hb
    rwa [hL] at this
theorem sch_swap {k : Nat} {l : List Oper} (hk : k + 1 < l.length) {n : Nat} {L1 : Array Bool} {σ : List Nat} (h : Sch l.toArray n L1 σ) : ∀ {L2 : Array Bool}, L1.size = l.length → L2.size = l.length → (∀ i, L2[sw2 k i]? = L1[i]?) → Sch (swapE k l).toArray n L2 (σ.map (sw2 k)) := by
  induction h with
  | zero => intro L2 _ _ _; exact .zero
  | nil hr =>
    intro L2 _ _ hL
    refine .nil (List.eq_nil_iff_forall_not_mem.2 fun i hi => ?_)
    rw [← sw2_inv k i] at hi
    have := ready_back hk hL hi
    rw [hr] at this; cases this
  | @cons n L i σ hi hs ih =>
    intro L2 h1 h2 hL
    rw [List.map_cons]
    refine .cons (ready_swap hk hL hi) (ih (by simpa using h1) (by simpa using h2) fun j => ?_)
    rw [Array.getElem?_setIfInBounds, Array.getElem?_setIfInBounds, hL]
    by_cases hij : i = j
    · subst hij
      have hlt := sw2_lt hk i
      rw [if_pos rfl, if_pos rfl, h1, h2]
      by_cases hi : i < l.length
      · rw [if_pos hi, if_pos (hlt.1 hi)]
      · rw [if_neg hi, if_neg (fun h => hi (hlt.2 h))]
    · rw [if_neg hij, if_neg (fun h => hij (sw2_inj k _ _ h))]
theorem anyS_swap {P : Program} {l : List Oper} {Q : Exit → Act → World → Prop} {ac : Act} {w : World} (k : Nat) (hk : k + 1 < l.length) (h : AnyS P (swapE k l).toArray Q ac w) : AnyS P l.toArray Q ac w := by
  intro σ hs
  refine wpOps_alike (alike_swap hk) σ ac w (h _ ?_)
  have hsz : (swapE k l).toArray.size = l.length := by simp [swapE, swL_len]
  rw [hsz]
  have hs' : Sch l.toArray l.length (Array.replicate l.length false) σ := by simpa using hs
  refine sch_swap hk hs' (by simp) (by simp) fun i => ?_
  have := sw2_lt hk i
  rw [Array.getElem?_replicate, Array.getElem?_replicate]
  by_cases hi : i < l.length
  · rw [if_pos hi, if_pos (this.1 hi)]
  · rw [if_neg hi, if_neg (fun h => hi (this.2 h))]

/-! ### At the level of a walk -/
def AY (P : Program) (nt : Nat) (l : List Oper) (Q : Exit → Env → St → Prop) (e : Env) (s : St) : Prop :=
  ∀ g a w, ERel nt e g a w → SRel g s w → AnyS P l.toArray (Post nt Q g w) a { w with drawn := w.drawn + 1 }
theorem aw_of_ay {P : Program} {nt id : Nat} {l : List Oper} {Q : Exit → Env → St → Prop} {e : Env} {s : St} (hm : P.follows .mixedOrders = true) (h : AY P nt l Q e s) : AW P nt (.region id l.toArray true) Q e s :=
  fun g a w he hs => wp_region_S hm (h g a w he hs)
theorem ay_split {P : Program} {nt : Nat} {l : List Oper} {Q : Exit → Env → St → Prop} {e : Env} {s : St} (a b : Nat) (hab : Nat.beq a b = false) (h1 : AY P nt (addE b a l) Q e s) (h2 : AY P nt (addE a b l) Q e s) : AY P nt l Q e s :=
  fun g ac w he hs => anyS_split a b (Nat.ne_of_beq_eq_false hab) (h1 g ac w he hs) (h2 g ac w he hs)
theorem ay_swap {P : Program} {nt : Nat} {l : List Oper} {Q : Exit → Env → St → Prop} {e : Env} {s : St} (k : Nat) (hk : Nat.blt (k + 1) l.length = true) (h : AY P nt (swapE k l) Q e s) : AY P nt l Q e s :=
  fun g ac w he hs => anyS_swap k (Nat.le_of_ble_eq_true hk) (h g ac w he hs)
theorem ay_drawn {P : Program} {nt : Nat} {ops : List Oper} {Q : Exit → Env → St → Prop} {e : Env} {s : St} (acts : List Bool) (ws : List (List Nat)) (hd : DOk nt ops acts ws = true)
    (h : DT P ops.toArray (fun tr e' s' => tr.map isAct = acts ∧ LoadsOk s tr tr ws ∧ Q .normal e' s') ops e s []) : AY P nt ops Q e s := by
  intro g a w he hs
  refine anyS_of ?_
  obtain ⟨tr, e', s', htr, hk⟩ := h.tr
  rw [List.nil_append] at hk
  obtain ⟨hacts, hl, hq⟩ := hk
  simp only [DOk, Bool.and_eq_true, decide_eq_true_eq] at hd
  obtain ⟨⟨⟨⟨h1, h2⟩, h3⟩, h4⟩, h5⟩ := hd
  have J : JJ ops nt e s tr g w (Array.replicate ops.toArray.size false) g a { w with drawn := w.drawn + 1 } := by
    refine ⟨Ext.drew g w, ?_, he.size, he.defers, fun t => ?_, by simp, ?_⟩
    · have : ((List.range ops.length).countP fun j => (tr.map isAct).getD j false && (Array.replicate ops.toArray.size false).getD j false) = 0 := by
        rw [List.countP_eq_zero]
        intro j hj
        rw [getD_rep]; simp
      rw [this]
      simpa [stAt] using hs.drew
    · rw [last_agree (h := fun j => decide (j < 0)) ops.length (fun i hi _ => by rw [getD_rep]; simp), last_below 0 _ (by omega)]
      exact (e t).mono (Ext.drew g w) (he.tmp t)
    · intro j o ed _ hl
      rw [getD_rep] at hl; cases hl
  refine drawn_any h1 h2 h3 (by rw [hacts]; exact h4) htr (fun i t ht hc k hlo hhi => ?_) hq ops.toArray.size _ g a _ J ?_
  · obtain ⟨w, hw, ha⟩ := hl.at i t ht hc
    refine ha.at k ?_
    have hi : i < ops.length := by
      have := (List.getElem?_eq_some_iff.1 ht).1
      have h6 := htr.spec.1
      omega
    rw [← h5, wins, List.getElem?_map, List.getElem?_range hi] at hw
    simp only [Option.map_some, Option.some.injEq] at hw
    rw [← hw, List.mem_range'_1]
    rw [hacts] at hlo hhi
    omega
  · have := List.countP_le_length (p := fun j => !(Array.replicate ops.toArray.size false).getD j false) (l := List.range ops.length)
    simpa using this
end Go.Proofs.YtmnhfpcbfdgbcaaDoor.Eng
