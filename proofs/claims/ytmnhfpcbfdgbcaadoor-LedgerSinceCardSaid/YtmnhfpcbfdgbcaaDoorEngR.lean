/- The engine: from what a row lays to what a contract asks. -/
import Derived.Test.YtmnhfpcbfdgbcaaDoorEngQ
import Derived.OpenShut
import Derived.SizedLaws
namespace Go.Proofs.YtmnhfpcbfdgbcaaDoor.Eng
set_option linter.unusedVariables false
set_option linter.unusedSimpArgs false
open Go.RowKit Go.ChangeShapes Go.WideShapes

/-- At the start: all that there is is sealed. -/
def G0 (w : World) : G := ⟨fun b => match w.heap[b]? with | some (.cells cs _ _) => cs.size | _ => 0, [], fun _ => none, w.heap.size⟩

theorem cell_at {w : World} {a : Addr} {v : Value} (h : w.cell? a = some v) : a = ⟨a.block, a.off, none⟩ ∧ a.off < (G0 w).sld a.block := by
  obtain ⟨b, o, sp⟩ := a
  simp only [World.cell?] at h
  simp only [G0]
  cases hb : w.heap[b]? with
  | none => rw [hb] at h; cases h
  | some ob =>
    rw [hb] at h
    cases ob with
    | cells c _ _ =>
      simp only at h
      cases sp with
      | some x => simp at h
      | none =>
        simp only [Option.isSome_none, Bool.false_eq_true, if_false] at h
        exact ⟨rfl, (Array.getElem?_eq_some_iff.1 h).1⟩
    | _ => simp at h

/-- The library's one variable, as it is laid. -/
def statP (V : Value) : Pd := ⟨fun g w _ => 0 < g.sld 0 ∧ w.cell? ⟨0, 0, none⟩ = some V, fun hx ⟨h1, h2⟩ => ⟨Nat.lt_of_lt_of_le h1 (hx.sld 0), by rw [hx.cell 0 0 h1]; exact h2⟩⟩
def S0 (V : Value) : St := ⟨[], [], statP V⟩
theorem statP_bnd (V : Value) (n m : Nat) : (statP V).Bnd n m := fun _ _ _ _ h _ _ ⟨h1, h2⟩ => ⟨by rw [h.1]; exact h1, h2⟩

theorem srel0 {w : World} {V : Value} (h : w.cell? ⟨0, 0, none⟩ = some V) : SRel (G0 w) (S0 V) w :=
  ⟨rfl, List.nodup_nil, fun i B hB => by simp [S0] at hB, (fun b id c h => nomatch h), fun b hb => (by
    simp only [G0] at hb
    cases hh : w.heap[b]? with
    | none => rw [hh] at hb; exact absurd rfl hb
    | some o => exact (Array.getElem?_eq_some_iff.1 hh).1), ⟨(cell_at h).2, h⟩, statP_bnd V 0 0, Nat.le_refl _⟩

theorem row_of_ac {P : Program} {f : FuncId} {ps : List Pd} {args : List Value} {w : World} {V r : Value} (h : AC P f ps (S0 V) (pl r) (S0 V)) (hV : w.cell? ⟨0, 0, none⟩ = some V) (hA : Pds (G0 w) w ps args) :
    Calls P f args.toArray w fun e w' => e = .returned r ∧ Below w.heap.size w w' := by
  refine (h (G0 w) w args hA (srel0 hV)).mono ?_
  rintro e w' ⟨v, g', rfl, hv, hx, _⟩
  rw [show v = r from hv]
  exact ⟨rfl, hx.os, hx.tape, hx.output, hx.size, fun k hk => hx.block k hk hk (by simp [G0]) rfl⟩

/-! ### What is laid, opened -/
/-- No row of it is longer than a machine can hold. -/
def Light {H : Type} (P : Program) (t : TypeId) (x : DataW H) : Prop := ∀ n ∈ x.weights P t, n ≤ reachBytes
theorem weights_mem_all {H : Type} {P : Program} {e : TypeId} : ∀ {ds : List (DataW H)} {d : DataW H}, d ∈ ds → ∀ n ∈ d.weights P e, n ∈ DataW.weightsAll P e ds
  | d0 :: ds, d, hd, n, hn => by
    simp only [DataW.weightsAll, List.mem_append]
    rcases List.mem_cons.1 hd with rfl | hd
    · exact .inl hn
    · exact .inr (weights_mem_all hd n hn)
  | [], _, hd, _, _ => by cases hd
theorem light_of {H : Type} {P : Program} {ts : List TypeId} {ds : List (DataW H)} (h : (DataW.weightsEach P ts ds).all (· ≤ reachBytes) = true) {j : Nat} {t : TypeId} {d : DataW H} (ht : ts[j]? = some t) (hd : ds[j]? = some d) : Light P t d := fun n hn => by
  have := List.all_eq_true.1 h _ (DataW.weights_mem_each ht hd n hn)
  simpa using this
def OpensK {α : Type} (P : Program) (t : TypeId) (k : Kn α) (Wf : α → Prop) : Prop :=
  ∀ (H : Type) (enc : TypeId × Value → H) (w : World) (fuel : Nat) (cs : List Value) (x : DataW H × List MemPlace),
    DataW.trod enc P w 0 (fun _ => true) true fuel t cs = some x → Light P t x.1 → ∃ a : α, Pds (G0 w) w (k.cs a) cs ∧ Wf a

theorem openk_int {P : Program} {t : TypeId} {k : IntKind} (ht : P.underlying t = some (.int k)) : OpensK P t (kI k) (fun n => (Lit.int k n).wf = true) := by
  intro H enc w fuel cs x h _
  obtain ⟨n, rfl, hx, hw⟩ := DataW.trod_int ht h
  exact ⟨n, ⟨rfl, trivial⟩, hw⟩
theorem openk_bool {P : Program} {t : TypeId} (ht : P.underlying t = some .bool) : OpensK P t kB (fun _ => True) := by
  intro H enc w fuel cs x h _
  obtain ⟨n, rfl, hx⟩ := DataW.trod_bool ht h
  exact ⟨n, ⟨rfl, trivial⟩, trivial⟩
theorem openk_string {P : Program} {t : TypeId} (ht : P.underlying t = some .string) : OpensK P t kS (fun s => s.size ≤ maxLen) := by
  intro H enc w fuel cs x h _
  obtain ⟨n, rfl, hx, hw⟩ := DataW.trod_string ht h
  exact ⟨n, ⟨rfl, trivial⟩, hw⟩

theorem openk_slice {α : Type} {P : Program} {t e : TypeId} {k : Kn α} {Wf : α → Prop} (ht : P.underlying t = some (.slice e)) (hc : P.cellsOf e = k.sz) (hz : 0 < k.sz) (he : OpensK P e k Wf) (z : α) :
    OpensK P t (kR k) (fun l => (∀ a ∈ l, Wf a) ∧ l.length ≤ maxLen ∧ l.length * P.bytesOf e ≤ reachBytes) := by
  intro H enc w fuel cs x h hlt
  rcases DataW.trod_slice ht h with ⟨rfl, rfl⟩ | ⟨a, len, cap, elems, rest, n, _, rfl, rfl, hb, hl, hm, hlen, hel, hsp, hns⟩
  · exact ⟨[], ⟨⟨none, 0, rfl, Nat.le_refl _, (fun b hb => nomatch hb), fun _ => rfl, fun h => absurd rfl h, (fun id hi => nomatch hi)⟩, trivial⟩, (fun a h => nomatch h), Nat.zero_le _, by simp⟩
  · have hwt : ∀ n, n ∈ ((elems.map (·.1)).length + (rest.map (·.1)).length) * P.bytesOf e :: (DataW.weightsAll P e (elems.map (·.1)) ++ DataW.weightsAll P e (rest.map (·.1))) → n ≤ reachBytes := fun n hn => hlt n (by simpa [DataW.weights, ht] using hn)
    have hbound : len * P.bytesOf e ≤ reachBytes := by
      have h1 := hwt _ List.mem_cons_self
      simp only [List.length_map] at h1
      refine Nat.le_trans (Nat.mul_le_mul_right _ ?_) h1
      omega
    have each : ∀ i, i < len → ∃ p : α, (∃ c, c.length = k.sz ∧ Pds (G0 w) w (k.cs p) c ∧ ∀ j u, c[j]? = some u → w.cell? (a.add (i * k.sz + j)) = some u) ∧ Wf p := by
      intro i hi
      have h1 := hel i hi
      have h2 : elems[i]? = some (elems[i]'(by omega)) := List.getElem?_eq_getElem (by omega)
      rw [h2] at h1
      obtain ⟨c, hc1, hc2⟩ := Option.bind_eq_some_iff.1 h1
      obtain ⟨p, hp, hw⟩ := he _ enc w n c _ hc2 (fun m hm => hwt m (List.mem_cons_of_mem _ (List.mem_append_left _ (weights_mem_all (List.mem_map.2 ⟨_, List.getElem_mem (by omega), rfl⟩) m hm))))
      obtain ⟨_, hlc, hcell⟩ := World.cells?_some hc1
      refine ⟨p, ⟨c, hlc.trans hc, hp, fun j u hu => ?_⟩, hw⟩
      have hj : j < P.cellsOf e := by
        have := (List.getElem?_eq_some_iff.1 hu).1
        omega
      have h3 := hcell j hj
      rw [Addr.add_add, hc] at h3
      rw [h3]
      exact hu
    let f : Nat → α := fun i => if h : i < len then Classical.choose (each i h) else z
    have hf : ∀ i (h : i < len), (∃ c, c.length = k.sz ∧ Pds (G0 w) w (k.cs (f i)) c ∧ ∀ j u, c[j]? = some u → w.cell? (a.add (i * k.sz + j)) = some u) ∧ Wf (f i) := by
      intro i h
      have := Classical.choose_spec (each i h)
      have e : f i = Classical.choose (each i h) := dif_pos h
      rw [e]
      exact this
    have hln : ((List.range len).map f).length = len := by simp
    refine ⟨(List.range len).map f, ⟨⟨some a, cap, by rw [hln], by rw [hln]; exact hl, fun b hb => (by cases hb), fun h => (by cases h), fun hn => ?_, fun id hi => (by cases hi)⟩, trivial⟩, fun p hp => ?_, by rw [hln]; exact Nat.le_trans hl hm, by rw [hln]; exact hbound⟩
    · have h0 : 0 < len := by
        cases len with
        | zero => simp at hn
        | succ n => omega
      obtain ⟨⟨c, hcl, _, hcell⟩, _⟩ := hf 0 h0
      have hca : w.cell? a = some c[0] := by
        have := hcell 0 c[0] (List.getElem?_eq_getElem (by omega))
        simpa [Addr.add] using this
      have hae := (cell_at hca).1
      refine ⟨a.block, a.off, by rw [← hae], fun i p hi j q hq => ?_⟩
      have hil : i < len := by
        have := (List.getElem?_eq_some_iff.1 hi).1
        simpa using this
      have : p = f i := by
        rw [List.getElem?_map, List.getElem?_range hil] at hi
        exact (Option.some.inj hi).symm
      subst this
      obtain ⟨⟨c2, hcl2, hpd, hcell2⟩, _⟩ := hf i hil
      obtain ⟨v, hv, hpv⟩ := hpd.get j q hq
      have h5 := hcell2 j v hv
      rw [hae, Addr.add_lit] at h5
      simp only [← Nat.add_assoc] at h5
      exact ⟨(cell_at h5).2, v, h5, hpv⟩
    · obtain ⟨i, hi, rfl⟩ := List.mem_map.1 hp
      exact (hf i (List.mem_range.1 hi)).2

theorem open_arg {α : Type} {H : Type} {enc : TypeId × Value → H} {P : Program} {t : TypeId} {k : Kn α} {Wf : α → Prop} {W : World} {v : Value} {d : DataW H} {p : List MemPlace} (he : OpensK P t k Wf) (h : DataW.Trod enc P W 0 (fun _ => true) true t v d p) (hlt : Light P t d) {vs : List Value} (hv : v.cells.toList = vs) : ∃ a : α, Pds (G0 W) W (k.cs a) vs ∧ Wf a := by
  subst hv
  obtain ⟨fuel, hf⟩ := h
  exact he _ enc W fuel _ _ hf hlt

/-- One kind behind another. -/
def kPair {α β : Type} (a : Kn α) (b : Kn β) : Kn (α × β) := ⟨a.sz + b.sz, fun x => a.cs x.1 ++ b.cs x.2, fun x => by rw [List.length_append, a.len, b.len], fun x p hp => by
  rcases List.mem_append.1 hp with h | h
  · exact a.one _ p h
  · exact b.one _ p h⟩

theorem openk_of {α β : Type} {P : Program} {t : TypeId} {k : Kn α} {k' : Kn β} {Wf : α → Prop} {Wf' : β → Prop} (g : α → β) (h : OpensK P t k Wf) (hg : ∀ a, Wf a → k'.cs (g a) = k.cs a) (hw : ∀ a, Wf a → Wf' (g a)) : OpensK P t k' Wf' := by
  intro H enc w fuel cs x hx hlt
  obtain ⟨a, h1, h2⟩ := h _ enc w fuel cs x hx hlt
  exact ⟨g a, by rw [hg a h2]; exact h1, hw a h2⟩

theorem openk_array2 {α : Type} {P : Program} {t e : TypeId} {d : Kn α} {Wf : α → Prop} (ht : P.underlying t = some (.array 2 e)) (hc : P.cellsOf e = d.sz) (hct : P.cellsOf t = d.sz + d.sz) (he : OpensK P e d Wf) :
    OpensK P t (kPair d d) (fun p => Wf p.1 ∧ Wf p.2) := by
  intro H enc w fuel cs x h hlt
  obtain ⟨xs, m, rfl, rfl, hl, hx, hel⟩ := DataW.trod_array ht h
  have h0 := hel 0 (by omega)
  have h1 := hel 1 (by omega)
  rw [List.getElem?_eq_getElem (by omega)] at h0 h1
  rw [hc] at h0 h1
  have hwt : ∀ i (hi : i < xs.length), Light P e xs[i].1 := fun i hi n hn => hlt n (by
    have := weights_mem_all (P := P) (e := e) (List.mem_map.2 ⟨_, List.getElem_mem hi, rfl⟩ : xs[i].1 ∈ xs.map (·.1)) n hn
    simpa [DataW.weights, ht] using this)
  obtain ⟨a, ha, wa⟩ := he _ enc w m _ _ h0 (hwt _ _)
  obtain ⟨b, hb, wb⟩ := he _ enc w m _ _ h1 (hwt _ _)
  refine ⟨(a, b), ?_, wa, wb⟩
  have hlen : cs.length = d.sz + d.sz := hl.trans hct
  have hcs : cs = (cs.drop (0 * d.sz)).take d.sz ++ (cs.drop (1 * d.sz)).take d.sz := by
    simp only [Nat.zero_mul, List.drop_zero, Nat.one_mul]
    rw [List.take_of_length_le (l := cs.drop d.sz) (by rw [List.length_drop]; omega)]
    exact (List.take_append_drop d.sz cs).symm
  rw [hcs]
  exact ha.append hb

/-- A struct's fields from the offset off on. -/
def OpensF {α : Type} (P : Program) (off : Nat) (fs : List Field) (d : Kn α) (Wf : α → Prop) : Prop :=
  ∀ (H : Type) (enc : TypeId × Value → H) (w : World) (fuel : Nat) (cs : List Value),
    (∀ f, f ∈ fs → ∃ x : DataW H × List MemPlace, DataW.trod enc P w 0 (fun _ => true) true fuel f.type ((cs.drop f.offset).take (P.cellsOf f.type)) = some x ∧ Light P f.type x.1) → ∃ a : α, Pds (G0 w) w (d.cs a) ((cs.drop off).take d.sz) ∧ Wf a
theorem openf_last {α : Type} {P : Program} {off : Nat} {f : Field} {d : Kn α} {Wf : α → Prop} (ho : f.offset = off) (hc : P.cellsOf f.type = d.sz) (he : OpensK P f.type d Wf) : OpensF P off [f] d Wf := by
  intro H enc w fuel cs h
  obtain ⟨x, hx, hlt⟩ := h f (by simp)
  rw [ho, hc] at hx
  exact he _ enc w fuel _ x hx hlt
theorem openf_cons {α β : Type} {P : Program} {off : Nat} {f : Field} {fs : List Field} {d : Kn α} {d2 : Kn β} {Wf : α → Prop} {Wf2 : β → Prop} (ho : f.offset = off) (hc : P.cellsOf f.type = d.sz) (he : OpensK P f.type d Wf) (hr : OpensF P (off + d.sz) fs d2 Wf2) :
    OpensF P off (f :: fs) (kPair d d2) (fun p => Wf p.1 ∧ Wf2 p.2) := by
  intro H enc w fuel cs h
  obtain ⟨x, hx, hlt⟩ := h f (by simp)
  rw [ho, hc] at hx
  obtain ⟨a, ha, wa⟩ := he _ enc w fuel _ x hx hlt
  obtain ⟨b, hb, wb⟩ := hr _ enc w fuel cs (fun g hg => h g (List.mem_cons_of_mem _ hg))
  refine ⟨(a, b), ?_, wa, wb⟩
  show Pds _ _ _ (List.take (d.sz + d2.sz) _)
  rw [List.take_add, List.drop_drop]
  exact ha.append hb
theorem openk_struct {α : Type} {P : Program} {t : TypeId} {fs : Array Field} {d : Kn α} {Wf : α → Prop} (ht : P.underlying t = some (.struct fs)) (hct : P.cellsOf t = d.sz) (hr : OpensF P 0 fs.toList d Wf) : OpensK P t d Wf := by
  intro H enc w fuel cs x h hlt
  obtain ⟨xs, m, rfl, rfl, hl, hx, hel⟩ := DataW.trod_struct ht h
  obtain ⟨a, ha, wa⟩ := hr _ enc w m cs (fun f hf => by
    obtain ⟨i, hi⟩ := List.mem_iff_getElem?.1 hf
    have h1 : fs[i]? = some f := by simpa using hi
    have h2 : i < xs.length := by
      rw [hx]
      by_cases h3 : i < fs.size
      · exact h3
      · rw [Array.getElem?_eq_none (by omega)] at h1
        cases h1
    exact ⟨xs[i], (hel i f h1).trans (List.getElem?_eq_getElem h2), fun n hn => hlt n (by
      have := DataW.weights_mem_each (P := P) (ts := fs.toList.map (·.type)) (ds := xs.map (·.1)) (j := i) (t := f.type) (d := xs[i].1) (by simp [h1]) (by simp [h2]) n hn
      simpa [DataW.weights, ht] using this)⟩)
  rw [List.drop_zero, List.take_of_length_le (by omega)] at ha
  exact ⟨a, ha, wa⟩
end Go.Proofs.YtmnhfpcbfdgbcaaDoor.Eng
