/- The engine: maps, as variables whose one cell tells all entries. -/
import Derived.Test.YtokcgacehdgkcaaDoorEX5
import Derived.MapKept
import Derived.Maps.RangeRun
namespace Go.Proofs.YtokcgacehdgkcaaDoor.Eng
set_option linter.unusedVariables false
set_option linter.unusedSimpArgs false
open Go.RowKit

structure MK (κ ν : Type) where
  ek : κ → Value
  ev : ν → Value
def encE (e : MapEntry) : List Value := [e.key, e.val, .int .i64 e.born]
def encM (es : List MapEntry) (c : Nat) : Value := .agg (.int .i64 c :: .int .i64 es.length :: es.flatMap encE).toArray
theorem ents_enc : ∀ es : List MapEntry, entsOf es.length (es.flatMap encE) = es
  | [] => rfl
  | e :: es => by
    have := ents_enc es
    simp only [List.length_cons, List.flatMap_cons, encE, List.cons_append, List.nil_append, entsOf, Int.toNat_natCast]
    exact congrArg (e :: ·) this
theorem rawObj_enc (es : List MapEntry) (c : Nat) (r : List Value) : rawObj (encM es c :: r) = .map es.toArray c := by
  simp only [rawObj, encM, Int.toNat_natCast, ents_enc]
structure Ents {κ ν : Type} (K : MK κ ν) (l : List (κ × ν)) (es : List MapEntry) (c : Nat) : Prop where
  kv : es.map (fun e => (e.key, e.val)) = l.map (fun x => (K.ek x.1, K.ev x.2))
  inc : es.Pairwise (fun a b => a.born < b.born)
  lt : ∀ e ∈ es, e.born < c
/-- A map's entries. -/
def mp {κ ν : Type} (K : MK κ ν) (l : List (κ × ν)) : Pd := ⟨fun _ _ v => ∃ es c, v = encM es c ∧ Ents K l es c, fun _ h => h⟩
theorem mp_bnd {κ ν : Type} (K : MK κ ν) (l : List (κ × ν)) (n m : Nat) : (mp K l).Bnd n m := fun _ _ _ _ _ _ _ h => h
/-- The map that lies in a variable. -/
def mref (b : Nat) : Pd := ⟨fun g _ v => ∃ e k, g.box[b]? = some e ∧ 1 ≤ e.ver ∧ v = .map (some k) ∧ (e.ver = 1 → e.blk = some k), by
  rintro g w g' w' v hx ⟨e, k, h1, h2, h3, h4⟩
  obtain ⟨e', h5, h6, h7⟩ := hx.box b e h1
  exact ⟨e', k, h5, by omega, h3, fun h => by
    have := h7 (by omega)
    subst this; exact h4 h⟩⟩
theorem mref_bnd {b n : Nat} (m : Nat) (h : b < n) : (mref b).Bnd n m := fun _ _ _ _ _ hb _ ⟨e, k, hk, hv⟩ => ⟨e, k, hb b e h hk, hv⟩
section
variable {κ ν : Type} {K : MK κ ν} {l : List (κ × ν)} {es : List MapEntry} {c : Nat}
theorem Ents.keys (h : Ents K l es c) : es.map (·.key) = l.map (fun x => K.ek x.1) := by
  have := congrArg (List.map Prod.fst) h.kv
  simpa [List.map_map, Function.comp_def] using this
theorem Ents.len (h : Ents K l es c) : es.length = l.length := by have := congrArg List.length h.kv; simpa using this
theorem Ents.at (h : Ents K l es c) {i : Nat} {x : κ × ν} (hx : l[i]? = some x) : ∃ e, es[i]? = some e ∧ e.key = K.ek x.1 ∧ e.val = K.ev x.2 := by
  have h1 := congrArg (fun l => l[i]?) h.kv
  simp only [List.getElem?_map, hx, Option.map_some] at h1
  obtain ⟨e, he, h2⟩ := Option.map_eq_some_iff.1 h1
  simp only [Prod.mk.injEq] at h2
  exact ⟨e, he, h2.1, h2.2⟩
theorem ents_set (h : Ents K l es c) {i : Nat} {k : κ} {v v' : ν} (hi : l[i]? = some (k, v')) : Ents K (l.set i (k, v)) (es.modify i fun e => { e with key := K.ek k, val := K.ev v }) c := by
  have hb : (es.modify i fun e => { e with key := K.ek k, val := K.ev v }).map (·.born) = es.map (·.born) := by
    apply List.ext_getElem?
    intro j
    simp only [List.getElem?_map, List.getElem?_modify]
    by_cases hij : i = j
    · subst hij; cases es[i]? <;> simp
    · simp [hij]
  refine ⟨?_, ?_, fun e he => ?_⟩
  · apply List.ext_getElem?
    intro j
    have h1 := congrArg (fun l => l[j]?) h.kv
    simp only [List.getElem?_map] at h1
    simp only [List.getElem?_map, List.getElem?_modify, List.getElem?_set]
    by_cases hij : i = j
    · subst hij
      have hl := (List.getElem?_eq_some_iff.1 hi).1
      cases he : es[i]? with
      | none => rw [he, hi] at h1; simp at h1
      | some e => simp [hl]
    · simp only [hij, if_false, ite_false]; simpa using h1
  · have := List.pairwise_map.2 h.inc
    rw [← hb] at this
    exact List.pairwise_map.1 this
  · have : e.born ∈ es.map (·.born) := by rw [← hb]; exact List.mem_map_of_mem he
    obtain ⟨e2, h2, h3⟩ := List.mem_map.1 this
    rw [← h3]; exact h.lt _ h2
theorem ents_push (h : Ents K l es c) (k : κ) (v : ν) : Ents K (l ++ [(k, v)]) (es ++ [{ key := K.ek k, val := K.ev v, born := c }]) (c + 1) := by
  refine ⟨by simp [h.kv], List.pairwise_append.2 ⟨h.inc, List.pairwise_singleton _ _, fun a ha b hb => ?_⟩, fun e he => ?_⟩
  · rw [List.mem_singleton.1 hb]; exact h.lt a ha
  · rcases List.mem_append.1 he with he | he
    · have := h.lt e he; omega
    · rw [List.mem_singleton.1 he]; simp
theorem ents_nil : Ents K [] [] 0 := ⟨rfl, .nil, fun e h => by cases h⟩
end
section
variable {κ ν : Type} [DecidableEq κ]
def mIdx (l : List (κ × ν)) (k : κ) : Option Nat := l.findIdx? fun x => decide (x.1 = k)
def mget (l : List (κ × ν)) (k : κ) : Option ν := (mIdx l k).bind fun i => (l[i]?).map (·.2)
def mset (l : List (κ × ν)) (k : κ) (v : ν) : List (κ × ν) := match mIdx l k with | some i => l.set i (k, v) | none => l ++ [(k, v)]
theorem mIdx_some {l : List (κ × ν)} {k : κ} {i : Nat} (h : mIdx l k = some i) : ∃ v, l[i]? = some (k, v) := by
  unfold mIdx at h
  obtain ⟨h1, h2, _⟩ := List.findIdx?_eq_some_iff_getElem.1 h
  refine ⟨l[i].2, ?_⟩
  rw [List.getElem?_eq_getElem h1]
  have : l[i].1 = k := by simpa using h2
  rw [← this]
/-- What a key's type must keep. -/
structure KL (P : Program) (kt : TypeId) (K : MK κ ν) : Prop where
  chk : ∀ b k w, (Instr.checkKey b 10000 kt (K.ek k)).run P w = .ok () w
  find : ∀ k (l : List (κ × ν)) (es : List MapEntry) w, es.map (·.key) = l.map (fun x => K.ek x.1) → (Instr.findKey kt (K.ek k) es).run P w = .ok ((mIdx l k).bind fun i => (es[i]?).map fun e => (i, e.val)) w
  same : ∀ k, Instr.sameBits 10000 (K.ek k) (K.ek k) = true
variable {P : Program} {K : MK κ ν} {l : List (κ × ν)} {es : List MapEntry} {c : Nat}
theorem find_res (h : Ents K l es c) (k : κ) : ((mIdx l k).bind fun i => (es[i]?).map fun e => (i, e.val)) = (mIdx l k).bind fun i => (l[i]?).map fun x => (i, K.ev x.2) := by
  cases hi : mIdx l k with
  | none => rfl
  | some i =>
    obtain ⟨v, hv⟩ := mIdx_some hi
    obtain ⟨e, he, _, h2⟩ := h.at hv
    simp [he, hv, h2]
theorem run_lookup {t kt et : TypeId} {k : κ} {w : World} {r : Nat} {z : Value} (ok : Bool) (ht : P.underlying t = some (.map kt et)) (hK : KL P kt K) (hz : (zeroValue et).run P w = .ok z w) (hb : w.heap[r]? = some (.map es.toArray c)) (hE : Ents K l es c) :
    (Instr.lookup t (.map (some r)) (K.ek k) ok).run P w = .ok (if ok = true then .tuple #[((mget l k).map K.ev).getD z, .bool (mget l k).isSome] else ((mget l k).map K.ev).getD z) w := by
  have hf := hK.find k l es w hE.keys
  rw [find_res hE] at hf
  unfold mget
  cases hi : mIdx l k with
  | none =>
    rw [hi] at hf
    simp [Instr.lookup, run_underlying ht, MapKept.run_getObj_map hb, hK.chk, hf, hz, Result.andThen]
  | some i =>
    obtain ⟨v, hv⟩ := mIdx_some hi
    rw [hi] at hf
    simp only [Option.bind_some, hv, Option.map_some] at hf
    simp [Instr.lookup, run_underlying ht, MapKept.run_getObj_map hb, hK.chk, hf, Result.andThen, hv]
theorem run_mapUpdate {t kt et : TypeId} {k : κ} {v : ν} {w : World} {r : Nat} (ht : P.underlying t = some (.map kt et)) (hK : KL P kt K) (hb : w.heap[r]? = some (.map es.toArray c)) (hE : Ents K l es c) :
    ∃ es' c', (Instr.mapUpdate t (.map (some r)) (K.ek k) (K.ev v)).run P w = .ok () { w with heap := w.heap.setIfInBounds r (.map es'.toArray c') } ∧ Ents K (mset l k v) es' c' := by
  have hf := hK.find k l es w hE.keys
  unfold mset
  cases hi : mIdx l k with
  | none =>
    rw [hi] at hf
    refine ⟨es ++ [{ key := K.ek k, val := K.ev v, born := c }], c + 1, ?_, ents_push hE k v⟩
    simp [Instr.mapUpdate, run_underlying ht, MapKept.run_getObj_map hb, hK.chk, hf, MapKept.run_setObj_map _ hb, Result.andThen]
  | some i =>
    obtain ⟨v', hv⟩ := mIdx_some hi
    obtain ⟨e, he, h1, h2⟩ := hE.at hv
    rw [hi] at hf
    simp only [Option.bind_some, he, Option.map_some] at hf
    refine ⟨es.modify i fun e => { e with key := K.ek k, val := K.ev v }, c, ?_, ents_set hE hv⟩
    simp [Instr.mapUpdate, run_underlying ht, MapKept.run_getObj_map hb, hK.chk, hf, MapKept.run_setObj_map _ hb, Result.andThen, Instr.keyThatStays, he, h1, hK.same]
end
end Go.Proofs.YtokcgacehdgkcaaDoor.Eng

/- The engine: what is done with maps. -/
namespace Go.Proofs.YtokcgacehdgkcaaDoor.Eng
set_option linter.unusedVariables false
set_option linter.unusedSimpArgs false
open Go.RowKit

/-- A map's variable. -/
def MB {κ ν : Type} (K : MK κ ν) (l : List (κ × ν)) : Bx := ⟨HOT, [mp K l]⟩
theorem mb_ver {κ ν : Type} (K : MK κ ν) (l : List (κ × ν)) : (MB K l).ver = 1 := Nat.div_self (n := HOT) (by decide)
theorem mb_obj {κ ν : Type} {K : MK κ ν} {l : List (κ × ν)} (vs : Array Value) : (MB K l).obj vs = rawObj vs.toList := by
  have h : Nat.beq (HOT / HOT) 1 = true := by rw [Nat.div_self (by decide)]; rfl
  unfold Bx.obj MB
  simp only [h, if_true]
theorem setObj_other (w : World) (o : Obj) {k b : Nat} (h : b ≠ k) : ({ w with heap := w.heap.setIfInBounds k o } : World).heap[b]? = w.heap[b]? := by
  show (w.heap.setIfInBounds k o)[b]? = _
  simp [Ne.symm h]
theorem ext_setObj {g : G} {s : St} {w : World} (h : SRel g s w) {k : Nat} (hk : g.isB k) (h0 : g.sld k = 0) (o : Obj) : Ext g w g { w with heap := w.heap.setIfInBounds k o } := by
  refine ⟨rfl, rfl, rfl, by simp, fun _ => Nat.le_refl _, fun b off ho => ?_, fun _ e h => ⟨e, h, Nat.le_refl _, fun _ => rfl⟩, fun _ h => .inl h, fun _ _ h => h, fun _ _ h => .inl h, fun b _ hb hn _ => setObj_other w o fun h => hn (h ▸ hk), rfl, fun b _ h _ hn => (setObj_other (b := b) w o fun e => hn (e.symm ▸ hk)).trans h⟩
  have hbk : b ≠ k := fun h => by subst h; omega
  exact World.cell?_of_block (w := w) (setObj_other w o hbk)
theorem mref_at {g : G} {s : St} {w : World} {κ ν : Type} {K : MK κ ν} {l : List (κ × ν)} {b : Nat} {v : Value} (hs : SRel g s w) (hB : s.boxes[b]? = some (MB K l)) (hv : (mref b).h g w v) :
    ∃ k es c, v = .map (some k) ∧ w.heap[k]? = some (.map es.toArray c) ∧ Ents K l es c ∧ ∀ {ν' : Type} {K' : MK κ ν'} {l' : List (κ × ν')} {es' : List MapEntry} {c' : Nat}, Ents K' l' es' c' →
      Ext g w g { w with heap := w.heap.setIfInBounds k (.map es'.toArray c') } ∧ SRel g (s.upd b (MB K' l')) { w with heap := w.heap.setIfInBounds k (.map es'.toArray c') } := by
  obtain ⟨e, k, h1, h2, rfl, h4⟩ := hv
  obtain ⟨e1, k1, vs, r1, r2, r3, r4, r5, r6, r7, r8, r9, r10⟩ := hs.at hB (fun h => by cases h)
  rw [h1] at r1; cases r1
  have hv1 : e.ver = 1 := r3.trans (mb_ver K l)
  have hk := h4 hv1
  rw [r2] at hk; cases hk
  obtain ⟨x, hx1, hx2⟩ := r6.get 0 (mp K l) rfl
  obtain ⟨es, c, rfl, hE⟩ := hx2
  have hvs : vs.toList = encM es c :: vs.toList.drop 1 := by
    cases hl : vs.toList with
    | nil => rw [hl] at hx1; cases hx1
    | cons y r => rw [hl] at hx1; simp at hx1; rw [hx1]; rfl
  rw [mb_obj, hvs, rawObj_enc] at r4
  refine ⟨k, es, c, rfl, r4, hE, fun {ν' K' l' es' c'} hE' => ?_⟩
  have hx := ext_setObj hs ⟨b, e, h1, r2⟩ r7 (.map es'.toArray c')
  refine ⟨hx, ?_⟩
  have hlt : k < w.heap.size := (Array.getElem?_eq_some_iff.1 r4).1
  refine srel_put (B' := MB K' l') (e' := e) (cs := #[encM es' c']) hs hB h1 hx ⟨rfl, rfl, rfl⟩ (set_self h1).symm r2 (hv1.trans (mb_ver K' l').symm) (fun h => ?_) (.inl r2) (fun b _ hb => setObj_other w _ hb) ?_ r7 ?_ (fun p hp => ?_)
  · rw [mb_ver] at h; omega
  · show (w.heap.setIfInBounds k _)[k]? = _
    rw [mb_obj, rawObj_enc]; simp [hlt]
  · exact ⟨⟨es', c', rfl, hE'⟩, trivial⟩
  · simp [MB] at hp; subst hp; exact mp_bnd _ _ _ _
section
variable {P : Program} {e : Env} {s : St} {dst : Option Tmp} {ty : TypeId} {pos : String} {after : Array Edge} {guard : Option (Nat × Bool)} {κ ν : Type} {K : MK κ ν} {l : List (κ × ν)} {bs bs' : List Bx} {fs : List Fr}
theorem opD_makeMap {t : TypeId} : OpD P ⟨dst, .makeMap t none, ty, pos, after, guard⟩ e s (mref s.boxes.length) ⟨s.boxes ++ [MB K []], s.fr, s.stat⟩ :=
  opD_value fun g a w _ hs => by
    refine ⟨.map (some w.heap.size), g.addBE ⟨some w.heap.size, 1, 0⟩, w.alloc (.map #[] 0), ?_, ?_, ext_addBE hs _ _ rfl, ?_⟩
    · show (Sem.bind (Instr.makeMap t none) fun v => Sem.pure (Next.value v)).run P w = _
      refine run_v ?_
      simp [Instr.makeMap, Result.andThen]
    · exact ⟨⟨some w.heap.size, 1, 0⟩, w.heap.size, by
        show (g.box ++ [_])[s.boxes.length]? = _
        rw [← hs.len]; simp, Nat.le_refl _, rfl, fun _ => rfl⟩
    · have := srel_addBE hs (B := MB K []) (cs := #[encM [] 0]) (e := ⟨some w.heap.size, 1, 0⟩) rfl (mb_ver K []).symm (fun h => by rw [mb_ver] at h; omega) ⟨⟨[], 0, rfl, ents_nil⟩, trivial⟩ (fun p hp => by simp [MB] at hp; subst hp; exact mp_bnd _ _ _ _)
      rw [mb_obj] at this
      exact this
theorem opD_makeMapX {t : TypeId} {n : Nat} (hn : bs.length = n) (h' : bs ++ [MB K []] = bs') : OpD P ⟨dst, .makeMap t none, ty, pos, after, guard⟩ e (s.ext bs fs) (mref (s.boxes.length + n)) (s.ext bs' fs) := by
  subst hn; subst h'
  have := opD_makeMap (P := P) (e := e) (dst := dst) (ty := ty) (pos := pos) (after := after) (guard := guard) (s := s.ext bs fs) (K := K) (t := t)
  rw [ext_boxes_length] at this
  simpa [St.ext] using this
variable [DecidableEq κ]
theorem opD_mapUpdate {t kt et : TypeId} {x y u : Operand} {b : Nat} {k : κ} {v : ν} (ht : P.underlying t = some (.map kt et)) (hK : KL P kt K) (hx : e.ev x = mref b) (hy : (e.ev y).le (pl (K.ek k))) (hu : (e.ev u).le (pl (K.ev v))) (hB : s.boxes[b]? = some (MB K l)) :
    OpD P ⟨dst, .mapUpdate t x y u, ty, pos, after, guard⟩ e s any (s.upd b (MB K (mset l k v))) :=
  opD_skip fun g a w ha hs => by
    have e1 := ha x (by simp [Op.operands])
    have e2 := ha y (by simp [Op.operands])
    have e3 := ha u (by simp [Op.operands])
    rw [hx] at e1
    obtain ⟨k0, es, c, hv, hh, hE, hup⟩ := mref_at hs hB e1
    obtain ⟨es', c', hr, hE'⟩ := run_mapUpdate (k := k) (v := v) ht hK hh hE
    refine ⟨g, _, ?_, (hup hE').1, (hup hE').2⟩
    show (Sem.bind (Instr.mapUpdate t (a.eval x) (a.eval y) (a.eval u)) fun _ => Sem.pure Next.skip).run P w = _
    rw [hv, hy _ _ _ e2, hu _ _ _ e3]
    exact run_u hr
end
end Go.Proofs.YtokcgacehdgkcaaDoor.Eng

/- The engine: rows that are read and written in place, element by element. -/
namespace Go.Proofs.YtokcgacehdgkcaaDoor.Eng
set_option linter.unusedVariables false
set_option linter.unusedSimpArgs false
open Go.RowKit

section
variable {P : Program} {e : Env} {s : St} {dst : Option Tmp} {ty : TypeId} {pos : String} {after : Array Edge} {guard : Option (Nat × Bool)} {bs bs' : List Bx} {fs : List Fr}
theorem opD_indexAddr_h {b r n sz i : Nat} {x ix : Operand} {t te : TypeId} {kk : IntKind} {m : Int} {cs : List Pd} (ht : P.underlying t = some (.slice te)) (hsz : sizeT P te = some sz) (hte : Nat.blt te HOT = true) (hB : s.boxes[b]? = some ⟨hot te r, cs⟩)
    (hx : e.ev x = hsl b r 0 n sz) (hi : e.ev ix = pl (.int kk m)) (hm : m = (i : Int)) (hl : i < n) : OpD P ⟨dst, .indexAddr t x ix, ty, pos, after, guard⟩ e s (ptv b r (i * sz)) s :=
  opD_look fun g a w ha hs => by
    have h1 := ha x (by simp [Op.operands])
    have h2 := ha ix (by simp [Op.operands])
    rw [hx] at h1
    rw [hi] at h2
    obtain ⟨e0, A, c, q1, q2, hv, hnc, hA, hb⟩ := h1
    obtain ⟨ee', vs, r1, r2, _⟩ := hs.bx b _ hB
    rw [q1] at r1; cases r1
    have hb := hb (by rw [r2]; exact hot_ver hte)
    have h2' : a.eval ix = .int kk m := h2
    subst hm
    rcases hb with ⟨_, hc0⟩ | ⟨k, hk, rfl, _⟩
    · omega
    · refine ⟨.pointer (some ⟨k, i * sz, none⟩), ?_, e0, k, q1, q2, rfl, fun _ => hk⟩
      show (Sem.bind (Instr.indexAt t (a.eval x) (a.eval ix)) fun v => Sem.pure (Next.value v)).run P w = _
      rw [hv, h2']
      refine run_v ?_
      have hl' : (i : Int) < (n : Int) := by omega
      simp [Instr.indexAt, asIntOf, run_underlying ht, hl, run_sizeOf hsz, Addr.add_lit]
theorem opD_load1_h {t te : TypeId} {x : Operand} {b r off : Nat} {cs : List Pd} {p : Pd} (ht : aggT P t = some false) (hte : Nat.blt te HOT = true) (hr : 2 ≤ r) (hx : e.ev x = ptv b r off) (hB : s.boxes[b]? = some ⟨hot te r, cs⟩) (hp : cs[off]? = some p) :
    OpD P ⟨dst, .load t x, ty, pos, after, guard⟩ e s p s :=
  opD_look fun g a w ha hs => by
    have h1 := ha x (by simp [Op.operands])
    rw [hx] at h1
    obtain ⟨e0, k, vs, hv, hk, hb, h3, _, h4, _⟩ := ptv_at hs h1 hB (hot_ver hte) (by intro h; rw [show cs = [] from h] at hp; cases hp)
    rw [hot_obj hte hr] at h3
    obtain ⟨v, hv2, hp2⟩ := h4.get off p hp
    refine ⟨v, ?_, hp2⟩
    have hc : w.cell? ⟨k, off, none⟩ = some v := by rw [box_cell (g := g) h3]; simpa using hv2
    exact run_load hv (run_loadVar_one ht hc)
theorem opD_loadA_h {t te : TypeId} {n : Nat} {x : Operand} {b r off : Nat} {cs qs : List Pd} (ht : aggT P t = some true) (hn : sizeT P t = some n) (hte : Nat.blt te HOT = true) (hr : 2 ≤ r) (hx : e.ev x = ptv b r off) (hB : s.boxes[b]? = some ⟨hot te r, cs⟩) (hl : off + n ≤ cs.length) (hn0 : 0 < n) (hq : (cs.drop off).take n = qs) :
    OpD P ⟨dst, .load t x, ty, pos, after, guard⟩ e s (agg qs) s :=
  opD_look fun g a w ha hs => by
    subst hq
    have h1 := ha x (by simp [Op.operands])
    rw [hx] at h1
    obtain ⟨e0, k, vs, hv, hk, hb, h3, _, h4, _⟩ := ptv_at hs h1 hB (hot_ver hte) (by intro h; rw [show cs = [] from h] at hl; simp at hl; omega)
    rw [hot_obj hte hr] at h3
    have hvl := h4.len
    have hvl2 : cs.length ≤ vs.size := by simpa using hvl
    refine ⟨.agg ((vs.toList.drop off).take n).toArray, ?_, _, rfl, by simpa using (h4.drop off).part (n := n) (by rw [List.length_drop]; show n ≤ cs.length - off; omega)⟩
    have hc : ∀ j v, ((vs.toList.drop off).take n)[j]? = some v → w.cell? ((⟨k, off, none⟩ : Addr).add j) = some v := by
      intro j v hj
      rw [Addr.add_lit, box_cell (g := g) h3]
      have hjl := (List.getElem?_eq_some_iff.1 hj).1
      simp only [List.length_take, List.length_drop] at hjl
      rw [List.getElem?_take_of_lt (by omega), List.getElem?_drop] at hj
      simpa using hj
    have := run_loadVar_agg ht hn (cs := (vs.toList.drop off).take n) (by have h9 : cs.length ≤ vs.toList.length := hvl; rw [List.length_take, List.length_drop]; omega) hc
    exact run_load hv this
theorem opD_storeA_h {t te : TypeId} {n : Nat} {x y : Operand} {b r off : Nat} {cs ps cs' : List Pd} (hn : sizeT P t = some n) (hte : Nat.blt te HOT = true) (hr : 2 ≤ r) (hx : e.ev x = ptv b r off) (hy : e.ev y = agg ps) (h1 : ∀ p ∈ ps, p.One) (hB : s.boxes[b]? = some ⟨hot te r, cs⟩) (hps : ps.length = n) (hl : off + n ≤ cs.length) (hn0 : 0 < n)
    (hb : ∀ p ∈ ps, p.Bnd s.boxes.length s.fr.length) (hc' : cs.take off ++ ps ++ cs.drop (off + n) = cs') : OpD P ⟨dst, .store t x y, ty, pos, after, guard⟩ e s any (s.upd b ⟨hot te r, cs'⟩) :=
  opD_skip fun g a w ha hs => by
    subst hc'
    have e1 := ha x (by simp [Op.operands])
    have e2 := ha y (by simp [Op.operands])
    rw [hx] at e1
    rw [hy] at e2
    have hne : (⟨hot te r, cs⟩ : Bx).cs ≠ [] := fun h => by rw [show cs = [] from h] at hl; simp at hl; omega
    have hv0 : (⟨hot te r, cs⟩ : Bx).ver = r := hot_ver hte
    obtain ⟨e0, k, vs, hv, hk, hkb, h3, hcn, h4, h5, h6, _, h7⟩ := ptv_at hs e1 hB hv0 hne
    rw [hot_obj hte hr] at h3
    obtain ⟨us, hv2, hp⟩ := e2
    have hvl := h4.len
    have hvs : cs.length ≤ vs.size := by simpa using hvl
    have hpl := hp.length
    have hc : (a.eval y).cells = us := by rw [hv2]; rfl
    have hrun := run_storeVar (P := P) (v := a.eval y) hn (by rw [hc, ← hps, ← hpl]; simp) (by rw [hc]; intro u hu; exact one_agg_mem h1 hp u (by simpa using hu)) h3 (off := off) (by omega)
    refine ⟨g, w.setRow k (vs.toList.take off ++ (a.eval y).cells.toList ++ vs.toList.drop (off + n)).toArray, ?_, ext_setRow hs ⟨b, e0, hk, hkb⟩ h5 _, srel_setCells hs hB hk hkb (by rw [show (⟨hot te r, cs⟩ : Bx).t = hot te r from rfl, hot_mod hte]; exact h3) (by rw [hv0]; cases hq : Nat.beq r 1 with | false => rfl | true => have := Nat.eq_of_beq_eq_true hq; omega) h5 (fun h => ?_) ?_ ?_⟩
    · show (Sem.bind (Instr.storeAt t (a.eval x) (a.eval y)) fun _ => Sem.pure Next.skip).run P w = _
      rw [hv]
      exact run_u hrun
    · have h8 : vs.size = e0.cnt := hcn h
      rw [hc]
      simp
      have hu : us.size = n := by rw [← hps, ← hpl]; simp
      omega
    · rw [hc]
      exact PdsP.append ((h4.part (n := off) (by show off ≤ cs.length; omega)).append hp) (h4.drop (off + n))
    · intro q hq
      rcases List.mem_append.1 hq with hq | hq
      · rcases List.mem_append.1 hq with hq | hq
        · exact h7 q (List.mem_of_mem_take hq)
        · exact hb q hq
      · exact h7 q (List.mem_of_mem_drop hq)
/-- An element of a row. -/
theorem flat_elem {α : Type} {k : Kn α} {l : List α} {i : Nat} {x : α} (h : l[i]? = some x) : ((flat k l).drop (i * k.sz)).take k.sz = k.cs x := by
  rw [flat_drop, List.drop_eq_getElem_cons (List.getElem?_eq_some_iff.1 h).1, (List.getElem?_eq_some_iff.1 h).2]
  show (List.flatMap k.cs (x :: _)).take k.sz = _
  rw [List.flatMap_cons, List.take_append_of_le_length (by rw [k.len]; exact Nat.le_refl _), List.take_of_length_le (by rw [k.len]; exact Nat.le_refl _)]
theorem flat_put {α : Type} {k : Kn α} {l : List α} {i : Nat} {x : α} (h : i < l.length) : (flat k l).take (i * k.sz) ++ k.cs x ++ (flat k l).drop (i * k.sz + k.sz) = flat k (l.set i x) := by
  rw [show i * k.sz + k.sz = (i + 1) * k.sz by rw [Nat.add_mul, Nat.one_mul], flat_take, flat_drop, List.set_eq_take_append_cons_drop, if_pos h, flat_append]
  show flat k (l.take i) ++ k.cs x ++ _ = flat k (l.take i) ++ List.flatMap k.cs (x :: l.drop (i + 1))
  rw [List.flatMap_cons, List.append_assoc]; rfl
theorem elem_lt {α : Type} {k : Kn α} {l : List α} {i : Nat} (h : i < l.length) : i * k.sz + k.sz ≤ (flat k l).length := by
  rw [flat_length]
  have : (i + 1) * k.sz ≤ l.length * k.sz := Nat.mul_le_mul_right _ h
  rw [Nat.add_mul, Nat.one_mul] at this; exact this
/-- A whole element, read and written. -/
theorem loadE {α : Type} {k : Kn α} {l : List α} {t : TypeId} {b r i : Nat} {x : Operand} {y : α} (ht : aggT P t = some true) (hn : sizeT P t = some k.sz) (hte : Nat.blt t HOT = true) (hr : 2 ≤ r) (hz : 0 < k.sz) (hx : e.ev x = ptv b r (i * k.sz)) (hB : s.boxes[b]? = some ⟨hot t r, flat k l⟩) (hi : l[i]? = some y) :
    OpD P ⟨dst, .load t x, ty, pos, after, guard⟩ e s (agg (k.cs y)) s := opD_loadA_h ht hn hte hr hx hB (elem_lt (List.getElem?_eq_some_iff.1 hi).1) hz (flat_elem hi)
theorem storeE {α : Type} {k : Kn α} {l : List α} {t : TypeId} {b r i : Nat} {x u : Operand} {y : α} (hn : sizeT P t = some k.sz) (hte : Nat.blt t HOT = true) (hr : 2 ≤ r) (hz : 0 < k.sz) (hx : e.ev x = ptv b r (i * k.sz)) (hu : e.ev u = agg (k.cs y)) (hB : s.boxes[b]? = some ⟨hot t r, flat k l⟩) (hi : i < l.length) (hkb : ∀ x n m, ∀ p ∈ k.cs x, p.Bnd n m) :
    OpD P ⟨dst, .store t x u, ty, pos, after, guard⟩ e s any (s.upd b ⟨hot t r, flat k (l.set i y)⟩) := opD_storeA_h hn hte hr hx hu (fun p hp => k.one y p hp) hB (k.len y) (elem_lt hi) hz (fun p hp => hkb y _ _ p hp) (flat_put hi)
end
end Go.Proofs.YtokcgacehdgkcaaDoor.Eng

/- The engine: one goes through a map. -/
namespace Go.Proofs.YtokcgacehdgkcaaDoor.Eng
set_option linter.unusedVariables false
set_option linter.unusedSimpArgs false
open Go.RowKit

theorem raw_ver (p : Pd) : (⟨HOT, [p]⟩ : Bx).ver = 1 := Nat.div_self (n := HOT) (by decide)
theorem raw_obj (p : Pd) (vs : Array Value) : (⟨HOT, [p]⟩ : Bx).obj vs = rawObj vs.toList := by
  have h : Nat.beq (HOT / HOT) 1 = true := by rw [Nat.div_self (by decide)]; rfl
  unfold Bx.obj
  simp only [h, if_true]
/-- What lies in a raw box, and how it is changed. -/
theorem raw_at {g : G} {s : St} {w : World} {b k : Nat} {e : BE} {p : Pd} (hs : SRel g s w) (hB : s.boxes[b]? = some ⟨HOT, [p]⟩) (h1 : g.box[b]? = some e) (h4 : e.ver = 1 → e.blk = some k) :
    ∃ x r, p.h g w x ∧ w.heap[k]? = some (rawObj (x :: r)) ∧ (∀ {q : Pd}, q.h g w x → q.Bnd s.boxes.length s.fr.length → SRel g (s.upd b ⟨HOT, [q]⟩) w) ∧ ∀ {q : Pd} {y : Value} {o : Obj}, rawObj [y] = o → q.Bnd s.boxes.length s.fr.length →
      q.h g { w with heap := w.heap.setIfInBounds k o } y → Ext g w g { w with heap := w.heap.setIfInBounds k o } ∧ SRel g (s.upd b ⟨HOT, [q]⟩) { w with heap := w.heap.setIfInBounds k o } := by
  obtain ⟨e1, k1, vs, r1, r2, r3, r4, r5, r6, r7, r8, r9, r10⟩ := hs.at hB (fun h => by cases h)
  rw [h1] at r1; cases r1
  have hv1 : e.ver = 1 := r3.trans (raw_ver p)
  have hk := h4 hv1
  rw [r2] at hk; cases hk
  obtain ⟨x, hx1, hx2⟩ := r6.get 0 p rfl
  have hvs : vs.toList = x :: vs.toList.drop 1 := by
    cases hl : vs.toList with
    | nil => rw [hl] at hx1; cases hx1
    | cons y r => rw [hl] at hx1; simp at hx1; rw [hx1]; rfl
  rw [raw_obj] at r4
  have r4' := r4
  rw [hvs] at r4'
  refine ⟨x, _, hx2, r4', fun {q} hq hbq => ?_, fun {q y o} ho hbq hq => ?_⟩
  · refine srel_put (B' := ⟨HOT, [q]⟩) (e' := e) (cs := vs) hs hB h1 (Ext.refl _ _) ⟨rfl, rfl, rfl⟩ (set_self h1).symm r2 (hv1.trans (raw_ver q).symm) (fun h => ?_) (.inl r2) (fun _ _ _ => rfl) ?_ r7 ?_ (fun p hp => ?_)
    · rw [raw_ver] at h; omega
    · rw [raw_obj]; exact r4
    · rw [hvs]; exact ⟨hq, trivial⟩
    · simp at hp; subst hp; exact hbq
  · have hx := ext_setObj hs ⟨b, e, h1, r2⟩ r7 o
    have hlt : k < w.heap.size := (Array.getElem?_eq_some_iff.1 r4).1
    refine ⟨hx, srel_put (B' := ⟨HOT, [q]⟩) (e' := e) (cs := #[y]) hs hB h1 hx ⟨rfl, rfl, rfl⟩ (set_self h1).symm r2 (hv1.trans (raw_ver q).symm) (fun h => ?_) (.inl r2) (fun b _ hb => setObj_other w _ hb) ?_ r7 ?_ (fun p hp => ?_)⟩
    · rw [raw_ver] at h; omega
    · show (w.heap.setIfInBounds k _)[k]? = _
      rw [raw_obj, ← ho]; simp [hlt]
    · exact ⟨hq, trivial⟩
    · simp at hp; subst hp; exact hbq
section
variable {P : Program} {nt : Nat} {c0 : Code} {Q : Exit → Env → St → Prop} {e : Env} {s : St} {κ ν : Type} {K : MK κ ν}
theorem raw_some {g : G} {s : St} {w : World} {b : Nat} {p : Pd} (hs : SRel g s w) (hB : s.boxes[b]? = some ⟨HOT, [p]⟩) : ∃ e k, g.box[b]? = some e ∧ e.blk = some k := by
  obtain ⟨e1, k1, vs, r1, r2, _⟩ := hs.at hB (fun h => by cases h)
  exact ⟨e1, k1, r1, r2⟩
end
end Go.Proofs.YtokcgacehdgkcaaDoor.Eng

/- Maps as lists of entries: what is got, set, deleted. -/
namespace Go.Proofs.YtokcgacehdgkcaaDoor.Eng
set_option linter.unusedVariables false
set_option linter.unusedSimpArgs false
variable {κ ν : Type} [DecidableEq κ] {l : List (κ × ν)} {k j : κ} {v w : ν}
theorem mIdx_cons (a : κ) (w : ν) (l : List (κ × ν)) (k : κ) : mIdx ((a, w) :: l) k = if a = k then some 0 else (mIdx l k).map (· + 1) := by
  unfold mIdx
  rw [List.findIdx?_cons]
  by_cases h : a = k <;> simp [h]
theorem mget_cons (a : κ) (w : ν) (l : List (κ × ν)) (k : κ) : mget ((a, w) :: l) k = if a = k then some w else mget l k := by
  unfold mget
  rw [mIdx_cons]
  by_cases h : a = k
  · simp [h]
  · rw [if_neg h, if_neg h]
    cases mIdx l k <;> simp
theorem mset_nil : mset ([] : List (κ × ν)) k v = [(k, v)] := rfl
theorem mset_cons (a : κ) (w : ν) (l : List (κ × ν)) (k : κ) (v : ν) : mset ((a, w) :: l) k v = if a = k then (k, v) :: l else (a, w) :: mset l k v := by
  unfold mset
  rw [mIdx_cons]
  by_cases h : a = k
  · simp [h]
  · rw [if_neg h, if_neg h]
    cases mIdx l k <;> simp
theorem mget_set (l : List (κ × ν)) (k j : κ) (v : ν) : mget (mset l k v) j = if k = j then some v else mget l j := by
  induction l with
  | nil => rw [mset_nil, mget_cons]
  | cons x l ih =>
    obtain ⟨a, w⟩ := x
    rw [mset_cons, mget_cons]
    by_cases h : a = k
    · subst h
      rw [if_pos rfl, mget_cons]
      by_cases h2 : a = j <;> simp [h2]
    · rw [if_neg h, mget_cons, ih]
      by_cases h2 : a = j
      · subst h2; rw [if_pos rfl, if_neg (Ne.symm h), if_pos rfl]
      · rw [if_neg h2, if_neg h2]
theorem mset_keys (l : List (κ × ν)) (k : κ) (v : ν) : (mset l k v).map (·.1) = if k ∈ l.map (·.1) then l.map (·.1) else l.map (·.1) ++ [k] := by
  induction l with
  | nil => rfl
  | cons x l ih =>
    obtain ⟨a, w⟩ := x
    rw [mset_cons]
    by_cases h : a = k
    · subst h; simp
    · rw [if_neg h, List.map_cons, ih]
      by_cases h2 : k ∈ l.map (·.1)
      · rw [if_pos h2, if_pos (by simp at h2 ⊢; exact .inr h2)]; rfl
      · rw [if_neg h2, if_neg (by simp at h2 ⊢; exact ⟨Ne.symm h, h2⟩)]; rfl
theorem mset_nodup (h : (l.map (·.1)).Nodup) (k : κ) (v : ν) : ((mset l k v).map (·.1)).Nodup := by
  rw [mset_keys]
  split
  · exact h
  · next hn => exact List.nodup_append.2 ⟨h, by simp, fun a ha b hb => by simp at hb; subst hb; exact fun e => hn (e ▸ ha)⟩
end Go.Proofs.YtokcgacehdgkcaaDoor.Eng
