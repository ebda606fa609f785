/- The engine: maps that are read, ranges over them; arrays as slices, slices as arrays; arrays compared. -/
import Derived.Test.YtjbgddpaclcjfaaDoorEX8
import Derived.Test.YtjbgddpaclcjfaaDoorEX9
import Derived.ChangeKeysEq
import Derived.Sort.Row
namespace Go.Proofs.YtjbgddpaclcjfaaDoor.Eng
set_option linter.unusedVariables false
set_option linter.unusedSimpArgs false
open Go.RowKit
/-! ### Maps that are read -/
def Pd.and (p q : Pd) : Pd := ⟨fun g w v => p.h g w v ∧ q.h g w v, fun hx ⟨a, b⟩ => ⟨p.mono0 hx a, q.mono0 hx b⟩⟩
theorem and_bnd {p q : Pd} {n m : Nat} (h1 : p.Bnd n m) (h2 : q.Bnd n m) : (p.and q).Bnd n m := fun g g' w v a b c ⟨x, y⟩ => ⟨h1 g g' w v a b c x, h2 g g' w v a b c y⟩
theorem and_le1 {p q r : Pd} (h : p.le r) : (p.and q).le r := fun g w v hx => h g w v hx.1
theorem and_le2 {p q r : Pd} (h : q.le r) : (p.and q).le r := fun g w v hx => h g w v hx.2
section
variable {κ ν : Type} [DecidableEq κ] {P : Program} {K : MK κ ν} {f : κ → Option ν} {s : St} {b : Nat} {M M' : Pd}
/-- Entries with their births, as they lie. -/
def mxp (K : MK κ ν) (ls : List ((κ × ν) × Nat)) (c : Nat) : Pd := pl (encM (ls.map (mkE K)) c)
omit [DecidableEq κ] in
theorem mxp_bnd {ls : List ((κ × ν) × Nat)} {c n m : Nat} : (mxp K ls c).Bnd n m := pl_bnd _ _ _
theorem srel_weakM {g : G} {w : World} (hs : SRel g s w) (hB : s.boxes[b]? = some ⟨HOT, [M]⟩) (hM : M.le M') (hb : M'.Bnd s.boxes.length s.fr.length) : SRel g (s.upd b ⟨HOT, [M']⟩) w := by
  obtain ⟨ee, k, h1, h2⟩ := raw_some hs hB
  obtain ⟨x, r, hx, _, h5, _⟩ := raw_at hs hB h1 (fun _ => h2)
  exact h5 (hM _ _ _ hx) hb
theorem aw_weakM {nt : Nat} {c0 : Code} {Q : Exit → Env → St → Prop} {e : Env} (hB : s.boxes[b]? = some ⟨HOT, [M]⟩) (hM : M.le M') (hb : M'.Bnd s.boxes.length s.fr.length) (h : AW P nt c0 Q e (s.upd b ⟨HOT, [M']⟩)) : AW P nt c0 Q e s :=
  fun m r g a w he hs => h m r g a w he (srel_weakM hs hB hM hb)
/-- A map is looked at closely: its entries, with their births. -/
theorem aw_openMM {nt : Nat} {c0 : Code} {Q : Exit → Env → St → Prop} {e : Env} (hB : s.boxes[b]? = some ⟨HOT, [M]⟩) (hM : M.le (mpf K f)) (hb : M.Bnd s.boxes.length s.fr.length)
    (h : ∀ ls c, Rep (ls.map (·.1)) f → Born ls c → AW P nt c0 Q e (s.upd b ⟨HOT, [M.and (mxp K ls c)]⟩)) : AW P nt c0 Q e s := by
  intro m0 r0 g a w he hs
  obtain ⟨ee, k, h1, h2⟩ := raw_some hs hB
  obtain ⟨x, r, hx, _, h5, _⟩ := raw_at hs hB h1 (fun _ => h2)
  obtain ⟨l, hl, es, c, rfl, hE⟩ := hM _ _ _ hx
  obtain ⟨ls, rfl, rfl, q3⟩ := ents_ex hE
  exact h ls c hl q3 m0 r0 g a w he (h5 (q := M.and (mxp K ls c)) ⟨hx, rfl⟩ (and_bnd hb mxp_bnd))
end
section
variable {P : Program} {e : Env} {s : St} {dst : Option Tmp} {ty : TypeId} {pos : String} {after : Array Edge} {guard : Option (Nat × Bool)} {κ ν : Type} [DecidableEq κ] {K : MK κ ν} {f : κ → Option ν} {bs bs' : List Bx} {fs : List Fr} {b : Nat} {M : Pd}
theorem opD_lookupG {t kt et : TypeId} {x y : Operand} {k : κ} {z : Value} (ok : Bool) (ht : P.underlying t = some (.map kt et)) (hK : KL P kt K) (hz : ∀ w, (zeroValue et).run P w = .ok z w) (hx : e.ev x = mref b) (hy : (e.ev y).le (pl (K.ek k))) (hB : s.boxes[b]? = some ⟨HOT, [M]⟩) (hM : M.le (mpf K f)) :
    OpD P ⟨dst, .lookup t x y ok, ty, pos, after, guard⟩ e s (pl (if ok = true then .tuple #[((f k).map K.ev).getD z, .bool (f k).isSome] else ((f k).map K.ev).getD z)) s :=
  opD_look fun g a w ha hs => by
    have e1 := ha x (by simp [Op.operands])
    have e2 := ha y (by simp [Op.operands])
    rw [hx] at e1
    obtain ⟨ee, k0, h1, h2, hv, h4⟩ := e1
    obtain ⟨x0, r, hx0, hh, _⟩ := raw_at hs hB h1 h4
    obtain ⟨l, hl, es, c, rfl, hE⟩ := hM _ _ _ hx0
    rw [rawObj_enc] at hh
    refine ⟨_, ?_, rfl⟩
    show (Sem.bind (Instr.lookup t (a.eval x) (a.eval y) ok) fun v => Sem.pure (Next.value v)).run P w = _
    rw [hv, hy _ _ _ e2, ← hl.2]
    exact run_v (run_lookup ok ht hK (hz w) hh hE)
/-! ### Ranges -/
omit [DecidableEq κ] in
theorem opD_rangeM {t kt et : TypeId} {x : Operand} {c : Nat} {ls : List ((κ × ν) × Nat)} (ht : P.underlying t = some (.map kt et)) (hx : e.ev x = mref b) (hB : s.boxes[b]? = some ⟨HOT, [M]⟩) (hM : M.le (mxp K ls c)) :
    OpD P ⟨dst, .range t x, ty, pos, after, guard⟩ e s (ptv s.boxes.length 1 0) ⟨s.boxes ++ [IT b c []], s.fr, s.stat⟩ :=
  opD_value fun g a w ha hs => by
    have e1 := ha x (by simp [Op.operands])
    rw [hx] at e1
    have e1' := e1
    obtain ⟨ee, k, h1, h2, hv, h4⟩ := e1
    obtain ⟨x0, r, hx0, hh, _⟩ := raw_at hs hB h1 h4
    rw [show x0 = _ from hM _ _ _ hx0, rawObj_enc] at hh
    have hlt : b < s.boxes.length := (List.getElem?_eq_some_iff.1 hB).1
    refine ⟨.pointer (some ⟨w.heap.size, 0, none⟩), g.addBE ⟨some w.heap.size, 1, 0⟩, w.alloc (.mapIter (some k) c #[] c), ?_, ?_, ext_addBE hs _ _ rfl, ?_⟩
    · show (Sem.bind (Instr.range t (a.eval x)) fun v => Sem.pure (Next.value v)).run P w = _
      refine run_v ?_
      rw [hv]
      simp [Instr.range, run_underlying ht, MapKept.run_getObj_map hh, Result.andThen]
    · exact ⟨⟨some w.heap.size, 1, 0⟩, w.heap.size, by
        show (g.box ++ [_])[s.boxes.length]? = _
        rw [← hs.len]; simp, Nat.le_refl _, rfl, fun _ => rfl⟩
    · rw [hv] at e1'
      have := srel_addBE hs (B := IT b c []) (cs := #[encI k c [] c]) (e := ⟨some w.heap.size, 1, 0⟩) rfl (raw_ver _).symm (fun h => by rw [show (IT b c []).ver = 1 from raw_ver _] at h; omega) ⟨⟨k, e1', rfl⟩, trivial⟩ (fun p hp => by simp [IT] at hp; subst hp; exact itp_bnd _ hlt)
      rw [show (IT b c []).obj #[encI k c [] c] = _ from raw_obj _ _, rawObj_encI] at this
      exact this
omit [DecidableEq κ] in
theorem rangeMN {N n : Nat} (hN : s.boxes.length = N) {t kt et : TypeId} {x : Operand} {c : Nat} {ls : List ((κ × ν) × Nat)} (ht : P.underlying t = some (.map kt et)) (hx : e.ev x = mref b) (hB : (s.ext bs fs).boxes[b]? = some ⟨HOT, [M]⟩) (hM : M.le (mxp K ls c)) (hn : bs.length = n) (h' : bs ++ [IT b c []] = bs') :
    OpD P ⟨dst, .range t x, ty, pos, after, guard⟩ e (s.ext bs fs) (ptv (N + n) 1 0) (s.ext bs' fs) := by
  subst hN; subst hn; subst h'
  have := opD_rangeM (dst := dst) (ty := ty) (pos := pos) (after := after) (guard := guard) (s := s.ext bs fs) ht hx hB hM
  rw [ext_boxes_length] at this
  have h2 : (⟨(s.ext bs fs).boxes ++ [IT b c []], (s.ext bs fs).fr, (s.ext bs fs).stat⟩ : St) = s.ext (bs ++ [IT b c []]) fs := by simp [St.ext]
  rw [h2] at this
  exact this
omit [DecidableEq κ] in
theorem opN_nextM {x : Operand} {i c : Nat} {ls : List ((κ × ν) × Nat)} {seen : List Nat} (hx : e.ev x = ptv i 1 0) (hI : s.boxes[i]? = some (IT b c seen)) (hB : s.boxes[b]? = some ⟨HOT, [M]⟩) (hM : M.le (mxp K ls c)) (hb : Born ls c) :
    OpN P ⟨dst, .next x false, ty, pos, after, guard⟩ e s (fun p s' => (p = pl (.tuple #[.bool false]) ∧ s' = s ∧ ∀ y ∈ ls, y.2 ∈ seen) ∨ ∃ y ∈ ls, y.2 ∉ seen ∧ p = pl (.tuple #[.bool true, K.ek y.1.1, K.ev y.1.2]) ∧ s' = s.upd i (IT b c (seen ++ [y.2]))) := by
  intro g a w next Q ha hs hn
  have e1 := ha x (by simp [Op.operands])
  rw [hx] at e1
  obtain ⟨ee, ki, h1, h2, hv, h4⟩ := e1
  have key : ∀ w1, (w1 = w ∨ w1 = w.drew) → Ext g w g w1 ∧ SRel g s w1 := fun w1 hw1 => by
    rcases hw1 with rfl | rfl
    · exact ⟨Ext.refl _ _, hs⟩
    · exact ⟨Ext.drew g w, hs.drew⟩
  obtain ⟨x0, r, ⟨k, hm, rfl⟩, hh, _, hup⟩ := raw_at hs hI h1 h4
  have hm' := hm
  obtain ⟨em, k', m1, m2, m3, m4⟩ := hm
  cases m3
  obtain ⟨x1, r1, hx1, hh1, _⟩ := raw_at hs hB m1 m4
  rw [show x1 = _ from hM _ _ _ hx1, rawObj_enc] at hh1
  rw [rawObj_encI] at hh
  have hlt : b < s.boxes.length := (List.getElem?_eq_some_iff.1 hB).1
  unfold Oper.wp
  rcases run_next_at (P := P) w ty ki k c c seen.toArray _ _ hh hh1 (fun x hx => by
    simp only [List.mem_map] at hx
    obtain ⟨y, hy, rfl⟩ := hx
    exact hb.lt y hy) (Nat.le_refl _) with ⟨hz, hr⟩ | ⟨en, hen, w1, hw1, hr⟩
  · have : (execOp a.eval ⟨dst, .next x false, ty, pos, after, guard⟩).run P w = .ok (.value (.tuple #[.bool false])) w := by
      show (Sem.bind (Instr.next (a.eval x) false ty) fun v => Sem.pure (Next.value v)).run P w = _
      rw [hv]; exact run_v hr
    rw [this]
    refine hn (pl (.tuple #[.bool false])) s _ g w (.inl ⟨rfl, rfl, fun y hy => ?_⟩) rfl (Ext.refl _ _) hs
    have hz' : leftOf ((ls.map (mkE K)).toArray) seen.toArray = #[] := Array.eq_empty_of_size_eq_zero hz
    have h5 := Array.filter_eq_empty_iff.1 hz' (mkE K y) (by simp; exact ⟨_, _, _, hy, rfl⟩)
    simpa [mkE] using h5
  · have hen2 : en ∈ leftOf ((ls.map (mkE K)).toArray) seen.toArray := by simpa using hen
    have h5 := Array.mem_filter.1 hen2
    obtain ⟨y, hy, rfl⟩ : ∃ y ∈ ls, mkE K y = en := by
      have := h5.1
      rw [List.mem_toArray, List.mem_map] at this
      exact this
    have h6 : y.2 ∉ seen := by simpa [mkE] using h5.2
    have : (execOp a.eval ⟨dst, .next x false, ty, pos, after, guard⟩).run P w = .ok (.value (.tuple #[.bool true, K.ek y.1.1, K.ev y.1.2])) { w1 with heap := w1.heap.setIfInBounds ki (.mapIter (some k) c ((seen ++ [y.2]).toArray) c) } := by
      show (Sem.bind (Instr.next (a.eval x) false ty) fun v => Sem.pure (Next.value v)).run P w = _
      rw [hv]
      refine (run_v hr).trans ?_
      simp [mkE, ChangeMaps.setBlock]
    rw [this]
    obtain ⟨q1, q2⟩ := key w1 hw1
    obtain ⟨_, _, _, _, _, hup1⟩ := raw_at q2 hI h1 h4
    obtain ⟨u1, u2⟩ := hup1 (q := itp b c (seen ++ [y.2])) (y := encI k c (seen ++ [y.2]) c) (rawObj_encI _ _ _ _ _) (itp_bnd _ hlt) ⟨k, hm', rfl⟩
    exact hn _ (s.upd i (IT b c (seen ++ [y.2]))) _ g _ (.inr ⟨y, hy, h6, rfl, rfl⟩) rfl (q1.trans u1) u2
omit [DecidableEq κ] in
theorem opD_entryM {x : Operand} {i c : Nat} {ls : List ((κ × ν) × Nat)} {seen : List Nat} {y : (κ × ν) × Nat} (hx : e.ev x = ptv i 1 0) (hI : s.boxes[i]? = some (IT b c (seen ++ [y.2]))) (hB : s.boxes[b]? = some ⟨HOT, [M]⟩) (hM : M.le (mxp K ls c)) (hb : Born ls c) (hy : y ∈ ls) :
    OpD P ⟨dst, .entry x, ty, pos, after, guard⟩ e s (pl (.tuple #[K.ek y.1.1, K.ev y.1.2])) s :=
  opD_look fun g a w ha hs => by
    have e1 := ha x (by simp [Op.operands])
    rw [hx] at e1
    obtain ⟨ee, ki, h1, h2, hv, h4⟩ := e1
    obtain ⟨x0, r, ⟨k, hm, rfl⟩, hh, _, hup⟩ := raw_at hs hI h1 h4
    obtain ⟨em, k', m1, m2, m3, m4⟩ := hm
    cases m3
    obtain ⟨x1, r1, hx1, hh1, _⟩ := raw_at hs hB m1 m4
    rw [show x1 = _ from hM _ _ _ hx1, rawObj_enc] at hh1
    rw [rawObj_encI] at hh
    refine ⟨_, ?_, rfl⟩
    show (Sem.bind (Instr.entry (a.eval x)) fun v => Sem.pure (Next.value v)).run P w = _
    rw [hv]
    refine run_v ?_
    have hin : (List.map (·.born) ((ls.map (mkE K)).toArray.toList)).Nodup := by
      rw [List.toList_toArray, List.map_map]
      exact (List.pairwise_map.2 (hb.inc.imp (fun {a b} h => by show (mkE K a).born ≠ (mkE K b).born; exact Nat.ne_of_lt h)))
    exact run_entry_at (P := P) w ki k c seen.toArray ((ls.map (mkE K)).toArray) c (mkE K y) (by rw [hh]; simp [mkE]) hh1 (by simp; exact ⟨_, _, _, hy, rfl⟩) hin
end
section
variable {P : Program} {e : Env} {s : St} {dst : Option Tmp} {ty : TypeId} {pos : String} {after : Array Edge} {guard : Option (Nat × Bool)} {κ ν : Type} [DecidableEq κ] {K : MK κ ν} {f : κ → Option ν} {b : Nat} {M : Pd}
theorem opD_weakM {o : Oper} {M' p : Pd} {s' : St} (hB : s.boxes[b]? = some ⟨HOT, [M]⟩) (hM : M.le M') (hb : M'.Bnd s.boxes.length s.fr.length) (h : OpD P o e (s.upd b ⟨HOT, [M']⟩) p s') : OpD P o e s p s' :=
  fun g a w next Q ha hs hn => h g a w next Q ha (srel_weakM hs hB hM hb) hn
theorem opD_mapUpdateG {t kt et : TypeId} {x y u : Operand} {k : κ} {v : ν} (ht : P.underlying t = some (.map kt et)) (hK : KL P kt K) (hx : e.ev x = mref b) (hy : (e.ev y).le (pl (K.ek k))) (hu : (e.ev u).le (pl (K.ev v))) (hB : s.boxes[b]? = some ⟨HOT, [M]⟩) (hM : M.le (mpf K f)) :
    OpD P ⟨dst, .mapUpdate t x y u, ty, pos, after, guard⟩ e s any (s.upd b (MF K (fset f k v))) :=
  opD_weakM hB hM (mpf_bnd _ _ _ _) (by
    have := opD_mapUpdateF (dst := dst) (ty := ty) (pos := pos) (after := after) (guard := guard) (s := s.upd b (MF K f)) ht hK hx hy hu (upd_same hB)
    rwa [Go.Proofs.YtjbgddpaclcjfaaDoor.Eng.upd_upd] at this)
theorem opD_deleteG {t kt et : TypeId} {x y : Operand} {k : κ} {ats : Array TypeId} (ha0 : ats[0]? = some t) (ht : P.underlying t = some (.map kt et)) (hK : KL P kt K) (hx : e.ev x = mref b) (hy : (e.ev y).le (pl (K.ek k))) (hB : s.boxes[b]? = some ⟨HOT, [M]⟩) (hM : M.le (mpf K f)) :
    OpD P ⟨dst, .call { callee := .builtin .delete, args := #[x, y], argTypes := ats }, ty, pos, after, guard⟩ e s (pl (.tuple #[])) (s.upd b (MF K (fdel f k))) :=
  opD_weakM hB hM (mpf_bnd _ _ _ _) (by
    have := opD_deleteF (dst := dst) (ty := ty) (pos := pos) (after := after) (guard := guard) (s := s.upd b (MF K f)) ha0 ht hK hx hy (upd_same hB)
    rwa [Go.Proofs.YtjbgddpaclcjfaaDoor.Eng.upd_upd] at this)
theorem opD_clearG {t kt et : TypeId} {x : Operand} (ht : P.underlying t = some (.map kt et)) (hx : e.ev x = mref b) (hB : s.boxes[b]? = some ⟨HOT, [M]⟩) (hM : M.le (mpf K f)) :
    OpD P ⟨dst, .call { callee := .builtin .clear, args := #[x], argTypes := #[t] }, ty, pos, after, guard⟩ e s (pl (.tuple #[])) (s.upd b (MF K fnil)) :=
  opD_weakM hB hM (mpf_bnd _ _ _ _) (by
    have := opD_clearF (dst := dst) (ty := ty) (pos := pos) (after := after) (guard := guard) (s := s.upd b (MF K f)) ht hx (upd_same hB)
    rwa [Go.Proofs.YtjbgddpaclcjfaaDoor.Eng.upd_upd] at this)
theorem aw_weakMX {nt : Nat} {c0 : Code} {Q : Exit → Env → St → Prop} {M' : Pd} {S' : St} (hB : s.boxes[b]? = some ⟨HOT, [M]⟩) (hM : M.le M') (hb : ∀ n m, M'.Bnd n m) (hS : s.upd b ⟨HOT, [M']⟩ = S') (h : AW P nt c0 Q e S') : AW P nt c0 Q e s :=
  aw_weakM hB hM (hb _ _) (hS ▸ h)
theorem aw_openMX {nt : Nat} {c0 : Code} {Q : Exit → Env → St → Prop} (S' : List ((κ × ν) × Nat) → Nat → St) (hB : s.boxes[b]? = some ⟨HOT, [M]⟩) (hM : M.le (mpf K f)) (hb : ∀ n m, M.Bnd n m) (hS : ∀ ls c, s.upd b ⟨HOT, [M.and (mxp K ls c)]⟩ = S' ls c)
    (h : ∀ ls c, Rep (ls.map (·.1)) f → Born ls c → AW P nt c0 Q e (S' ls c)) : AW P nt c0 Q e s :=
  aw_openMM hB hM (hb _ _) fun ls c hr hl => hS ls c ▸ h ls c hr hl
omit [DecidableEq κ] in
theorem opN_nextMX {S' : Nat → St} {x : Operand} {i c : Nat} {ls : List ((κ × ν) × Nat)} {seen : List Nat} (hx : e.ev x = ptv i 1 0) (hI : s.boxes[i]? = some (IT b c seen)) (hB : s.boxes[b]? = some ⟨HOT, [M]⟩) (hM : M.le (mxp K ls c)) (hb : Born ls c) (hS : ∀ n, s.upd i (IT b c (seen ++ [n])) = S' n) :
    OpN P ⟨dst, .next x false, ty, pos, after, guard⟩ e s (fun p s' => (p = tup [pl (.bool false)] ∧ s' = s ∧ ∀ y ∈ ls, y.2 ∈ seen) ∨ ∃ (y : κ × ν) (n : Nat), (y, n) ∈ ls ∧ n ∉ seen ∧ p = tup [pl (.bool true), any, any] ∧ s' = S' n) := by
  intro g a w next Q ha hs hn
  refine opN_nextM (dst := dst) (ty := ty) (pos := pos) (after := after) (guard := guard) hx hI hB hM hb g a w next Q ha hs fun p s' v g' w' hR hp hx' hs' => ?_
  rcases hR with ⟨rfl, rfl, h3⟩ | ⟨⟨y, n⟩, h1, h2, rfl, rfl⟩
  · exact hn (tup [pl (.bool false)]) _ v g' w' (.inl ⟨rfl, rfl, h3⟩) ⟨_, hp, rfl, trivial⟩ hx' hs'
  · exact hn (tup [pl (.bool true), any, any]) _ v g' w' (.inr ⟨y, n, h1, h2, rfl, rfl⟩) ⟨_, hp, rfl, trivial, trivial, trivial⟩ hx' (by rw [← hS n]; exact hs')
omit [DecidableEq κ] in
theorem opD_entryMX {x : Operand} {i c : Nat} {ls : List ((κ × ν) × Nat)} {seen : List Nat} {y : κ × ν} {n : Nat} {pk pv : Pd} (hx : e.ev x = ptv i 1 0) (hI : s.boxes[i]? = some (IT b c (seen ++ [n]))) (hB : s.boxes[b]? = some ⟨HOT, [M]⟩) (hM : M.le (mxp K ls c)) (hb : Born ls c) (hy : (y, n) ∈ ls) (hk : (pl (K.ek y.1)).le pk) (hv : (pl (K.ev y.2)).le pv) :
    OpD P ⟨dst, .entry x, ty, pos, after, guard⟩ e s (tup [pk, pv]) s :=
  opD_le (opD_entryM (y := (y, n)) hx hI hB hM hb hy) fun g w v h => ⟨_, h, hk _ _ _ rfl, hv _ _ _ rfl, trivial⟩
end
/-! ### Loops over entries -/
/-- Round after round, an entry each; none at the end. -/
def lpm {A T O : Type} (body : Option A → T → Option (T ⊕ O)) : List A → T → Option O
  | [], t => bnd (body none t) fun z => ocs z (fun _ => none) fun o => some o
  | x :: q, t => bnd (body (some x) t) fun z => ocs z (fun u => lpm body q u) fun o => some o
section
variable {κ ν : Type} {ls : List ((κ × ν) × Nat)} {sn : List Nat} {c : Nat}
/-- The entries that have not come. -/
def rest (ls : List ((κ × ν) × Nat)) (sn : List Nat) : List (κ × ν) := (ls.filter fun y => decide (y.2 ∉ sn)).map (·.1)
theorem rest_nil (ls : List ((κ × ν) × Nat)) : rest ls [] = ls.map (·.1) := by unfold rest; rw [List.filter_eq_self.2 (by simp)]
theorem rest_end (h : ∀ y ∈ ls, y.2 ∈ sn) : rest ls sn = [] := by
  unfold rest; rw [List.filter_eq_nil_iff.2 (fun y hy => by simpa using h y hy)]; rfl
theorem rest_out {z : (κ × ν) × Nat} {l : List ((κ × ν) × Nat)} (h : ∀ x ∈ l, x.2 ≠ z.2) : (l.filter fun y => decide (y.2 ∉ sn ++ [z.2])) = l.filter fun y => decide (y.2 ∉ sn) :=
  List.filter_congr fun x hx => by simp [h x hx]
theorem rest_put (hi : ls.Pairwise (fun a b => a.2 < b.2)) {y : (κ × ν) × Nat} (hy : y ∈ ls) (hn : y.2 ∉ sn) : (rest ls sn).Perm (y.1 :: rest ls (sn ++ [y.2])) := by
  induction ls with
  | nil => cases hy
  | cons x l ih =>
    obtain ⟨h1, h2⟩ := List.pairwise_cons.1 hi
    by_cases hxy : x.2 = y.2
    · have : x = y := by
        rcases List.mem_cons.1 hy with rfl | hy
        · rfl
        · have := h1 y hy; omega
      subst this
      unfold rest
      rw [List.filter_cons_of_pos (by simpa using hn), List.filter_cons_of_neg (by simp), rest_out fun z hz => by have := h1 z hz; omega]
      exact .refl _
    · have hy' : y ∈ l := by
        rcases List.mem_cons.1 hy with rfl | hy
        · exact absurd rfl hxy
        · exact hy
      have := ih h2 hy'
      unfold rest at this ⊢
      by_cases hx : x.2 ∈ sn
      · rw [List.filter_cons_of_neg (by simpa using hx), List.filter_cons_of_neg (by simp [hx])]; exact this
      · rw [List.filter_cons_of_pos (by simpa using hx), List.filter_cons_of_pos (by simp [hx, hxy])]
        exact (List.Perm.cons _ this).trans (List.Perm.swap _ _ _)
variable {T O : Type} {body : Option (κ × ν) → T → Option (T ⊕ O)} {t : T} {o : O}
variable {Rr : Type} {k : O → Option Rr} {R : Rr}
def LpmK (body : Option (κ × ν) → T → Option (T ⊕ O)) (ls : List ((κ × ν) × Nat)) (sn : List Nat) (t : T) (k : O → Option Rr) (R : Rr) : Prop := ∀ q : List (κ × ν), q.Perm (rest ls sn) → bnd (lpm body q t) k = some R
theorem lpk_end (h : LpmK body ls sn t k R) (hs : ∀ y ∈ ls, y.2 ∈ sn) : ∃ z, body none t = some z ∧ bnd (ocs z (fun _ => none) (fun o => some o)) k = some R := by
  have h0 := h [] (by rw [rest_end hs])
  obtain ⟨x, h1, h2⟩ := bnd_some h0
  obtain ⟨z, h3, h4⟩ := bnd_some (show bnd (body none t) _ = _ from h1)
  exact ⟨z, h3, by rw [h4]; exact h2⟩
theorem lpk_next (h : LpmK body ls sn t k R) (hi : ls.Pairwise (fun a b => a.2 < b.2)) {y : (κ × ν) × Nat} (hy : y ∈ ls) (hn : y.2 ∉ sn) :
    ∃ z, body (some y.1) t = some z ∧ ∀ q : List (κ × ν), q.Perm (rest ls (sn ++ [y.2])) → bnd (ocs z (fun u => lpm body q u) (fun o => some o)) k = some R := by
  have hp := rest_put hi hy hn
  have h1 : ∀ q : List (κ × ν), q.Perm (rest ls (sn ++ [y.2])) → ∃ z, body (some y.1) t = some z ∧ bnd (ocs z (fun u => lpm body q u) (fun o => some o)) k = some R := fun q hq => by
    obtain ⟨x, h1, h2⟩ := bnd_some (h (y.1 :: q) ((List.Perm.cons _ hq).trans hp.symm))
    obtain ⟨z, h3, h4⟩ := bnd_some (show bnd (body (some y.1) t) _ = _ from h1)
    exact ⟨z, h3, by rw [h4]; exact h2⟩
  obtain ⟨z, h2, _⟩ := h1 _ (.refl _)
  refine ⟨z, h2, fun q hq => ?_⟩
  obtain ⟨z', h3, h4⟩ := h1 q hq
  rw [h2] at h3; cases h3; exact h4
theorem lpk_l {u : T} (h : ∀ q : List (κ × ν), q.Perm (rest ls sn) → bnd (ocs (.inl u : T ⊕ O) (fun u => lpm body q u) (fun o => some o)) k = some R) : LpmK body ls sn u k R := h
theorem lpk_e {o2 : O} (h : bnd (ocs (.inr o2 : T ⊕ O) (fun _ => none) (fun o => some o)) k = some R) : k o2 = some R := h
theorem lpk_start [DecidableEq κ] {f : κ → Option ν} (h : ∀ l : List (κ × ν), Rep l f → bnd (lpm body l t) k = some R) (hr : Rep (ls.map (·.1)) f) : LpmK body ls [] t k R := fun q hq =>
  h q (rep_of_perm hr (by rw [rest_nil] at hq; exact hq))
theorem enm_k [DecidableEq κ] {f : κ → Option ν} {g : List (κ × ν) → Option O} (h : enm f (fun l => bnd (g l) k) = some R) : ∃ K : O → Option Rr, K = k ∧ ∀ l : List (κ × ν), Rep l f → bnd (g l) K = some R := ⟨k, rfl, fun l hl => enm_some h l hl⟩
theorem rest_lt (hi : ls.Pairwise (fun a b => a.2 < b.2)) {y : (κ × ν) × Nat} (hy : y ∈ ls) (hn : y.2 ∉ sn) : (rest ls (sn ++ [y.2])).length < (rest ls sn).length := by
  rw [(rest_put hi hy hn).length_eq]; simp
end
/-! ### An array's variable as a slice: it is sealed -/
/-- A variable's block is sealed, and the variable dead. -/
theorem srel_seal0 {g : G} {s : St} {w : World} {b kk n : Nat} {e : BE} {B : Bx} (hs : SRel g s w) (hB : s.boxes[b]? = some B) (hT : Nat.blt B.t HOT = true) (he : g.box[b]? = some e) (hk : e.blk = some kk) (h0 : g.sld kk = 0) :
    Ext g w ⟨fun x => if x = kk then n else g.sld x, g.box, g.own, g.base⟩ w ∧ SRel ⟨fun x => if x = kk then n else g.sld x, g.box, g.own, g.base⟩ (s.upd b ⟨B.t, []⟩) w := by
  have hx : Ext g w ⟨fun x => if x = kk then n else g.sld x, g.box, g.own, g.base⟩ w :=
    ⟨rfl, rfl, rfl, Nat.le_refl _, fun x => by show g.sld x ≤ if x = kk then n else g.sld x; split <;> first | (subst_vars; omega) | exact Nat.le_refl _, fun _ _ _ => rfl, fun _ e h => ⟨e, h, Nat.le_refl _, fun _ => rfl⟩, fun _ h => .inl h, fun _ _ h => h, fun _ _ h => .inl h, fun _ _ _ _ _ => rfl, rfl, fun _ _ h _ _ => h⟩
  refine ⟨hx, ?_⟩
  have hbl : b < s.boxes.length := (List.getElem?_eq_some_iff.1 hB).1
  obtain ⟨e1, vs1, q1, q2, q3, q4, q5, q6⟩ := hs.bx b B hB
  rw [he] at q1; cases q1
  refine ⟨by show g.box.length = (s.boxes.set b _).length; rw [List.length_set]; exact hs.len, hs.nd, fun j C hC => ?_, fun c id n' ho => ?_, fun c hn => ?_, s.stat.mono hx hs.st, hs.sb, hs.bz⟩
  · replace hC : (s.boxes.set b ⟨B.t, []⟩)[j]? = some C := hC
    show ∃ e vs, g.box[j]? = some e ∧ _
    by_cases hj : j = b
    · subst hj
      rw [List.getElem?_set_self hbl] at hC; cases hC
      refine ⟨e, vs1, he, q2, ?_, trivial, fun q hq => ⟨fun hl => ?_, (q5 q hq).2⟩, fun p hp => by cases hp⟩
      · unfold Cont at q3 ⊢
        rw [hk] at q3 ⊢
        exact q3
      · rcases hl with hl | ⟨hl, _⟩
        · exact absurd rfl hl
        · have : (⟨B.t, []⟩ : Bx).ver = 0 := ver_plain hT
          omega
    · rw [List.getElem?_set_ne (Ne.symm hj)] at hC
      obtain ⟨f, us, r1, r2, r3, r4, r5, r6⟩ := hs.bx j C hC
      refine ⟨f, us, r1, r2, r3, r4.mono hx, fun q hq => ?_, fun p hp => by show p.Bnd (s.boxes.set b _).length _; rw [List.length_set]; exact r6 p hp⟩
      have hne : q ≠ kk := fun h => hj (hs.nd j b f e q r1 he hq (h ▸ hk))
      show (C.live → (if q = kk then n else g.sld q) = 0) ∧ _
      rw [if_neg hne]; exact r5 q hq
  · obtain ⟨f, cs, r1, r2, r3, r4⟩ := hs.ow c id n' ho
    refine ⟨f, cs, r1, r2, r3, ?_⟩
    have hne : c ≠ kk := fun h => by
      subst h
      have := (q5 c hk).2.1
      rw [show g.own c = some (id, n') from ho] at this; cases this
    show (if c = kk then n else g.sld c) ≤ _
    rw [if_neg hne]; exact r4
  · by_cases hc : c = kk
    · subst hc; exact q3.lt hk
    · exact hs.sl c (by
        have : (if c = kk then n else g.sld c) ≠ 0 := hn
        rwa [if_neg hc] at this)
section
variable {P : Program} {e : Env} {s : St} {dst : Option Tmp} {ty : TypeId} {pos : String} {after : Array Edge} {guard : Option (Nat × Bool)} {α : Type} {k : Kn α} {l : List α} {b : Nat}
theorem opD_sliceArr {at_ te : TypeId} {x : Operand} {n : Nat} (ht : P.underlying at_ = some (.array n te)) (hsz : sizeT P te = some k.sz) (hz : 0 < k.sz) (hT : Nat.blt at_ HOT = true) (hx : e.ev x = ptr b 0) (hB : s.boxes[b]? = some ⟨at_, flat k l⟩) (hl : l.length = n) (hn : 0 < n) :
    OpD P ⟨dst, .slice at_ x none none none, ty, pos, after, guard⟩ e s (sl k none (some false) l) (s.upd b ⟨at_, []⟩) :=
  opD_value fun g a w ha hs => by
    have e1 := ha x (by simp [Op.operands])
    rw [hx] at e1
    have hne : flat k l ≠ [] := fun h => by
      have h1 := congrArg List.length h
      rw [flat_length] at h1
      have := Nat.mul_pos (show 0 < l.length by omega) hz
      simp at h1; omega
    obtain ⟨e0, kk, vs, hv, hk, hb, h3, h3b, h4, h5, h6⟩ := ptv_at hs e1 hB (ver_plain hT) hne
    rw [obj_cells hT] at h3
    obtain ⟨hx0, hS⟩ := srel_seal0 (n := (flat k l).length) hs hB hT hk hb h5
    refine ⟨.slice (some ⟨kk, 0, none⟩) n n, _, w, ?_, ⟨some ⟨kk, 0, none⟩, n, by rw [hl], by omega, fun b hb => (by cases hb; rfl), fun h => (by cases h), fun _ => ⟨kk, 0, rfl, slCells_of_flat fun q p hq => ?_⟩, fun _ h => by cases h⟩, hx0, hS⟩
    · show (Sem.bind (Instr.sliceAt at_ (a.eval x) none none none) fun v => Sem.pure (Next.value v)).run P w = _
      rw [hv]
      refine run_v ?_
      simp [Instr.sliceAt, run_underlying ht, Instr.sureAddr, Instr.sliceBounds, Result.andThen, run_sizeOf hsz]
      exact fun _ => rfl
    · obtain ⟨v, q1, q2⟩ := h4.get q p hq
      have hq2 := (List.getElem?_eq_some_iff.1 hq).1
      refine ⟨?_, v, ?_, p.mono hx0 q2⟩
      · show 0 + q < if kk = kk then _ else _
        rw [if_pos rfl]; omega
      · rw [Nat.zero_add, box_cell (g := g) h3]; simpa using q1
/-- A slice's first elements, as an array. -/
theorem opD_s2a {at_ te : TypeId} {x : Operand} {n : Nat} {o : Option Nat} {nl : Option Bool} (ht : P.underlying at_ = some (.array n te)) (hx : (e.ev x).le (sl k o nl l)) (hl : n ≤ l.length) (hn : 0 < n) :
    OpD P ⟨dst, .sliceToArrayPointer at_ x, ty, pos, after, guard⟩ e s (el k l 0 0) s :=
  opD_look fun g a w ha hs => by
    obtain ⟨A, c, hv, hlc, hA, hnl, hc, _⟩ := hx _ _ _ (ha x (by simp [Op.operands]))
    obtain ⟨b, off, rfl, hsc⟩ := hc (fun h => by subst h; simp at hl; omega)
    refine ⟨.pointer (some ⟨b, off, none⟩), ?_, b, off, by simp, hsc⟩
    show (Sem.bind (Instr.arrayAt at_ (a.eval x)) fun v => Sem.pure (Next.value v)).run P w = _
    rw [hv]
    refine run_v ?_
    simp [Instr.arrayAt, run_underlying ht, Result.andThen, Nat.not_lt.2 hl]
theorem opD_loadArr {t : TypeId} {x : Operand} {n m : Nat} (ht : aggT P t = some true) (hsz : sizeT P t = some m) (hm : n * k.sz = m) (hx : e.ev x = el k l 0 0) (hl : n ≤ l.length) :
    OpD P ⟨dst, .load t x, ty, pos, after, guard⟩ e s (agg (flat k (l.take n))) s :=
  opD_look fun g a w ha hs => by
    have h1 := ha x (by simp [Op.operands])
    rw [hx] at h1
    obtain ⟨b, o, hv, hsc⟩ := h1
    obtain ⟨vs, q1, q2, q3, q4⟩ := (hsc.part 0 n).vals
    simp only [Nat.zero_mul, Nat.add_zero, List.drop_zero] at q1 q2 q3
    have hl2 : vs.length = m := by rw [q1, List.length_take, Nat.min_eq_left hl, hm]
    refine ⟨.agg vs.toArray, ?_, vs.toArray, rfl, by simpa using q3⟩
    have := run_loadVar_agg ht hsz (cs := vs) hl2 q2
    refine run_load ?_ this
    rw [hv]; simp
end
/-! ### Arrays compared -/
section
variable {P : Program} {e : Env} {s : St} {dst : Option Tmp} {ty : TypeId} {pos : String} {after : Array Edge} {guard : Option (Nat × Bool)}
theorem eq_items {t : TypeId} {ik : IntKind} {w : World} {d : Nat} (ht : P.underlying t = some (.int ik)) (hag : aggT P t = some false) : ∀ (l m : List Int) (xs ys : Array Value) (is : List Nat), (∀ (j i : Nat), is[j]? = some i → xs[i * 1]? = (l[j]?).map (Value.int ik) ∧ ys[i * 1]? = (m[j]?).map (Value.int ik)) →
    l.length = is.length → m.length = is.length → (Op.eqItems (d + 1) t 1 xs ys is).run P w = .ok (decide (l = m)) w
  | [], [], xs, ys, [], h, hl, hm => by simp [Op.eqItems]
  | [], _, xs, ys, i :: is, h, hl, hm => by simp at hl
  | _ :: _, _, xs, ys, [], h, hl, hm => by simp at hl
  | _, [], xs, ys, i :: is, h, hl, hm => by simp at hm
  | [], _ :: _, xs, ys, [], h, hl, hm => by simp at hm
  | a :: l, b :: m, xs, ys, i :: is, h, hl, hm => by
    obtain ⟨h1, h2⟩ := h 0 i rfl
    have ih := eq_items (d := d) (w := w) ht hag l m xs ys is (fun j i' hj => by
      obtain ⟨q2, q3⟩ := h (j + 1) i' (by simpa using hj)
      exact ⟨by simpa using q2, by simpa using q3⟩) (by simpa using hl) (by simpa using hm)
    simp only [Op.eqItems, Sem.run_bind, run_part_one hag (show xs[i * 1]? = some (Value.int ik a) from by simpa using h1), run_part_one hag (show ys[i * 1]? = some (Value.int ik b) from by simpa using h2), Result.andThen, run_equalIn_int w d t ik ik a b ht]
    by_cases hab : a = b
    · subst hab; simp [ih]
    · simp [hab]
theorem eq_arr {at_ t : TypeId} {ik : IntKind} {n : Nat} {i : TypeInfo} (hu : P.underlying at_ = some (.array n t)) (hi : P.info? t = some i) (hc : P.cellsOf t = 1) (ht : P.underlying t = some (.int ik)) (hag : aggT P t = some false) {l m : List Int} (hl : l.length = n) (hm : m.length = n) (w : World) :
    (Op.equalIn 10000 at_ (.agg (l.map (Value.int ik)).toArray) (.agg (m.map (Value.int ik)).toArray)).run P w = .ok (decide (l = m)) w := by
  rw [show (10000 : Nat) = 9999 + 1 from rfl, run_equalIn_array w 9999 _ _ hu hi, hc, show (9999 : Nat) = 9998 + 1 from rfl]
  refine eq_items ht hag l m _ _ (List.range n) (fun j i hj => ?_) (by simpa using hl) (by simpa using hm)
  have hjl := (List.getElem?_eq_some_iff.1 hj).1
  simp only [List.length_range] at hjl
  rw [List.getElem?_range hjl] at hj; cases hj
  simp
theorem opD_neArr {at_ t : TypeId} {ik : IntKind} {n : Nat} {x y : Operand} (hu : P.underlying at_ = some (.array n t)) (hc : P.cellsOf t = 1) (ht : P.underlying t = some (.int ik)) (hag : aggT P t = some false) (hg : P.eqGuardType P.depth at_ = false) {l m : List Int}
    (hx : e.ev x = agg (flat (kI ik) l)) (hy : e.ev y = agg (flat (kI ik) m)) (hl : l.length = n) (hm : m.length = n) : OpD P ⟨dst, .binOp .neq at_ x y at_, ty, pos, after, guard⟩ e s (pl (.bool (!decide (l = m)))) s :=
  opD_look fun g a w ha hs => by
    have h1 := flat_ple (k := kI ik) (f := Value.int ik) (fun _ => rfl) l g w _ (by have := ha x (by simp [Op.operands]); rw [hx] at this; exact this)
    have h2 := flat_ple (k := kI ik) (f := Value.int ik) (fun _ => rfl) m g w _ (by have := ha y (by simp [Op.operands]); rw [hy] at this; exact this)
    obtain ⟨i, hi⟩ := info_of_underlying ht
    have h3 := eq_arr hu hi hc ht hag hl hm w
    replace h1 : a.eval x = _ := h1
    replace h2 : a.eval y = _ := h2
    exact ⟨_, by generalize a.eval = ρ at h1 h2 ⊢; simp only [execOp, h1, h2]; simp [go_sem, run_eqGuard_agg, hg, h3, Result.andThen], rfl⟩
end
/-! ### The end of a piece that changes objects -/
theorem wk_yesL {s : St} {N : Nat} {l0 : List (Nat × Bx)} (l1 : List (Nat × Bx)) (hN : s.boxes.length = N) {bs0 bs bs1 bs' : List Bx} {fs0 fs fs' : List Fr} {k j : Nat} {l : List (Nat × Pd)} {e : Env} {Q : Exit → Env → St → Prop} {x : Exit}
    (hk1 : l1.map (·.1) = l0.map (·.1)) (ha : AllB (N + k) (s.fr.length + j) l1) (hH : Holds e l) (hl : ∀ p ∈ l.map (·.2), p.Bnd (N + k) (s.fr.length + j)) (hj : j ≤ fs.length)
    (hk0 : bs.take k = bs1) (hk' : BxLe bs1 bs') (hkl : bs'.length = k) (hj' : fs.take j = fs') (hb : ∀ B ∈ bs', ∀ q ∈ B.cs, q.Bnd (N + k) (s.fr.length + j)) (hq : Q x (Env.of l) ((s.updL l1).ext bs' fs')) :
    WkQ (N + k) ((s.updL l0).fr.length + j) ((s.updL l0).ext bs0 fs0) Q x e ((s.updL l1).ext bs fs) := by
  have hf0 : (s.updL l0).fr.length = s.fr.length := by rw [updL_fr]
  exact wk_yesU (u := s.updL l1) (u0 := s.updL l0) ((updL_len _ _).trans hN) ⟨by rw [updL_fr, updL_fr], by rw [updL_stat, updL_stat]⟩ (updL_ok (by rw [hf0]; exact ha) hk1) ((updL_len _ _).trans hN) hH (by rw [hf0]; exact hl) hj hk0 hk' hkl hj' (by rw [hf0]; exact hb) hq
theorem done_updLNS {P : Program} {e : Env} {s : St} {p : Pd} {bs : List Bx} {fs : List Fr} {l : List (Nat × Bx)} {fn : Func} {x : Exit} {n : Nat} (hA : AllAt s l) (hn : s.boxes.length + bs.length = n) (hx : x = .normal ∨ x = .ret) (hr : Res P fn e ((s.updL l).ext bs fs) p) (hbn : p.Bnd n s.fr.length) (hB : ∀ B ∈ bs, ∀ q ∈ B.cs, q.Bnd n s.fr.length) :
    Done P fn s n s.fr.length p (s.ext bs []) x e ((s.updL l).ext bs fs) := by
  rw [updL_self hA] at hr ⊢
  exact done_updLN (l := []) hn trivial hx hr hbn hB
theorem kb_pair {α β : Type} {a : Kn α} {b : Kn β} (ha : KB a) (hb : KB b) : KB (kPair a b) := fun x n m p hp => by
  rcases List.mem_append.1 hp with h | h
  · exact ha _ _ _ p h
  · exact hb _ _ _ p h
end Go.Proofs.YtjbgddpaclcjfaaDoor.Eng

/- The engine: slices.Sort on a row in place; a map's clone. -/
namespace Go.Proofs.YtjbgddpaclcjfaaDoor.Eng
set_option linter.unusedVariables false
set_option linter.unusedSimpArgs false
open Go.RowKit Go.Sort
def isort (l : List Int) : List Int := l.mergeSort fun x y => decide (x ≤ y)
theorem isort_perm (l : List Int) : (isort l).Perm l := List.mergeSort_perm _ _
theorem isort_len (l : List Int) : (isort l).length = l.length := (isort_perm l).length_eq
theorem isort_asc (l : List Int) : (isort l).Pairwise (· ≤ ·) := by
  have := List.pairwise_mergeSort (le := fun x y : Int => decide (x ≤ y)) (fun a b c h1 h2 => by simp at *; omega) (fun a b => by simp; omega) l
  exact this.imp fun h => by simpa using h
theorem flatK_one (zs : Array Int) : flatK (fun x => [Value.int .i64 x]) 1 zs = zs.map (Value.int .i64) := by
  apply Array.ext (by simp [size_flatK])
  intro i h1 h2
  have h3 : i < zs.size := by simpa using h2
  have h4 := get_flatK (fun x => [Value.int .i64 x]) 1 zs i (by omega)
  rw [getElem!_pos _ i h1] at h4
  rw [h4]
  simp [Nat.mod_one, h3]
theorem putRow_one (zs : Array Int) (w : World) (b : Nat) : putRow (Value.int .i64) w b 0 zs = putRowK (fun x => [Value.int .i64 x]) 1 w b 0 zs := by
  unfold putRowK
  rw [flatK_one]
  unfold putRow
  congr 1
  funext c
  unfold putCells
  congr 1
  funext k x
  by_cases hk : k < zs.size
  · simp [hk]
  · simp [hk]
theorem holds_one {w : World} {b : Nat} {zs : Array Int} (h : HoldsK (fun x => [Value.int .i64 x]) 1 w b 0 zs) : Go.Sort.Holds (Value.int .i64) w b 0 zs := by
  intro j hj
  have := h j (by rw [flatK_one]; simpa using hj)
  rw [flatK_one] at this
  simpa [hj] using this
theorem ac_sort1 {P : Program} {f : FuncId}
    (hC : ∀ (blk cap : Nat) (zs : List Int) (w : World), Go.Sort.Holds (Value.int .i64) w blk 0 zs.toArray → blk < w.heap.size → zs.length < 4611686018427387904 → Calls P f #[.slice (some ⟨blk, 0, none⟩) zs.length cap] w fun e w' => e = .returned (.tuple #[]) ∧ ∃ n os, w' = grow (putRow (Value.int .i64) (Sort.ahead w n) blk 0 (isort zs).toArray) os)
    (hN : ∀ (A : Option Addr) (cap : Nat) (w : World), Calls P f #[.slice A 0 cap] w fun e w' => e = .returned (.tuple #[]) ∧ w' = w)
    {i r te : Nat} {l : List Int} {s : St} (hte : Nat.blt te HOT = true) (hr : 2 ≤ r) (hev : r % 2 = 0) (hB : s.boxes[i]? = some ⟨hot te r, flat (kI .i64) l⟩) (hl : l.length < 4611686018427387904) :
    AC P f [hsl i r 0 l.length (kI .i64).sz] s (pl (.tuple #[])) (s.upd i ⟨hot te r, flat (kI .i64) (isort l)⟩) := by
  intro g w vs hps hs
  obtain ⟨v1, rfl⟩ : ∃ v1, vs = [v1] := by
    match vs, hps with
    | [a], _ => exact ⟨a, rfl⟩
    | [], h => exact h.elim
    | _ :: _ :: _, h => exact h.2.elim
  obtain ⟨h1, _⟩ := hps
  rcases hot_sort (enc := fun x => [Value.int .i64 x]) (k := kI .i64) (fun _ => rfl) (kb_I _) hte hr hev (by decide) hs hB h1 with ⟨A, rfl, rfl⟩ | ⟨blk, cap, rfl, hlt, hH, hfin⟩
  · refine (hN A 0 w).mono ?_
    rintro e w' ⟨rfl, rfl⟩
    refine ⟨_, g, rfl, rfl, Ext.refl _ _, ?_⟩
    have h3 : s.upd i ⟨hot te r, flat (kI .i64) (isort [])⟩ = s := by
      rw [show isort [] = [] from List.length_eq_zero_iff.1 (isort_len [])]; exact upd_self hB
    rw [h3]; exact hs
  · refine (hC blk cap l w (holds_one hH) hlt hl).mono ?_
    rintro e w' ⟨rfl, n, os, rfl⟩
    obtain ⟨x1, x2⟩ := hfin n (isort l).toArray os (by simp [isort_len])
    rw [putRow_one]
    exact ⟨_, g, rfl, rfl, x1, x2⟩
theorem ac_mclone {P : Program} {f : FuncId} {κ ν : Type} [DecidableEq κ] {K : MK κ ν} {fm : κ → Option ν} {M : Pd}
    (hC : ∀ (b : Nat) (es : Array MapEntry) (clock : Nat) (w : World), w.heap[b]? = some (.map es clock) → Calls P f #[.map (some b)] w fun e w' => e = .returned (.map (some w.heap.size)) ∧ w' = w.alloc (.map es clock))
    {i N : Nat} {s : St} (hN : s.boxes.length = N) (hB : s.boxes[i]? = some ⟨HOT, [M]⟩) (hM : M.le (mpf K fm)) : AC P f [mref i] s (mref (N + 0)) (s.ext [⟨HOT, [mpf K fm]⟩] []) := by
  subst hN
  intro g w vs hps hs
  obtain ⟨v1, rfl⟩ : ∃ v1, vs = [v1] := by
    match vs, hps with
    | [a], _ => exact ⟨a, rfl⟩
    | [], h => exact h.elim
    | _ :: _ :: _, h => exact h.2.elim
  obtain ⟨⟨ee, k, h1, h2, rfl, h4⟩, _⟩ := hps
  obtain ⟨x0, r, hx0, hh, _⟩ := raw_at hs hB h1 h4
  obtain ⟨l, hl, es, c, rfl, hE⟩ := hM _ _ _ hx0
  rw [rawObj_enc] at hh
  refine (hC k _ _ w hh).mono ?_
  rintro e w' ⟨rfl, rfl⟩
  refine ⟨_, g.addBE ⟨some w.heap.size, 1, 0⟩, rfl, ?_, ext_addBE hs _ _ rfl, ?_⟩
  · exact ⟨⟨some w.heap.size, 1, 0⟩, w.heap.size, by
      show (g.box ++ [_])[s.boxes.length + 0]? = _
      rw [Nat.add_zero, ← hs.len]; simp, Nat.le_refl _, rfl, fun _ => rfl⟩
  · have := srel_addBE hs (B := ⟨HOT, [mpf K fm]⟩) (cs := #[encM es c]) (e := ⟨some w.heap.size, 1, 0⟩) rfl (raw_ver _).symm (fun h => by rw [raw_ver] at h; omega) ⟨⟨l, hl, es, c, rfl, hE⟩, trivial⟩ (fun p hp => by simp at hp; subst hp; exact mpf_bnd _ _ _ _)
    rw [raw_obj, show (#[encM es c] : Array Value).toList = [encM es c] from rfl, rawObj_enc] at this
    have h2 : (⟨s.boxes ++ [⟨HOT, [mpf K fm]⟩], s.fr, s.stat⟩ : St) = s.ext [⟨HOT, [mpf K fm]⟩] [] := by simp [St.ext]
    rw [← h2]; exact this
end Go.Proofs.YtjbgddpaclcjfaaDoor.Eng
