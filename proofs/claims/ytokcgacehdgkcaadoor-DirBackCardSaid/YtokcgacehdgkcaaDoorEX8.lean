/- The engine: objects of several variables. -/
import Derived.Test.YtokcgacehdgkcaaDoorEX7
import Derived.Test.YtokcgacehdgkcaaDoorEX6
namespace Go.Proofs.YtokcgacehdgkcaaDoor.Eng
set_option linter.unusedVariables false
set_option linter.unusedSimpArgs false
open Go.RowKit
/-- Variables with other cells. -/
def St.updL (s : St) : List (Nat × Bx) → St
  | [] => s
  | x :: l => (s.updL l).upd x.1 x.2
theorem updL_len (s : St) : ∀ l : List (Nat × Bx), (s.updL l).boxes.length = s.boxes.length
  | [] => rfl
  | x :: l => by rw [St.updL, upd_boxes_length, updL_len s l]
theorem updL_fr (s : St) : ∀ l : List (Nat × Bx), (s.updL l).fr = s.fr
  | [] => rfl
  | x :: l => updL_fr s l
theorem updL_stat (s : St) : ∀ l : List (Nat × Bx), (s.updL l).stat = s.stat
  | [] => rfl
  | x :: l => updL_stat s l
def NeA (g : Nat) : List Nat → Prop
  | [] => True
  | h :: t => g ≠ h ∧ NeA g t
/-- Names of variables: each another one. -/
def UD (n : Nat) : List Nat → Prop
  | [] => True
  | g :: t => g < n ∧ NeA g t ∧ UD n t
theorem NeA.of {g h : Nat} : ∀ {l : List Nat} {k : Nat}, NeA g l → l[k]? = some h → g ≠ h
  | [], k, _, hk => by simp at hk
  | a :: l, 0, hn, hk => by simp at hk; exact hk ▸ hn.1
  | a :: l, k + 1, hn, hk => NeA.of (l := l) (k := k) hn.2 (by simpa using hk)
theorem UD.lt {n g : Nat} : ∀ {l : List Nat} {k : Nat}, UD n l → l[k]? = some g → g < n
  | [], k, _, hk => by simp at hk
  | a :: l, 0, hn, hk => by simp at hk; exact hk ▸ hn.1
  | a :: l, k + 1, hn, hk => UD.lt (l := l) (k := k) hn.2.2 (by simpa using hk)
theorem UD.up {n m : Nat} (h : n ≤ m) : ∀ {l : List Nat}, UD n l → UD m l
  | [], _ => trivial
  | a :: l, hn => ⟨Nat.lt_of_lt_of_le hn.1 h, hn.2.1, UD.up h hn.2.2⟩
def AllB (n m : Nat) : List (Nat × Bx) → Prop
  | [] => True
  | x :: l => (∀ q ∈ x.2.cs, q.Bnd n m) ∧ AllB n m l
theorem updL_bd {s : St} {n m i : Nat} {B : Bx} : ∀ {l : List (Nat × Bx)} (hl : AllB n m l) (hB : (s.updL l).boxes[i]? = some B), s.boxes[i]? = some B ∨ ∀ q ∈ B.cs, q.Bnd n m
  | [], _, hB => .inl hB
  | x :: l, hl, hB => by
    have hB' : ((s.updL l).boxes.set x.1 x.2)[i]? = some B := hB
    by_cases hix : i = x.1
    · subst hix
      have hlt := (List.getElem?_eq_some_iff.1 hB').1
      rw [List.length_set] at hlt
      rw [List.getElem?_set_self hlt] at hB'
      cases hB'
      exact .inr hl.1
    · rw [List.getElem?_set_ne (Ne.symm hix)] at hB'
      exact updL_bd hl.2 hB'
section
variable {P : Program} {e : Env} {s u X X' X2 Y : St} {p : Pd} {o : Oper} {N k g : Nat} {bs bs' cs : List Bx} {fs fs' : List Fr} {B B0 : Bx} {l l' : List (Nat × Bx)}
theorem opD_to (h : OpD P o e X p X2) (h' : X2 = X') : OpD P o e X p X' := h' ▸ h
theorem ul_loc (hN : u.boxes.length = N) (h : Y = u.ext bs fs) (hB : bs.set k B = bs') : Y.upd (N + k) B = u.ext bs' fs := by
  subst h; subst hN; subst hB; exact ext_upd_loc
theorem ul_new (h : Y = u.ext bs fs) (hb : bs ++ cs = bs') : Y.ext cs [] = u.ext bs' fs := by
  subst h; subst hb; rw [ext_ext, List.append_nil]
/-- New variables are handed out, and older ones changed. -/
theorem done_updLN {fn : Func} {x : Exit} {n : Nat} (hn : s.boxes.length + bs.length = n) (hl : AllB n s.fr.length l) (hx : x = .normal ∨ x = .ret) (hr : Res P fn e ((s.updL l).ext bs fs) p) (hbn : p.Bnd n s.fr.length) (hB : ∀ B ∈ bs, ∀ q ∈ B.cs, q.Bnd n s.fr.length) :
    Done P fn s n s.fr.length p ((s.updL l).ext bs []) x e ((s.updL l).ext bs fs) := by
  subst hn
  have hL := updL_len s l
  have hF := updL_fr s l
  refine ⟨hx, hr, ?_, by omega, Nat.le_refl _, by rw [ext_boxes_length, hL]; exact Nat.le_refl _, by rw [ext_fr_length, hF]; omega, updL_stat s l, hbn, fun i C hi hC => ?_⟩
  · have h1 : ((s.updL l).ext bs fs).boxes.take (s.boxes.length + bs.length) = (s.updL l).boxes ++ bs := List.take_of_length_le (by rw [ext_boxes_length, hL]; exact Nat.le_refl _)
    have h2 : ((s.updL l).ext bs fs).fr.take s.fr.length = (s.updL l).fr ++ [] := by
      rw [← hF, List.append_nil]; exact take_ext_fr _ _ _
    rw [h1, h2]; rfl
  · by_cases hil : i < s.boxes.length
    · have h1 : ((s.updL l).ext bs fs).boxes[i]? = (s.updL l).boxes[i]? := List.getElem?_append_left (by omega)
      rw [h1] at hC
      exact updL_bd hl hC
    · right
      have h1 : ((s.updL l).ext bs fs).boxes[i]? = bs[i - (s.updL l).boxes.length]? := List.getElem?_append_right (by omega)
      rw [h1] at hC
      exact hB C (List.mem_of_getElem? hC)
end
end Go.Proofs.YtokcgacehdgkcaaDoor.Eng
namespace Go.Proofs.YtokcgacehdgkcaaDoor.Eng
set_option linter.unusedVariables false
set_option linter.unusedSimpArgs false
end Go.Proofs.YtokcgacehdgkcaaDoor.Eng

/- The engine: maps, told by what each key has. -/
namespace Go.Proofs.YtokcgacehdgkcaaDoor.Eng
set_option linter.unusedVariables false
set_option linter.unusedSimpArgs false
open Go.RowKit
section
variable {κ ν : Type} [DecidableEq κ]
/-- A list of entries, no key twice, that has what the function says. -/
def Rep (l : List (κ × ν)) (f : κ → Option ν) : Prop := (l.map (·.1)).Nodup ∧ ∀ k, mget l k = f k
def fset (f : κ → Option ν) (k : κ) (v : ν) : κ → Option ν := fun j => if k = j then some v else f j
def fnil : κ → Option ν := fun _ => none
theorem rep_nil : Rep ([] : List (κ × ν)) fnil := ⟨.nil, fun _ => rfl⟩
theorem rep_set {l : List (κ × ν)} {f : κ → Option ν} (h : Rep l f) (k : κ) (v : ν) : Rep (mset l k v) (fset f k v) := ⟨mset_nodup h.1 k v, fun j => by rw [mget_set, h.2]; rfl⟩
open Classical in
open Classical in
end
section
variable {κ ν : Type} [DecidableEq κ]
def mpf (K : MK κ ν) (f : κ → Option ν) : Pd := ⟨fun g w v => ∃ l, Rep l f ∧ (mp K l).h g w v, fun hx ⟨l, h1, h2⟩ => ⟨l, h1, (mp K l).mono0 hx h2⟩⟩
theorem mpf_bnd (K : MK κ ν) (f : κ → Option ν) (n m : Nat) : (mpf K f).Bnd n m := fun _ _ _ _ _ _ _ h => h
/-- A map's variable. -/
def MF (K : MK κ ν) (f : κ → Option ν) : Bx := ⟨HOT, [mpf K f]⟩
variable {P : Program} {nt : Nat} {c0 : Code} {Q : Exit → Env → St → Prop} {e : Env} {s s' : St} {K : MK κ ν} {f f2 : κ → Option ν} {b : Nat} {l : List (κ × ν)} {p : Pd} {o : Oper}
theorem srel_openF {g : G} {w : World} (hs : SRel g s w) (hB : s.boxes[b]? = some (MF K f)) : ∃ l, Rep l f ∧ SRel g (s.upd b (MB K l)) w := by
  obtain ⟨ee, k, h1, h2⟩ := raw_some hs hB
  obtain ⟨x, r, ⟨l, hl, hx⟩, _, h5, _⟩ := raw_at hs hB h1 (fun _ => h2)
  exact ⟨l, hl, h5 (q := mp K l) hx (mp_bnd _ _ _ _)⟩
theorem srel_closeF {g : G} {w : World} (hs : SRel g s w) (hB : s.boxes[b]? = some (MB K l)) (hr : Rep l f) : SRel g (s.upd b (MF K f)) w := by
  obtain ⟨ee, k, h1, h2⟩ := raw_some hs hB
  obtain ⟨x, r, hx, _, h5, _⟩ := raw_at hs hB h1 (fun _ => h2)
  exact h5 (q := mpf K f) ⟨l, hr, hx⟩ (mpf_bnd _ _ _ _)
theorem opD_F (l2 : List (κ × ν) → List (κ × ν)) (hB : s.boxes[b]? = some (MF K f)) (hr : ∀ l, Rep l f → Rep (l2 l) f2) (h : ∀ l, Rep l f → (s.upd b (MB K l)).boxes[b]? = some (MB K l) → OpD P o e (s.upd b (MB K l)) p ((s.upd b (MB K l)).upd b (MB K (l2 l)))) : OpD P o e s p (s.upd b (MF K f2)) :=
  fun g a w next Q ha hs hn => by
    obtain ⟨l, h1, h2⟩ := srel_openF hs hB
    refine h l h1 (upd_same hB) g a w next Q ha h2 fun v g' w' hp hx hs' => hn v g' w' hp hx ?_
    rw [Go.Proofs.YtokcgacehdgkcaaDoor.Eng.upd_upd] at hs'
    have := srel_closeF hs' (upd_same hB) (hr l h1)
    rwa [Go.Proofs.YtokcgacehdgkcaaDoor.Eng.upd_upd] at this
end
section
variable {P : Program} {e : Env} {s : St} {dst : Option Tmp} {ty : TypeId} {pos : String} {after : Array Edge} {guard : Option (Nat × Bool)} {κ ν : Type} [DecidableEq κ] {K : MK κ ν} {f : κ → Option ν} {bs bs' : List Bx} {fs : List Fr} {b : Nat}
theorem opD_mapUpdateF {t kt et : TypeId} {x y u : Operand} {k : κ} {v : ν} (ht : P.underlying t = some (.map kt et)) (hK : KL P kt K) (hx : e.ev x = mref b) (hy : (e.ev y).le (pl (K.ek k))) (hu : (e.ev u).le (pl (K.ev v))) (hB : s.boxes[b]? = some (MF K f)) :
    OpD P ⟨dst, .mapUpdate t x y u, ty, pos, after, guard⟩ e s any (s.upd b (MF K (fset f k v))) :=
  opD_F (fun l => mset l k v) hB (fun l hl => rep_set hl k v) fun l hl hb => opD_mapUpdate ht hK hx hy hu hb
theorem opD_makeMapF {t : TypeId} {n : Nat} (hn : bs.length = n) (h' : bs ++ [MF K fnil] = bs') : OpD P ⟨dst, .makeMap t none, ty, pos, after, guard⟩ e (s.ext bs fs) (mref (s.boxes.length + n)) (s.ext bs' fs) := by
  subst hn; subst h'
  intro g a w next Q ha hs hn
  refine opD_makeMapX (K := K) rfl rfl g a w next Q ha hs fun v g' w' hp hx hs' => hn v g' w' hp hx ?_
  have h1 : (s.ext (bs ++ [MB K []]) fs).boxes[s.boxes.length + bs.length]? = some (MB K []) := loc_get (by simp)
  have := srel_closeF hs' h1 rep_nil
  rw [ext_upd_loc] at this
  simpa using this
theorem opD_makeMapFN {N : Nat} (hN : s.boxes.length = N) {t : TypeId} {n : Nat} (hn : bs.length = n) (h' : bs ++ [MF K fnil] = bs') : OpD P ⟨dst, .makeMap t none, ty, pos, after, guard⟩ e (s.ext bs fs) (mref (N + n)) (s.ext bs' fs) := by
  subst hN; exact opD_makeMapF hn h'
end
end Go.Proofs.YtokcgacehdgkcaaDoor.Eng

/- The engine: keys of maps; encodings; pointers or none; variables forgotten. -/
namespace Go.Proofs.YtokcgacehdgkcaaDoor.Eng
set_option linter.unusedVariables false
set_option linter.unusedSimpArgs false
open Go.RowKit
section
variable {κ ν : Type} [DecidableEq κ] {P : Program} {kt : TypeId} {K : MK κ ν}
theorem mIdx_c (x : κ × ν) (l : List (κ × ν)) (k : κ) : mIdx (x :: l) k = if x.1 = k then some 0 else (mIdx l k).map (· + 1) := mIdx_cons x.1 x.2 l k
theorem kl_one {u : TypeDesc} (hu : P.underlying kt = some u) (hkey : ∀ k, MapKept.IsKey u (K.ek k)) (hs : ∀ a b, Instr.sameNow u (K.ek a) (K.ek b) = some (decide (a = b))) (hb : ∀ k, Instr.sameBits 10000 (K.ek k) (K.ek k) = true) : KL P kt K :=
  ⟨fun b k w => MapKept.run_checkKey hu (hkey k) b 9999, fun k l es w h => by
    have key : ∀ (l : List (κ × ν)) (es : List MapEntry) (i : Nat), es.map (·.key) = l.map (fun x => K.ek x.1) → Instr.findNow u (K.ek k) es i = some ((mIdx l k).bind fun j => (es[j]?).map fun e => (i + j, e.val)) := by
      intro l
      induction l with
      | nil => intro es i h; cases es with
        | nil => simp [Instr.findNow, mIdx]
        | cons e es => simp at h
      | cons x l ih =>
        intro es i h
        cases es with
        | nil => simp at h
        | cons e es =>
          simp only [List.map_cons, List.cons.injEq] at h
          have ih := ih es (i + 1) h.2
          rw [Instr.findNow, h.1, hs, mIdx_c]
          by_cases hk : k = x.1
          · subst hk; simp
          · rw [decide_eq_false hk, if_neg (Ne.symm hk)]
            simp only [ih]
            cases mIdx l k with
            | none => rfl
            | some j => simp; congr 1; funext e; congr 1; omega
    have := key l es 0 h
    simp only [Nat.zero_add] at this
    exact MapKept.run_findKey hu this, hb⟩
end
/-! ### Encodings -/
theorem pdsl {g : G} {w : World} : ∀ {us vs : List Value}, Pds g w (us.map pl) vs → vs = us
  | [], [], _ => rfl
  | u :: us, v :: vs, ⟨h1, h2⟩ => by rw [show v = u from h1, pdsl h2]
  | [], _ :: _, h => h.elim
  | _ :: _, [], h => h.elim
theorem aggpl_le (us : List Value) : (agg (us.map pl)).le (pl (.agg us.toArray)) := fun g w v ⟨cs, hv, h⟩ => by
  have := pdsl h
  rw [hv]
  show Value.agg cs = Value.agg us.toArray
  rw [← this]
theorem flat_pl {α : Type} {k : Kn α} {f : α → Value} (h : ∀ x, k.cs x = [pl (f x)]) : ∀ l : List α, flat k l = (l.map f).map pl
  | [] => rfl
  | x :: l => by show k.cs x ++ flat k l = _; rw [h, flat_pl h l]; rfl
theorem flat_ple {α : Type} {k : Kn α} {f : α → Value} (h : ∀ x, k.cs x = [pl (f x)]) (l : List α) : (agg (flat k l)).le (pl (.agg (l.map f).toArray)) := by rw [flat_pl h]; exact aggpl_le _
/-! ### A pointer, or none -/
theorem xlen {u : St} {N m : Nat} {bs : List Bx} {fs : List Fr} (hN : u.boxes.length = N) (hb : bs.length = m) : (u.ext bs fs).boxes.length = N + m := by rw [ext_boxes_length, hN, hb]
/-! ### Variables that are forgotten -/
def BxK : List Bx → List Bx → Prop
  | [], [] => True
  | B :: bs, C :: cs => B.t = C.t ∧ (C.cs = B.cs ∨ C.cs = []) ∧ BxK bs cs
  | _, _ => False
theorem BxK.length : ∀ {bs cs : List Bx}, BxK bs cs → bs.length = cs.length
  | [], [], _ => rfl
  | _ :: _, _ :: _, ⟨_, _, h⟩ => by simp [BxK.length h]
  | [], _ :: _, h => h.elim
  | _ :: _, [], h => h.elim
theorem BxK.get : ∀ {bs cs : List Bx}, BxK bs cs → ∀ (i : Nat) (C : Bx), cs[i]? = some C → ∃ B, bs[i]? = some B ∧ B.t = C.t ∧ (C.cs = B.cs ∨ C.cs = [])
  | [], [], _, i, C, hC => by simp at hC
  | B :: _, C :: _, ⟨h1, h2, h3⟩, i, D, hD => by
    cases i with
    | zero => simp at hD; subst hD; exact ⟨B, rfl, h1, h2⟩
    | succ i => simp at hD; simpa using BxK.get h3 i D hD
  | [], _ :: _, h, _, _, _ => h.elim
  | _ :: _, [], h, _, _, _ => h.elim
theorem srel_kill {g : G} {w : World} {s : St} {bs bs' : List Bx} {fs : List Fr} (h : BxK bs bs') (hs : SRel g (s.ext bs fs) w) : SRel g (s.ext bs' fs) w := by
  have hl := h.length
  refine ⟨by rw [hs.len, ext_boxes_length, ext_boxes_length, hl], hs.nd, fun i B hB => ?_, hs.ow, hs.sl, hs.st, hs.sb, hs.bz⟩
  by_cases hi : i < s.boxes.length
  · have hB' : (s.ext bs fs).boxes[i]? = some B := by
      simp only [St.ext, List.getElem?_append_left hi] at hB ⊢; exact hB
    obtain ⟨k, vs, e1, e2, e2c, e3, e4, e6⟩ := hs.bx i B hB'
    exact ⟨k, vs, e1, e2, e2c, e3, e4, by rw [ext_boxes_length, ← hl, ← ext_boxes_length s bs fs]; exact e6⟩
  · simp only [St.ext, List.getElem?_append_right (Nat.le_of_not_lt hi)] at hB
    obtain ⟨D, hD, ht, hc⟩ := h.get _ B hB
    obtain ⟨k, vs, e1, e2, e2c, e3, e4, e6⟩ := hs.bx i D (by simp only [St.ext, List.getElem?_append_right (Nat.le_of_not_lt hi)]; exact hD)
    have hlv : B.live → D.live := fun hn => hn.elim (fun h1 => .inl (hc.elim (fun h2 => by rw [← h2]; exact h1) fun h2 => absurd h2 h1)) fun h1 => .inr (by rw [ver_same ht]; exact h1)
    refine ⟨k, vs, e1, e2.trans (ver_same ht), e2c.same ht, ?_, fun q hq => ⟨fun hn => (e4 q hq).1 (hlv hn), (e4 q hq).2⟩, fun q hq => ?_⟩
    · rcases hc with h2 | h2
      · rw [h2]; exact e3
      · rw [h2]; exact trivial
    · rw [ext_boxes_length, ← hl, ← ext_boxes_length s bs fs]
      rcases hc with h2 | h2
      · rw [h2] at hq; exact e6 q hq
      · rw [h2] at hq; cases hq
theorem aw_kill {P : Program} {nt : Nat} {c : Code} {Q : Exit → Env → St → Prop} {e : Env} {s : St} {bs bs' : List Bx} {fs : List Fr} (h : BxK bs bs') (h2 : AW P nt c Q e (s.ext bs' fs)) : AW P nt c Q e (s.ext bs fs) := fun m r g a w he hs => h2 m r g a w he (srel_kill h hs)
end Go.Proofs.YtokcgacehdgkcaaDoor.Eng

/- The engine: a row that was made, to be written in place. -/
namespace Go.Proofs.YtokcgacehdgkcaaDoor.Eng
set_option linter.unusedVariables false
set_option linter.unusedSimpArgs false
open Go.RowKit
end Go.Proofs.YtokcgacehdgkcaaDoor.Eng
