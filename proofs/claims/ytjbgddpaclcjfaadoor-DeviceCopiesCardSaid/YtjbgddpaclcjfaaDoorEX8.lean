/- The engine: objects of several variables. -/
import Derived.Test.YtjbgddpaclcjfaaDoorEX7
import Derived.Test.YtjbgddpaclcjfaaDoorEX6
namespace Go.Proofs.YtjbgddpaclcjfaaDoor.Eng
set_option linter.unusedVariables false
set_option linter.unusedSimpArgs false
open Go.RowKit
/-- Variables with other cells. -/
def St.updL (s : St) : List (Nat × Bx) → St
  | [] => s
  | x :: l => (s.updL l).upd x.1 x.2
theorem updL_len (s : St) : ∀ l : List (Nat × Bx), (s.updL l).boxes.length = s.boxes.length
  | [] => rfl
  | x :: l => by rw [St.updL, upd_boxes_length, updL_len s l]
theorem updL_fr (s : St) : ∀ l : List (Nat × Bx), (s.updL l).fr = s.fr
  | [] => rfl
  | x :: l => updL_fr s l
theorem updL_stat (s : St) : ∀ l : List (Nat × Bx), (s.updL l).stat = s.stat
  | [] => rfl
  | x :: l => updL_stat s l
def NeA (g : Nat) : List Nat → Prop
  | [] => True
  | h :: t => g ≠ h ∧ NeA g t
/-- Names of variables: each another one. -/
def UD (n : Nat) : List Nat → Prop
  | [] => True
  | g :: t => g < n ∧ NeA g t ∧ UD n t
theorem NeA.of {g h : Nat} : ∀ {l : List Nat} {k : Nat}, NeA g l → l[k]? = some h → g ≠ h
  | [], k, _, hk => by simp at hk
  | a :: l, 0, hn, hk => by simp at hk; exact hk ▸ hn.1
  | a :: l, k + 1, hn, hk => NeA.of (l := l) (k := k) hn.2 (by simpa using hk)
theorem UD.lt {n g : Nat} : ∀ {l : List Nat} {k : Nat}, UD n l → l[k]? = some g → g < n
  | [], k, _, hk => by simp at hk
  | a :: l, 0, hn, hk => by simp at hk; exact hk ▸ hn.1
  | a :: l, k + 1, hn, hk => UD.lt (l := l) (k := k) hn.2.2 (by simpa using hk)
theorem UD.up {n m : Nat} (h : n ≤ m) : ∀ {l : List Nat}, UD n l → UD m l
  | [], _ => trivial
  | a :: l, hn => ⟨Nat.lt_of_lt_of_le hn.1 h, hn.2.1, UD.up h hn.2.2⟩
theorem ud_len {u : St} {N m : Nat} {bs : List Bx} {fs : List Fr} {gs : List Nat} (hN : u.boxes.length = N) (hb : bs.length = m) (h : UD (N + m) gs) : UD (u.ext bs fs).boxes.length gs := by
  rw [ext_boxes_length, hN, hb]; exact h
theorem upd_comm {s : St} {g h : Nat} {B C : Bx} (hne : g ≠ h) : (s.upd g B).upd h C = (s.upd h C).upd g B := by
  simp only [St.upd, St.mk.injEq, and_true]
  exact List.set_comm _ _ hne
theorem updL_get {s : St} : ∀ {l : List (Nat × Bx)} {k g : Nat} {B : Bx}, UD s.boxes.length (l.map (·.1)) → l[k]? = some (g, B) → (s.updL l).boxes[g]? = some B
  | [], k, _, _, _, hk => by simp at hk
  | x :: l, 0, g, B, hU, hk => by
    simp at hk; subst hk
    show ((s.updL l).boxes.set g B)[g]? = _
    rw [List.getElem?_set_self (by rw [updL_len]; exact hU.1)]
  | x :: l, k + 1, g, B, hU, hk => by
    simp at hk
    have hne : g ≠ x.1 := Ne.symm (NeA.of (l := l.map (·.1)) (k := k) hU.2.1 (by simp [hk]))
    exact upd_other hne (updL_get (l := l) hU.2.2 hk)
theorem updL_set {s : St} : ∀ {l : List (Nat × Bx)} {k g : Nat} {B C : Bx}, UD s.boxes.length (l.map (·.1)) → l[k]? = some (g, B) → (s.updL l).upd g C = s.updL (l.set k (g, C))
  | [], k, _, _, _, _, hk => by simp at hk
  | x :: l, 0, g, B, C, hU, hk => by
    simp at hk; subst hk
    show ((s.updL l).upd g B).upd g C = (s.updL l).upd g C
    exact Go.Proofs.YtjbgddpaclcjfaaDoor.Eng.upd_upd _ _ _ _
  | x :: l, k + 1, g, B, C, hU, hk => by
    simp at hk
    have hne : x.1 ≠ g := NeA.of (l := l.map (·.1)) (k := k) hU.2.1 (by simp [hk])
    show ((s.updL l).upd x.1 x.2).upd g C = (s.updL (l.set k (g, C))).upd x.1 x.2
    rw [upd_comm hne, updL_set (l := l) hU.2.2 hk]
def AllAt (s : St) : List (Nat × Bx) → Prop
  | [] => True
  | x :: l => s.boxes[x.1]? = some x.2 ∧ AllAt s l
theorem updL_self {s : St} : ∀ {l : List (Nat × Bx)}, AllAt s l → s.updL l = s
  | [], _ => rfl
  | x :: l, h => by rw [St.updL, updL_self h.2]; exact upd_self h.1
def AllB (n m : Nat) : List (Nat × Bx) → Prop
  | [] => True
  | x :: l => (∀ q ∈ x.2.cs, q.Bnd n m) ∧ AllB n m l
theorem upok_updL {s : St} : ∀ {l : List (Nat × Bx)}, AllB s.boxes.length s.fr.length l → UpOk s (s.updL l)
  | [], _ => UpOk.refl s
  | x :: l, h => (upok_updL h.2).upd h.1
theorem updL_ok {s : St} {n m N : Nat} : ∀ {l0 l1 : List (Nat × Bx)} (hl : AllB n m l1) (hk : l1.map (·.1) = l0.map (·.1)) (i : Nat) (B : Bx) (_ : i < N) (hB : (s.updL l1).boxes[i]? = some B), (s.updL l0).boxes[i]? = some B ∨ ∀ q ∈ B.cs, q.Bnd n m
  | [], [], _, _, i, B, _, hB => .inl hB
  | [], _ :: _, _, hk, _, _, _, _ => by simp at hk
  | _ :: _, [], _, hk, _, _, _, _ => by simp at hk
  | y :: l0, x :: l1, hl, hk, i, B, hi, hB => by
    simp only [List.map_cons, List.cons.injEq] at hk
    have hB' : ((s.updL l1).boxes.set x.1 x.2)[i]? = some B := hB
    show ((s.updL l0).boxes.set y.1 y.2)[i]? = some B ∨ _
    by_cases hix : i = x.1
    · subst hix
      have hlt := (List.getElem?_eq_some_iff.1 hB').1
      rw [List.length_set] at hlt
      rw [List.getElem?_set_self hlt] at hB'
      cases hB'
      exact .inr hl.1
    · rw [List.getElem?_set_ne (Ne.symm hix)] at hB'
      rw [List.getElem?_set_ne (by rw [← hk.1]; exact Ne.symm hix)]
      exact updL_ok hl.2 hk.2 i B hi hB'
theorem updL_bd {s : St} {n m i : Nat} {B : Bx} : ∀ {l : List (Nat × Bx)} (hl : AllB n m l) (hB : (s.updL l).boxes[i]? = some B), s.boxes[i]? = some B ∨ ∀ q ∈ B.cs, q.Bnd n m
  | [], _, hB => .inl hB
  | x :: l, hl, hB => by
    have hB' : ((s.updL l).boxes.set x.1 x.2)[i]? = some B := hB
    by_cases hix : i = x.1
    · subst hix
      have hlt := (List.getElem?_eq_some_iff.1 hB').1
      rw [List.length_set] at hlt
      rw [List.getElem?_set_self hlt] at hB'
      cases hB'
      exact .inr hl.1
    · rw [List.getElem?_set_ne (Ne.symm hix)] at hB'
      exact updL_bd hl.2 hB'
theorem aw_updL0 {P : Program} {nt : Nat} {c : Code} {Q : Exit → Env → St → Prop} {e : Env} {s : St} {l : List (Nat × Bx)} (hA : AllAt s l) (h : AW P nt c Q e ((s.updL l).ext [] [])) : AW P nt c Q e (s.ext [] []) := by
  rw [updL_self hA] at h; exact h
section
variable {P : Program} {e : Env} {s u X X' X2 Y : St} {p : Pd} {o : Oper} {N k g : Nat} {bs bs' cs : List Bx} {fs fs' : List Fr} {B B0 : Bx} {l l' : List (Nat × Bx)}
theorem opD_to (h : OpD P o e X p X2) (h' : X2 = X') : OpD P o e X p X' := h' ▸ h
theorem ul_loc (hN : u.boxes.length = N) (h : Y = u.ext bs fs) (hB : bs.set k B = bs') : Y.upd (N + k) B = u.ext bs' fs := by
  subst h; subst hN; subst hB; exact ext_upd_loc
theorem ul_obj (hU : UD s.boxes.length (l.map (·.1))) (h : Y = (s.updL l).ext bs fs) (hk : l[k]? = some (g, B0)) (hl : l.set k (g, B) = l') : Y.upd g B = (s.updL l').ext bs fs := by
  subst h; subst hl
  rw [upd_ext (by rw [updL_len]; exact UD.lt (k := k) hU (by simp [hk])), updL_set hU hk]
theorem ul_new (h : Y = u.ext bs fs) (hb : bs ++ cs = bs') : Y.ext cs [] = u.ext bs' fs := by
  subst h; subst hb; rw [ext_ext, List.append_nil]
theorem obj_get (hU : UD s.boxes.length (l.map (·.1))) (hk : l[k]? = some (g, B)) : ((s.updL l).ext bs fs).boxes[g]? = some B := old_get (updL_get hU hk)
theorem done_updL {fn : Func} {x : Exit} (hl : AllB s.boxes.length s.fr.length l) (hx : x = .normal ∨ x = .ret) (hr : Res P fn e ((s.updL l).ext bs fs) p) (hbn : p.Bnd s.boxes.length s.fr.length) : Done P fn s s.boxes.length s.fr.length p (s.updL l) x e ((s.updL l).ext bs fs) :=
  done_up (upok_updL hl) hx hr hbn
theorem done_updLS {fn : Func} {x : Exit} (hA : AllAt s l) (hx : x = .normal ∨ x = .ret) (hr : Res P fn e ((s.updL l).ext bs fs) p) (hbn : p.Bnd s.boxes.length s.fr.length) : Done P fn s s.boxes.length s.fr.length p s x e ((s.updL l).ext bs fs) := by
  rw [updL_self hA] at hr ⊢
  exact done_ext hx hr hbn
/-- New variables are handed out, and older ones changed. -/
theorem done_updLN {fn : Func} {x : Exit} {n : Nat} (hn : s.boxes.length + bs.length = n) (hl : AllB n s.fr.length l) (hx : x = .normal ∨ x = .ret) (hr : Res P fn e ((s.updL l).ext bs fs) p) (hbn : p.Bnd n s.fr.length) (hB : ∀ B ∈ bs, ∀ q ∈ B.cs, q.Bnd n s.fr.length) :
    Done P fn s n s.fr.length p ((s.updL l).ext bs []) x e ((s.updL l).ext bs fs) := by
  subst hn
  have hL := updL_len s l
  have hF := updL_fr s l
  refine ⟨hx, hr, ?_, by omega, Nat.le_refl _, by rw [ext_boxes_length, hL]; exact Nat.le_refl _, by rw [ext_fr_length, hF]; omega, updL_stat s l, hbn, fun i C hi hC => ?_⟩
  · have h1 : ((s.updL l).ext bs fs).boxes.take (s.boxes.length + bs.length) = (s.updL l).boxes ++ bs := List.take_of_length_le (by rw [ext_boxes_length, hL]; exact Nat.le_refl _)
    have h2 : ((s.updL l).ext bs fs).fr.take s.fr.length = (s.updL l).fr ++ [] := by
      rw [← hF, List.append_nil]; exact take_ext_fr _ _ _
    rw [h1, h2]; rfl
  · by_cases hil : i < s.boxes.length
    · have h1 : ((s.updL l).ext bs fs).boxes[i]? = (s.updL l).boxes[i]? := List.getElem?_append_left (by omega)
      rw [h1] at hC
      exact updL_bd hl hC
    · right
      have h1 : ((s.updL l).ext bs fs).boxes[i]? = bs[i - (s.updL l).boxes.length]? := List.getElem?_append_right (by omega)
      rw [h1] at hC
      exact hB C (List.mem_of_getElem? hC)
end
end Go.Proofs.YtjbgddpaclcjfaaDoor.Eng
namespace Go.Proofs.YtjbgddpaclcjfaaDoor.Eng
set_option linter.unusedVariables false
set_option linter.unusedSimpArgs false
section
variable {P : Program} {e : Env} {s : St} {dst : Option Tmp} {ty : TypeId} {pos : String} {after : Array Edge} {guard : Option (Nat × Bool)} {bs : List Bx} {fs : List Fr} {N k g : Nat} {B : Bx} {l l' : List (Nat × Bx)}
theorem storeL1 {t : TypeId} {x y : Operand} {off : Nat} {p : Pd} (hU : UD s.boxes.length (l.map (·.1))) (hNs : s.boxes.length = N) (hn : sizeT P t = some 1) (hx : e.ev x = ptr g off) (hy : (e.ev y).le p) (h1 : p.One) (hk : l[k]? = some (g, B)) (hl : off < B.cs.length) (hb : p.Bnd (N + bs.length) (s.fr.length + fs.length)) (hl' : l.set k (g, ⟨B.t, B.cs.set off p⟩) = l') (hT : Nat.blt B.t HOT = true := by rfl) :
    OpD P ⟨dst, .store t x y, ty, pos, after, guard⟩ e ((s.updL l).ext bs fs) any ((s.updL l').ext bs fs) :=
  opD_to (X2 := ((s.updL l).ext bs fs).upd g ⟨B.t, B.cs.set off p⟩) (opD_store_one (hT := hT) hn hx hy h1 (obj_get hU hk) hl (by rw [ext_boxes_length, updL_len, hNs, ext_fr_length, updL_fr]; exact hb)) (ul_obj hU rfl hk hl')
end
end Go.Proofs.YtjbgddpaclcjfaaDoor.Eng

/- The engine: maps, told by what each key has. -/
namespace Go.Proofs.YtjbgddpaclcjfaaDoor.Eng
set_option linter.unusedVariables false
set_option linter.unusedSimpArgs false
open Go.RowKit
section
variable {κ ν : Type} [DecidableEq κ]
/-- A list of entries, no key twice, that has what the function says. -/
def Rep (l : List (κ × ν)) (f : κ → Option ν) : Prop := (l.map (·.1)).Nodup ∧ ∀ k, mget l k = f k
def fset (f : κ → Option ν) (k : κ) (v : ν) : κ → Option ν := fun j => if k = j then some v else f j
def fdel (f : κ → Option ν) (k : κ) : κ → Option ν := fun j => if k = j then none else f j
def fnil : κ → Option ν := fun _ => none
theorem rep_nil : Rep ([] : List (κ × ν)) fnil := ⟨.nil, fun _ => rfl⟩
theorem rep_set {l : List (κ × ν)} {f : κ → Option ν} (h : Rep l f) (k : κ) (v : ν) : Rep (mset l k v) (fset f k v) := ⟨mset_nodup h.1 k v, fun j => by rw [mget_set, h.2]; rfl⟩
theorem rep_del {l : List (κ × ν)} {f : κ → Option ν} (h : Rep l f) (k : κ) : Rep (mdel l k) (fdel f k) := ⟨mdel_nodup h.1 k, fun j => by rw [mget_del h.1, h.2]; rfl⟩
theorem rep_mem {l : List (κ × ν)} {f : κ → Option ν} (h : Rep l f) {k : κ} {v : ν} : (k, v) ∈ l ↔ f k = some v := by rw [← h.2, mget_mem h.1]
theorem rep_of_perm {l m : List (κ × ν)} {f : κ → Option ν} (h : Rep l f) (hp : m.Perm l) : Rep m f := by
  have hn : (m.map (·.1)).Nodup := (hp.map _).nodup_iff.2 h.1
  refine ⟨hn, fun k => ?_⟩
  cases hf : f k with
  | none =>
    rw [mget_none]
    intro hk
    obtain ⟨⟨k', v⟩, he, rfl⟩ := List.mem_map.1 hk
    rw [(rep_mem h).1 (hp.subset he)] at hf
    cases hf
  | some v => exact (mget_mem hn).2 (hp.symm.subset ((rep_mem h).2 hf))
open Classical in
open Classical in
/-- What does not hang on the order in which entries come. -/
noncomputable def enm {R : Type} (f : κ → Option ν) (k : List (κ × ν) → Option R) : Option R := if h : ∃ r, ∀ l, Rep l f → k l = some r then some h.choose else none
theorem enm_some {R : Type} {f : κ → Option ν} {k : List (κ × ν) → Option R} {r : R} (h : enm f k = some r) (l : List (κ × ν)) (hl : Rep l f) : k l = some r := by
  unfold enm at h
  split at h
  · next hx => cases h; exact hx.choose_spec l hl
  · cases h
theorem enm_eq {R : Type} {f : κ → Option ν} {k : List (κ × ν) → Option R} {r : R} {l : List (κ × ν)} (hl : Rep l f) (h : ∀ l, Rep l f → k l = some r) : enm f k = some r := by
  have hx : ∃ r, ∀ l, Rep l f → k l = some r := ⟨r, h⟩
  unfold enm
  rw [dif_pos hx]
  rw [← hx.choose_spec l hl]; exact h l hl
end
section
variable {κ ν : Type} [DecidableEq κ]
def mpf (K : MK κ ν) (f : κ → Option ν) : Pd := ⟨fun g w v => ∃ l, Rep l f ∧ (mp K l).h g w v, fun hx ⟨l, h1, h2⟩ => ⟨l, h1, (mp K l).mono0 hx h2⟩⟩
theorem mpf_bnd (K : MK κ ν) (f : κ → Option ν) (n m : Nat) : (mpf K f).Bnd n m := fun _ _ _ _ _ _ _ h => h
/-- A map's variable. -/
def MF (K : MK κ ν) (f : κ → Option ν) : Bx := ⟨HOT, [mpf K f]⟩
variable {P : Program} {nt : Nat} {c0 : Code} {Q : Exit → Env → St → Prop} {e : Env} {s s' : St} {K : MK κ ν} {f f2 : κ → Option ν} {b : Nat} {l : List (κ × ν)} {p : Pd} {o : Oper}
theorem srel_openF {g : G} {w : World} (hs : SRel g s w) (hB : s.boxes[b]? = some (MF K f)) : ∃ l, Rep l f ∧ SRel g (s.upd b (MB K l)) w := by
  obtain ⟨ee, k, h1, h2⟩ := raw_some hs hB
  obtain ⟨x, r, ⟨l, hl, hx⟩, _, h5, _⟩ := raw_at hs hB h1 (fun _ => h2)
  exact ⟨l, hl, h5 (q := mp K l) hx (mp_bnd _ _ _ _)⟩
theorem srel_closeF {g : G} {w : World} (hs : SRel g s w) (hB : s.boxes[b]? = some (MB K l)) (hr : Rep l f) : SRel g (s.upd b (MF K f)) w := by
  obtain ⟨ee, k, h1, h2⟩ := raw_some hs hB
  obtain ⟨x, r, hx, _, h5, _⟩ := raw_at hs hB h1 (fun _ => h2)
  exact h5 (q := mpf K f) ⟨l, hr, hx⟩ (mpf_bnd _ _ _ _)
theorem opD_F (l2 : List (κ × ν) → List (κ × ν)) (hB : s.boxes[b]? = some (MF K f)) (hr : ∀ l, Rep l f → Rep (l2 l) f2) (h : ∀ l, Rep l f → (s.upd b (MB K l)).boxes[b]? = some (MB K l) → OpD P o e (s.upd b (MB K l)) p ((s.upd b (MB K l)).upd b (MB K (l2 l)))) : OpD P o e s p (s.upd b (MF K f2)) :=
  fun g a w next Q ha hs hn => by
    obtain ⟨l, h1, h2⟩ := srel_openF hs hB
    refine h l h1 (upd_same hB) g a w next Q ha h2 fun v g' w' hp hx hs' => hn v g' w' hp hx ?_
    rw [Go.Proofs.YtjbgddpaclcjfaaDoor.Eng.upd_upd] at hs'
    have := srel_closeF hs' (upd_same hB) (hr l h1)
    rwa [Go.Proofs.YtjbgddpaclcjfaaDoor.Eng.upd_upd] at this
end
section
variable {P : Program} {e : Env} {s : St} {dst : Option Tmp} {ty : TypeId} {pos : String} {after : Array Edge} {guard : Option (Nat × Bool)} {κ ν : Type} [DecidableEq κ] {K : MK κ ν} {f : κ → Option ν} {bs bs' : List Bx} {fs : List Fr} {b : Nat}
theorem opD_mapUpdateF {t kt et : TypeId} {x y u : Operand} {k : κ} {v : ν} (ht : P.underlying t = some (.map kt et)) (hK : KL P kt K) (hx : e.ev x = mref b) (hy : (e.ev y).le (pl (K.ek k))) (hu : (e.ev u).le (pl (K.ev v))) (hB : s.boxes[b]? = some (MF K f)) :
    OpD P ⟨dst, .mapUpdate t x y u, ty, pos, after, guard⟩ e s any (s.upd b (MF K (fset f k v))) :=
  opD_F (fun l => mset l k v) hB (fun l hl => rep_set hl k v) fun l hl hb => opD_mapUpdate ht hK hx hy hu hb
theorem opD_deleteF {t kt et : TypeId} {x y : Operand} {k : κ} {ats : Array TypeId} (ha0 : ats[0]? = some t) (ht : P.underlying t = some (.map kt et)) (hK : KL P kt K) (hx : e.ev x = mref b) (hy : (e.ev y).le (pl (K.ek k))) (hB : s.boxes[b]? = some (MF K f)) :
    OpD P ⟨dst, .call { callee := .builtin .delete, args := #[x, y], argTypes := ats }, ty, pos, after, guard⟩ e s (pl (.tuple #[])) (s.upd b (MF K (fdel f k))) :=
  opD_F (fun l => mdel l k) hB (fun l hl => rep_del hl k) fun l hl hb => opD_delete ha0 ht hK hx hy hb
theorem opD_makeMapF {t : TypeId} {n : Nat} (hn : bs.length = n) (h' : bs ++ [MF K fnil] = bs') : OpD P ⟨dst, .makeMap t none, ty, pos, after, guard⟩ e (s.ext bs fs) (mref (s.boxes.length + n)) (s.ext bs' fs) := by
  subst hn; subst h'
  intro g a w next Q ha hs hn
  refine opD_makeMapX (K := K) rfl rfl g a w next Q ha hs fun v g' w' hp hx hs' => hn v g' w' hp hx ?_
  have h1 : (s.ext (bs ++ [MB K []]) fs).boxes[s.boxes.length + bs.length]? = some (MB K []) := loc_get (by simp)
  have := srel_closeF hs' h1 rep_nil
  rw [ext_upd_loc] at this
  simpa using this
theorem opD_makeMapFN {N : Nat} (hN : s.boxes.length = N) {t : TypeId} {n : Nat} (hn : bs.length = n) (h' : bs ++ [MF K fnil] = bs') : OpD P ⟨dst, .makeMap t none, ty, pos, after, guard⟩ e (s.ext bs fs) (mref (N + n)) (s.ext bs' fs) := by
  subst hN; exact opD_makeMapF hn h'
end
end Go.Proofs.YtjbgddpaclcjfaaDoor.Eng

/- The engine: keys of maps; encodings; pointers or none; variables forgotten. -/
namespace Go.Proofs.YtjbgddpaclcjfaaDoor.Eng
set_option linter.unusedVariables false
set_option linter.unusedSimpArgs false
open Go.RowKit
section
variable {κ ν : Type} [DecidableEq κ] {P : Program} {kt : TypeId} {K : MK κ ν}
theorem mIdx_c (x : κ × ν) (l : List (κ × ν)) (k : κ) : mIdx (x :: l) k = if x.1 = k then some 0 else (mIdx l k).map (· + 1) := mIdx_cons x.1 x.2 l k
theorem kl_ask (heq : ∀ (a b : κ) (w : World), (Op.equal kt (K.ek a) (K.ek b)).run P w = .ok (decide (a = b)) w) (k : κ) (w : World) : ∀ (l : List (κ × ν)) (es : List MapEntry) (i : Nat), es.map (·.key) = l.map (fun x => K.ek x.1) → (Instr.findAsking kt (K.ek k) es i).run P w = .ok ((mIdx l k).bind fun j => (es[j]?).map fun e => (i + j, e.val)) w
  | [], [], i, h => by simp [Instr.findAsking, mIdx]
  | [], e :: es, i, h => by simp at h
  | x :: l, [], i, h => by simp at h
  | x :: l, e :: es, i, h => by
    simp only [List.map_cons, List.cons.injEq] at h
    rw [Instr.findAsking]
    simp only [Sem.run_bind, h.1, heq, Result.andThen]
    rw [mIdx_c]
    by_cases hk : k = x.1
    · subst hk; simp
    · have ih := kl_ask heq k w l es (i + 1) h.2
      rw [decide_eq_false hk, if_neg (Ne.symm hk)]
      simp only [Bool.false_eq_true, if_false, ih]
      congr 1
      cases mIdx l k with
      | none => rfl
      | some j => simp; congr 1; funext e; congr 1; omega
theorem kl_struct {u : TypeDesc} (hu : P.underlying kt = some u) (hchk : ∀ b k w, (Instr.checkKey b 10000 kt (K.ek k)).run P w = .ok () w) (heq : ∀ (a b : κ) (w : World), (Op.equal kt (K.ek a) (K.ek b)).run P w = .ok (decide (a = b)) w)
    (hb : ∀ k, Instr.sameBits 10000 (K.ek k) (K.ek k) = true) (hn : ∀ k e es, Instr.findNow u (K.ek k) (e :: es) 0 = none) : KL P kt K :=
  ⟨hchk, fun k l es w h => by
    have ha := kl_ask heq k w l es 0 h
    simp only [Nat.zero_add] at ha
    cases es with
    | nil =>
      cases l with
      | nil => simp [Instr.findKey, run_underlying hu, Result.andThen, Instr.findNow, mIdx]
      | cons x l => simp at h
    | cons e es =>
      simp only [Instr.findKey, Sem.run_bind, run_underlying hu, Result.andThen, hn k e es]
      exact ha, hb⟩
end
/-! ### Encodings -/
theorem pdsl {g : G} {w : World} : ∀ {us vs : List Value}, Pds g w (us.map pl) vs → vs = us
  | [], [], _ => rfl
  | u :: us, v :: vs, ⟨h1, h2⟩ => by rw [show v = u from h1, pdsl h2]
  | [], _ :: _, h => h.elim
  | _ :: _, [], h => h.elim
theorem pdsl0 {g : G} {w : World} : ∀ us : List Value, Pds g w (us.map pl) us
  | [] => trivial
  | _ :: us => ⟨rfl, pdsl0 us⟩
theorem aggpl_le (us : List Value) : (agg (us.map pl)).le (pl (.agg us.toArray)) := fun g w v ⟨cs, hv, h⟩ => by
  have := pdsl h
  rw [hv]
  show Value.agg cs = Value.agg us.toArray
  rw [← this]
theorem aggpl_ge (us : List Value) : (pl (.agg us.toArray)).le (agg (us.map pl)) := fun g w v hv => ⟨us.toArray, hv, by simpa using pdsl0 us⟩
theorem flat_pl {α : Type} {k : Kn α} {f : α → Value} (h : ∀ x, k.cs x = [pl (f x)]) : ∀ l : List α, flat k l = (l.map f).map pl
  | [] => rfl
  | x :: l => by show k.cs x ++ flat k l = _; rw [h, flat_pl h l]; rfl
theorem flat_ple {α : Type} {k : Kn α} {f : α → Value} (h : ∀ x, k.cs x = [pl (f x)]) (l : List α) : (agg (flat k l)).le (pl (.agg (l.map f).toArray)) := by rw [flat_pl h]; exact aggpl_le _
theorem flat_pge {α : Type} {k : Kn α} {f : α → Value} (h : ∀ x, k.cs x = [pl (f x)]) (l : List α) : (pl (.agg (l.map f).toArray)).le (agg (flat k l)) := by rw [flat_pl h]; exact aggpl_ge _
/-! ### A pointer, or none -/
def opc {A R : Type} (o : Option A) (x : Option R) (f : A → Option R) : Option R := match o with | none => x | some a => f a
theorem opt_or {A : Type} (o : Option A) : o = none ∨ ∃ a, o = some a := by cases o with
  | none => exact .inl rfl
  | some a => exact .inr ⟨a, rfl⟩
theorem opc_n {A R : Type} {o : Option A} {x : Option R} {f : A → Option R} {r : R} (h : opc o x f = some r) (ho : o = none) : x = some r := by subst ho; exact h
theorem opc_s {A R : Type} {o : Option A} {x : Option R} {f : A → Option R} {r : R} {a : A} (h : opc o x f = some r) (ho : o = some a) : f a = some r := by subst ho; exact h
theorem opt_inj {A : Type} {a b : A} (h : some a = some b) : b = a := (Option.some.inj h).symm
theorem xlen {u : St} {N m : Nat} {bs : List Bx} {fs : List Fr} (hN : u.boxes.length = N) (hb : bs.length = m) : (u.ext bs fs).boxes.length = N + m := by rw [ext_boxes_length, hN, hb]
/-! ### Variables that are forgotten -/
def BxK : List Bx → List Bx → Prop
  | [], [] => True
  | B :: bs, C :: cs => B.t = C.t ∧ (C.cs = B.cs ∨ C.cs = []) ∧ BxK bs cs
  | _, _ => False
theorem BxK.length : ∀ {bs cs : List Bx}, BxK bs cs → bs.length = cs.length
  | [], [], _ => rfl
  | _ :: _, _ :: _, ⟨_, _, h⟩ => by simp [BxK.length h]
  | [], _ :: _, h => h.elim
  | _ :: _, [], h => h.elim
theorem BxK.get : ∀ {bs cs : List Bx}, BxK bs cs → ∀ (i : Nat) (C : Bx), cs[i]? = some C → ∃ B, bs[i]? = some B ∧ B.t = C.t ∧ (C.cs = B.cs ∨ C.cs = [])
  | [], [], _, i, C, hC => by simp at hC
  | B :: _, C :: _, ⟨h1, h2, h3⟩, i, D, hD => by
    cases i with
    | zero => simp at hD; subst hD; exact ⟨B, rfl, h1, h2⟩
    | succ i => simp at hD; simpa using BxK.get h3 i D hD
  | [], _ :: _, h, _, _, _ => h.elim
  | _ :: _, [], h, _, _, _ => h.elim
theorem srel_kill {g : G} {w : World} {s : St} {bs bs' : List Bx} {fs : List Fr} (h : BxK bs bs') (hs : SRel g (s.ext bs fs) w) : SRel g (s.ext bs' fs) w := by
  have hl := h.length
  refine ⟨by rw [hs.len, ext_boxes_length, ext_boxes_length, hl], hs.nd, fun i B hB => ?_, hs.ow, hs.sl, hs.st, hs.sb, hs.bz⟩
  by_cases hi : i < s.boxes.length
  · have hB' : (s.ext bs fs).boxes[i]? = some B := by
      simp only [St.ext, List.getElem?_append_left hi] at hB ⊢; exact hB
    obtain ⟨k, vs, e1, e2, e2c, e3, e4, e6⟩ := hs.bx i B hB'
    exact ⟨k, vs, e1, e2, e2c, e3, e4, by rw [ext_boxes_length, ← hl, ← ext_boxes_length s bs fs]; exact e6⟩
  · simp only [St.ext, List.getElem?_append_right (Nat.le_of_not_lt hi)] at hB
    obtain ⟨D, hD, ht, hc⟩ := h.get _ B hB
    obtain ⟨k, vs, e1, e2, e2c, e3, e4, e6⟩ := hs.bx i D (by simp only [St.ext, List.getElem?_append_right (Nat.le_of_not_lt hi)]; exact hD)
    have hlv : B.live → D.live := fun hn => hn.elim (fun h1 => .inl (hc.elim (fun h2 => by rw [← h2]; exact h1) fun h2 => absurd h2 h1)) fun h1 => .inr (by rw [ver_same ht]; exact h1)
    refine ⟨k, vs, e1, e2.trans (ver_same ht), e2c.same ht, ?_, fun q hq => ⟨fun hn => (e4 q hq).1 (hlv hn), (e4 q hq).2⟩, fun q hq => ?_⟩
    · rcases hc with h2 | h2
      · rw [h2]; exact e3
      · rw [h2]; exact trivial
    · rw [ext_boxes_length, ← hl, ← ext_boxes_length s bs fs]
      rcases hc with h2 | h2
      · rw [h2] at hq; exact e6 q hq
      · rw [h2] at hq; cases hq
theorem aw_kill {P : Program} {nt : Nat} {c : Code} {Q : Exit → Env → St → Prop} {e : Env} {s : St} {bs bs' : List Bx} {fs : List Fr} (h : BxK bs bs') (h2 : AW P nt c Q e (s.ext bs' fs)) : AW P nt c Q e (s.ext bs fs) := fun m r g a w he hs => h2 m r g a w he (srel_kill h hs)
section
variable {P : Program} {e : Env} {s : St} {dst : Option Tmp} {ty : TypeId} {pos : String} {after : Array Edge} {guard : Option (Nat × Bool)} {κ ν : Type} {K : MK κ ν} {b : Nat}
theorem opD_clear {t kt et : TypeId} {x : Operand} {l : List (κ × ν)} (ht : P.underlying t = some (.map kt et)) (hx : e.ev x = mref b) (hB : s.boxes[b]? = some (MB K l)) :
    OpD P ⟨dst, .call { callee := .builtin .clear, args := #[x], argTypes := #[t] }, ty, pos, after, guard⟩ e s (pl (.tuple #[])) (s.upd b (MB K [])) :=
  opD_value fun g a w ha hs => by
    have e1 := ha x (by simp [Op.operands, Call.operands])
    rw [hx] at e1
    obtain ⟨k0, es, c, hv, hh, hE, hup⟩ := mref_at hs hB e1
    have hE' : Ents K ([] : List (κ × ν)) [] c := ⟨rfl, .nil, fun e h => by cases h⟩
    refine ⟨_, g, _, ?_, rfl, (hup hE').1, (hup hE').2⟩
    rw [exec_builtin, show #[x].map a.eval = #[a.eval x] from by simp, hv]
    have : (Builtin.clear_ #[t] ty #[.map (some k0)]).run P w = .ok (.tuple #[]) { w with heap := w.heap.setIfInBounds k0 (.map #[] c) } := by
      have hlt : k0 < w.heap.size := (Array.getElem?_eq_some_iff.1 hh).1
      simp [Builtin.clear_, run_underlying ht, MapKept.run_getObj_map hh, MapKept.run_setObj_map _ hh, Result.andThen]
    exact run_v this
theorem opD_clearF [DecidableEq κ] {f : κ → Option ν} {t kt et : TypeId} {x : Operand} (ht : P.underlying t = some (.map kt et)) (hx : e.ev x = mref b) (hB : s.boxes[b]? = some (MF K f)) :
    OpD P ⟨dst, .call { callee := .builtin .clear, args := #[x], argTypes := #[t] }, ty, pos, after, guard⟩ e s (pl (.tuple #[])) (s.upd b (MF K fnil)) :=
  opD_F (fun _ => []) hB (fun _ _ => rep_nil) fun l hl hb => opD_clear ht hx hb
end
end Go.Proofs.YtjbgddpaclcjfaaDoor.Eng

/- The engine: a row that was made, to be written in place. -/
namespace Go.Proofs.YtjbgddpaclcjfaaDoor.Eng
set_option linter.unusedVariables false
set_option linter.unusedSimpArgs false
open Go.RowKit
section
variable {P : Program} {e : Env} {s : St} {dst : Option Tmp} {ty : TypeId} {pos : String} {after : Array Edge} {guard : Option (Nat × Bool)} {bs bs' : List Bx} {fs fs' : List Fr} {N : Nat}
theorem opD_makeH {α : Type} {k : Kn α} {x0 : α} {t te : TypeId} {x y : Operand} {k1 k2 : IntKind} {i1 i2 : Int} {n by_ : Nat} {z : Value} (ht : P.underlying t = some (.slice te)) (hel : elT P te = some (1, by_)) (hz : zeroT P te = some [z]) (hte : Nat.blt te HOT = true) (hk1 : k.sz = 1) (hk : k.cs x0 = [pl z])
    (hx : e.ev x = pl (.int k1 i1)) (hy : e.ev y = pl (.int k2 i2)) (h1 : i1 = (n : Int)) (h2 : i2 = (n : Int)) (hb : n * by_ ≤ 140737488355328) (hb2 : n ≤ 140737488355328) :
    OpD P ⟨dst, .makeSlice t x y, ty, pos, after, guard⟩ e s (hsl s.boxes.length 2 0 (List.replicate n x0).length k.sz) ⟨s.boxes ++ [⟨hot te 2, flat k (List.replicate n x0)⟩], s.fr, s.stat⟩ :=
  opD_value fun g a w ha hs => by
    subst h1; subst h2
    have e1 : a.eval x = .int k1 n := by have := ha x (by simp [Op.operands]); rw [hx] at this; exact this
    have e2 : a.eval y = .int k2 n := by have := ha y (by simp [Op.operands]); rw [hy] at this; exact this
    obtain ⟨i, z', hi, hzz, hzs, hsz, hby⟩ := elT_spec hel
    have hzc : z'.cells = #[z] := by
      unfold zeroT at hz
      rw [hi] at hz
      simp only [Option.bind_some, hzz, Option.map_some, Option.some.injEq] at hz
      exact Array.toList_inj.1 hz
    have hbig : (i.bytes : Int) * (n : Int) ≤ 281474976710656 := by
      have h3 : (by_ : Int) * (n : Int) = ((n * by_ : Nat) : Int) := by rw [Int.natCast_mul, Int.mul_comm]
      rw [hby, h3]; omega
    have hrun := run_make (P := P) w t te i z' ht hi hzz k1 k2 (n : Int) (n : Int) (by omega) (Int.le_refl _) hbig (by omega)
    simp only [Int.toNat_natCast] at hrun
    have hcells : (madeCells z'.cells (n * i.size)).toList = List.replicate n z := by rw [hzc, hsz, Nat.mul_one]; exact toList_madeCells_one z n
    have hcsz : (madeCells z'.cells (n * i.size)).size = n := by rw [← Array.length_toList, hcells, List.length_replicate]
    generalize madeCells z'.cells (n * i.size) = cs at hrun hcells hcsz
    have hv : (⟨hot te 2, flat k (List.replicate n x0)⟩ : Bx).ver = 2 := hot_ver hte
    have hp : PdsP g w (flat k (List.replicate n x0)) cs.toList := by
      rw [flat_rep hk, hcells]
      have h0 := pds_pl g w (List.replicate n z)
      rw [List.map_replicate] at h0
      exact h0.pre
    have hS : SRel (g.addBE ⟨some w.heap.size, 2, n⟩) ⟨s.boxes ++ [⟨hot te 2, flat k (List.replicate n x0)⟩], s.fr, s.stat⟩ (w.alloc (.cells cs te)) := by
      have h0 := srel_addBE hs (B := ⟨hot te 2, flat k (List.replicate n x0)⟩) (cs := cs) (e := ⟨some w.heap.size, 2, n⟩) rfl hv.symm (fun _ => hcsz) hp (by
        show ∀ p ∈ flat k (List.replicate n x0), _
        rw [flat_rep hk]
        intro p hp
        rw [(List.mem_replicate.1 hp).2]; exact pl_bnd _ _ _)
      rw [hot_obj hte (Nat.le_refl 2)] at h0
      exact h0
    have hP : (hsl s.boxes.length 2 0 (List.replicate n x0).length k.sz).h (g.addBE ⟨some w.heap.size, 2, n⟩) (w.alloc (.cells cs te)) (.slice (some ⟨w.heap.size, 0, none⟩) n n) := by
      have hget : (g.addBE ⟨some w.heap.size, 2, n⟩).box[s.boxes.length]? = some ⟨some w.heap.size, 2, n⟩ := by
        show (g.box ++ [_])[s.boxes.length]? = _
        rw [← hs.len]; simp
      refine ⟨_, some ⟨w.heap.size, 0, none⟩, n, hget, Nat.le_refl 2, by rw [List.length_replicate], by simp, (fun h => by cases h), fun _ => Or.inr ⟨w.heap.size, rfl, rfl, ?_⟩⟩
      rw [hk1]; simp
    refine ⟨_, _, _, ?_, hP, ext_addBE hs _ _ rfl, hS⟩
    show (Sem.bind (Instr.makeSlice t (a.eval x) (a.eval y)) fun v => Sem.pure (Next.value v)).run P w = _
    rw [e1, e2]
    exact run_v hrun
theorem makeHN (hN : s.boxes.length = N) {α : Type} {k : Kn α} {x0 : α} {t te : TypeId} {x y : Operand} {k1 k2 : IntKind} {i1 i2 : Int} {n m by_ : Nat} {z : Value} (ht : P.underlying t = some (.slice te)) (hel : elT P te = some (1, by_)) (hz : zeroT P te = some [z]) (hte : Nat.blt te HOT = true) (hk1 : k.sz = 1) (hk : k.cs x0 = [pl z])
    (hx : e.ev x = pl (.int k1 i1)) (hy : e.ev y = pl (.int k2 i2)) (h1 : i1 = (n : Int)) (h2 : i2 = (n : Int)) (hb : n * by_ ≤ 140737488355328) (hb2 : n ≤ 140737488355328) (hn : bs.length = m) (h' : bs ++ [⟨hot te 2, flat k (List.replicate n x0)⟩] = bs') :
    OpD P ⟨dst, .makeSlice t x y, ty, pos, after, guard⟩ e (s.ext bs fs) (hsl (N + m) 2 0 (List.replicate n x0).length k.sz) (s.ext bs' fs) := by
  subst hN; subst hn; subst h'
  have := opD_makeH (P := P) (e := e) (s := s.ext bs fs) (k := k) (dst := dst) (ty := ty) (pos := pos) (after := after) (guard := guard) ht hel hz hte hk1 hk hx hy h1 h2 hb hb2
  rw [ext_boxes_length] at this
  simpa [St.ext] using this
end
end Go.Proofs.YtjbgddpaclcjfaaDoor.Eng
