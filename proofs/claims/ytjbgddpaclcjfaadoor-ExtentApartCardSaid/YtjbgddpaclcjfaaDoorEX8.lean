/- The engine: objects of several variables. -/
import Derived.Test.YtjbgddpaclcjfaaDoorEX7
import Derived.Test.YtjbgddpaclcjfaaDoorEX6
namespace Go.Proofs.YtjbgddpaclcjfaaDoor.Eng
set_option linter.unusedVariables false
set_option linter.unusedSimpArgs false
open Go.RowKit
/-- Variables with other cells. -/
def St.updL (s : St) : List (Nat × Bx) → St
  | [] => s
  | x :: l => (s.updL l).upd x.1 x.2
theorem updL_len (s : St) : ∀ l : List (Nat × Bx), (s.updL l).boxes.length = s.boxes.length
  | [] => rfl
  | x :: l => by rw [St.updL, upd_boxes_length, updL_len s l]
theorem updL_fr (s : St) : ∀ l : List (Nat × Bx), (s.updL l).fr = s.fr
  | [] => rfl
  | x :: l => updL_fr s l
theorem updL_stat (s : St) : ∀ l : List (Nat × Bx), (s.updL l).stat = s.stat
  | [] => rfl
  | x :: l => updL_stat s l
def NeA (g : Nat) : List Nat → Prop
  | [] => True
  | h :: t => g ≠ h ∧ NeA g t
/-- Names of variables: each another one. -/
def UD (n : Nat) : List Nat → Prop
  | [] => True
  | g :: t => g < n ∧ NeA g t ∧ UD n t
theorem NeA.of {g h : Nat} : ∀ {l : List Nat} {k : Nat}, NeA g l → l[k]? = some h → g ≠ h
  | [], k, _, hk => by simp at hk
  | a :: l, 0, hn, hk => by simp at hk; exact hk ▸ hn.1
  | a :: l, k + 1, hn, hk => NeA.of (l := l) (k := k) hn.2 (by simpa using hk)
theorem UD.lt {n g : Nat} : ∀ {l : List Nat} {k : Nat}, UD n l → l[k]? = some g → g < n
  | [], k, _, hk => by simp at hk
  | a :: l, 0, hn, hk => by simp at hk; exact hk ▸ hn.1
  | a :: l, k + 1, hn, hk => UD.lt (l := l) (k := k) hn.2.2 (by simpa using hk)
theorem UD.up {n m : Nat} (h : n ≤ m) : ∀ {l : List Nat}, UD n l → UD m l
  | [], _ => trivial
  | a :: l, hn => ⟨Nat.lt_of_lt_of_le hn.1 h, hn.2.1, UD.up h hn.2.2⟩
def AllB (n m : Nat) : List (Nat × Bx) → Prop
  | [] => True
  | x :: l => (∀ q ∈ x.2.cs, q.Bnd n m) ∧ AllB n m l
theorem updL_bd {s : St} {n m i : Nat} {B : Bx} : ∀ {l : List (Nat × Bx)} (hl : AllB n m l) (hB : (s.updL l).boxes[i]? = some B), s.boxes[i]? = some B ∨ ∀ q ∈ B.cs, q.Bnd n m
  | [], _, hB => .inl hB
  | x :: l, hl, hB => by
    have hB' : ((s.updL l).boxes.set x.1 x.2)[i]? = some B := hB
    by_cases hix : i = x.1
    · subst hix
      have hlt := (List.getElem?_eq_some_iff.1 hB').1
      rw [List.length_set] at hlt
      rw [List.getElem?_set_self hlt] at hB'
      cases hB'
      exact .inr hl.1
    · rw [List.getElem?_set_ne (Ne.symm hix)] at hB'
      exact updL_bd hl.2 hB'
section
variable {P : Program} {e : Env} {s u X X' X2 Y : St} {p : Pd} {o : Oper} {N k g : Nat} {bs bs' cs : List Bx} {fs fs' : List Fr} {B B0 : Bx} {l l' : List (Nat × Bx)}
theorem opD_to (h : OpD P o e X p X2) (h' : X2 = X') : OpD P o e X p X' := h' ▸ h
theorem ul_loc (hN : u.boxes.length = N) (h : Y = u.ext bs fs) (hB : bs.set k B = bs') : Y.upd (N + k) B = u.ext bs' fs := by
  subst h; subst hN; subst hB; exact ext_upd_loc
theorem ul_new (h : Y = u.ext bs fs) (hb : bs ++ cs = bs') : Y.ext cs [] = u.ext bs' fs := by
  subst h; subst hb; rw [ext_ext, List.append_nil]
/-- New variables are handed out, and older ones changed. -/
theorem done_updLN {fn : Func} {x : Exit} {n : Nat} (hn : s.boxes.length + bs.length = n) (hl : AllB n s.fr.length l) (hx : x = .normal ∨ x = .ret) (hr : Res P fn e ((s.updL l).ext bs fs) p) (hbn : p.Bnd n s.fr.length) (hB : ∀ B ∈ bs, ∀ q ∈ B.cs, q.Bnd n s.fr.length) :
    Done P fn s n s.fr.length p ((s.updL l).ext bs []) x e ((s.updL l).ext bs fs) := by
  subst hn
  have hL := updL_len s l
  have hF := updL_fr s l
  refine ⟨hx, hr, ?_, by omega, Nat.le_refl _, by rw [ext_boxes_length, hL]; exact Nat.le_refl _, by rw [ext_fr_length, hF]; omega, updL_stat s l, hbn, fun i C hi hC => ?_⟩
  · have h1 : ((s.updL l).ext bs fs).boxes.take (s.boxes.length + bs.length) = (s.updL l).boxes ++ bs := List.take_of_length_le (by rw [ext_boxes_length, hL]; exact Nat.le_refl _)
    have h2 : ((s.updL l).ext bs fs).fr.take s.fr.length = (s.updL l).fr ++ [] := by
      rw [← hF, List.append_nil]; exact take_ext_fr _ _ _
    rw [h1, h2]; rfl
  · by_cases hil : i < s.boxes.length
    · have h1 : ((s.updL l).ext bs fs).boxes[i]? = (s.updL l).boxes[i]? := List.getElem?_append_left (by omega)
      rw [h1] at hC
      exact updL_bd hl hC
    · right
      have h1 : ((s.updL l).ext bs fs).boxes[i]? = bs[i - (s.updL l).boxes.length]? := List.getElem?_append_right (by omega)
      rw [h1] at hC
      exact hB C (List.mem_of_getElem? hC)
end
end Go.Proofs.YtjbgddpaclcjfaaDoor.Eng
namespace Go.Proofs.YtjbgddpaclcjfaaDoor.Eng
set_option linter.unusedVariables false
set_option linter.unusedSimpArgs false
end Go.Proofs.YtjbgddpaclcjfaaDoor.Eng

/- The engine: maps, told by what each key has. -/
namespace Go.Proofs.YtjbgddpaclcjfaaDoor.Eng
set_option linter.unusedVariables false
set_option linter.unusedSimpArgs false
open Go.RowKit
section
variable {κ ν : Type} [DecidableEq κ]
open Classical in
open Classical in
end
section
variable {P : Program} {e : Env} {s : St} {dst : Option Tmp} {ty : TypeId} {pos : String} {after : Array Edge} {guard : Option (Nat × Bool)} {κ ν : Type} [DecidableEq κ] {K : MK κ ν} {f : κ → Option ν} {bs bs' : List Bx} {fs : List Fr} {b : Nat}
end
end Go.Proofs.YtjbgddpaclcjfaaDoor.Eng

/- The engine: keys of maps; encodings; pointers or none; variables forgotten. -/
namespace Go.Proofs.YtjbgddpaclcjfaaDoor.Eng
set_option linter.unusedVariables false
set_option linter.unusedSimpArgs false
open Go.RowKit
/-! ### Encodings -/
theorem pdsl {g : G} {w : World} : ∀ {us vs : List Value}, Pds g w (us.map pl) vs → vs = us
  | [], [], _ => rfl
  | u :: us, v :: vs, ⟨h1, h2⟩ => by rw [show v = u from h1, pdsl h2]
  | [], _ :: _, h => h.elim
  | _ :: _, [], h => h.elim
/-! ### A pointer, or none -/
theorem xlen {u : St} {N m : Nat} {bs : List Bx} {fs : List Fr} (hN : u.boxes.length = N) (hb : bs.length = m) : (u.ext bs fs).boxes.length = N + m := by rw [ext_boxes_length, hN, hb]
/-! ### Variables that are forgotten -/
def BxK : List Bx → List Bx → Prop
  | [], [] => True
  | B :: bs, C :: cs => B.t = C.t ∧ (C.cs = B.cs ∨ C.cs = []) ∧ BxK bs cs
  | _, _ => False
theorem BxK.length : ∀ {bs cs : List Bx}, BxK bs cs → bs.length = cs.length
  | [], [], _ => rfl
  | _ :: _, _ :: _, ⟨_, _, h⟩ => by simp [BxK.length h]
  | [], _ :: _, h => h.elim
  | _ :: _, [], h => h.elim
theorem BxK.get : ∀ {bs cs : List Bx}, BxK bs cs → ∀ (i : Nat) (C : Bx), cs[i]? = some C → ∃ B, bs[i]? = some B ∧ B.t = C.t ∧ (C.cs = B.cs ∨ C.cs = [])
  | [], [], _, i, C, hC => by simp at hC
  | B :: _, C :: _, ⟨h1, h2, h3⟩, i, D, hD => by
    cases i with
    | zero => simp at hD; subst hD; exact ⟨B, rfl, h1, h2⟩
    | succ i => simp at hD; simpa using BxK.get h3 i D hD
  | [], _ :: _, h, _, _, _ => h.elim
  | _ :: _, [], h, _, _, _ => h.elim
theorem srel_kill {g : G} {w : World} {s : St} {bs bs' : List Bx} {fs : List Fr} (h : BxK bs bs') (hs : SRel g (s.ext bs fs) w) : SRel g (s.ext bs' fs) w := by
  have hl := h.length
  refine ⟨by rw [hs.len, ext_boxes_length, ext_boxes_length, hl], hs.nd, fun i B hB => ?_, hs.ow, hs.sl, hs.st, hs.sb, hs.bz⟩
  by_cases hi : i < s.boxes.length
  · have hB' : (s.ext bs fs).boxes[i]? = some B := by
      simp only [St.ext, List.getElem?_append_left hi] at hB ⊢; exact hB
    obtain ⟨k, vs, e1, e2, e2c, e3, e4, e6⟩ := hs.bx i B hB'
    exact ⟨k, vs, e1, e2, e2c, e3, e4, by rw [ext_boxes_length, ← hl, ← ext_boxes_length s bs fs]; exact e6⟩
  · simp only [St.ext, List.getElem?_append_right (Nat.le_of_not_lt hi)] at hB
    obtain ⟨D, hD, ht, hc⟩ := h.get _ B hB
    obtain ⟨k, vs, e1, e2, e2c, e3, e4, e6⟩ := hs.bx i D (by simp only [St.ext, List.getElem?_append_right (Nat.le_of_not_lt hi)]; exact hD)
    have hlv : B.live → D.live := fun hn => hn.elim (fun h1 => .inl (hc.elim (fun h2 => by rw [← h2]; exact h1) fun h2 => absurd h2 h1)) fun h1 => .inr (by rw [ver_same ht]; exact h1)
    refine ⟨k, vs, e1, e2.trans (ver_same ht), e2c.same ht, ?_, fun q hq => ⟨fun hn => (e4 q hq).1 (hlv hn), (e4 q hq).2⟩, fun q hq => ?_⟩
    · rcases hc with h2 | h2
      · rw [h2]; exact e3
      · rw [h2]; exact trivial
    · rw [ext_boxes_length, ← hl, ← ext_boxes_length s bs fs]
      rcases hc with h2 | h2
      · rw [h2] at hq; exact e6 q hq
      · rw [h2] at hq; cases hq
theorem aw_kill {P : Program} {nt : Nat} {c : Code} {Q : Exit → Env → St → Prop} {e : Env} {s : St} {bs bs' : List Bx} {fs : List Fr} (h : BxK bs bs') (h2 : AW P nt c Q e (s.ext bs' fs)) : AW P nt c Q e (s.ext bs fs) := fun m r g a w he hs => h2 m r g a w he (srel_kill h hs)
end Go.Proofs.YtjbgddpaclcjfaaDoor.Eng

/- The engine: a row that was made, to be written in place. -/
namespace Go.Proofs.YtjbgddpaclcjfaaDoor.Eng
set_option linter.unusedVariables false
set_option linter.unusedSimpArgs false
open Go.RowKit
section
variable {P : Program} {e : Env} {s : St} {dst : Option Tmp} {ty : TypeId} {pos : String} {after : Array Edge} {guard : Option (Nat × Bool)} {bs bs' : List Bx} {fs fs' : List Fr} {N : Nat}
theorem opD_makeH {α : Type} {k : Kn α} {x0 : α} {t te : TypeId} {x y : Operand} {k1 k2 : IntKind} {i1 i2 : Int} {n by_ : Nat} {z : Value} (ht : P.underlying t = some (.slice te)) (hel : elT P te = some (1, by_)) (hz : zeroT P te = some [z]) (hte : Nat.blt te HOT = true) (hk1 : k.sz = 1) (hk : k.cs x0 = [pl z])
    (hx : e.ev x = pl (.int k1 i1)) (hy : e.ev y = pl (.int k2 i2)) (h1 : i1 = (n : Int)) (h2 : i2 = (n : Int)) (hb : n * by_ ≤ 140737488355328) (hb2 : n ≤ 140737488355328) :
    OpD P ⟨dst, .makeSlice t x y, ty, pos, after, guard⟩ e s (hsl s.boxes.length 2 0 (List.replicate n x0).length k.sz) ⟨s.boxes ++ [⟨hot te 2, flat k (List.replicate n x0)⟩], s.fr, s.stat⟩ :=
  opD_value fun g a w ha hs => by
    subst h1; subst h2
    have e1 : a.eval x = .int k1 n := by have := ha x (by simp [Op.operands]); rw [hx] at this; exact this
    have e2 : a.eval y = .int k2 n := by have := ha y (by simp [Op.operands]); rw [hy] at this; exact this
    obtain ⟨i, z', hi, hzz, hzs, hsz, hby⟩ := elT_spec hel
    have hzc : z'.cells = #[z] := by
      unfold zeroT at hz
      rw [hi] at hz
      simp only [Option.bind_some, hzz, Option.map_some, Option.some.injEq] at hz
      exact Array.toList_inj.1 hz
    have hbig : (i.bytes : Int) * (n : Int) ≤ 281474976710656 := by
      have h3 : (by_ : Int) * (n : Int) = ((n * by_ : Nat) : Int) := by rw [Int.natCast_mul, Int.mul_comm]
      rw [hby, h3]; omega
    have hrun := run_make (P := P) w t te i z' ht hi hzz k1 k2 (n : Int) (n : Int) (by omega) (Int.le_refl _) hbig (by omega)
    simp only [Int.toNat_natCast] at hrun
    have hcells : (madeCells z'.cells (n * i.size)).toList = List.replicate n z := by rw [hzc, hsz, Nat.mul_one]; exact toList_madeCells_one z n
    have hcsz : (madeCells z'.cells (n * i.size)).size = n := by rw [← Array.length_toList, hcells, List.length_replicate]
    generalize madeCells z'.cells (n * i.size) = cs at hrun hcells hcsz
    have hv : (⟨hot te 2, flat k (List.replicate n x0)⟩ : Bx).ver = 2 := hot_ver hte
    have hp : PdsP g w (flat k (List.replicate n x0)) cs.toList := by
      rw [flat_rep hk, hcells]
      have h0 := pds_pl g w (List.replicate n z)
      rw [List.map_replicate] at h0
      exact h0.pre
    have hS : SRel (g.addBE ⟨some w.heap.size, 2, n⟩) ⟨s.boxes ++ [⟨hot te 2, flat k (List.replicate n x0)⟩], s.fr, s.stat⟩ (w.alloc (.cells cs te)) := by
      have h0 := srel_addBE hs (B := ⟨hot te 2, flat k (List.replicate n x0)⟩) (cs := cs) (e := ⟨some w.heap.size, 2, n⟩) rfl hv.symm (fun _ => hcsz) hp (by
        show ∀ p ∈ flat k (List.replicate n x0), _
        rw [flat_rep hk]
        intro p hp
        rw [(List.mem_replicate.1 hp).2]; exact pl_bnd _ _ _)
      rw [hot_obj hte (Nat.le_refl 2)] at h0
      exact h0
    have hP : (hsl s.boxes.length 2 0 (List.replicate n x0).length k.sz).h (g.addBE ⟨some w.heap.size, 2, n⟩) (w.alloc (.cells cs te)) (.slice (some ⟨w.heap.size, 0, none⟩) n n) := by
      have hget : (g.addBE ⟨some w.heap.size, 2, n⟩).box[s.boxes.length]? = some ⟨some w.heap.size, 2, n⟩ := by
        show (g.box ++ [_])[s.boxes.length]? = _
        rw [← hs.len]; simp
      refine ⟨_, some ⟨w.heap.size, 0, none⟩, n, hget, Nat.le_refl 2, by rw [List.length_replicate], by simp, (fun h => by cases h), fun _ => Or.inr ⟨w.heap.size, rfl, rfl, ?_⟩⟩
      rw [hk1]; simp
    refine ⟨_, _, _, ?_, hP, ext_addBE hs _ _ rfl, hS⟩
    show (Sem.bind (Instr.makeSlice t (a.eval x) (a.eval y)) fun v => Sem.pure (Next.value v)).run P w = _
    rw [e1, e2]
    exact run_v hrun
theorem makeHN (hN : s.boxes.length = N) {α : Type} {k : Kn α} {x0 : α} {t te : TypeId} {x y : Operand} {k1 k2 : IntKind} {i1 i2 : Int} {n m by_ : Nat} {z : Value} (ht : P.underlying t = some (.slice te)) (hel : elT P te = some (1, by_)) (hz : zeroT P te = some [z]) (hte : Nat.blt te HOT = true) (hk1 : k.sz = 1) (hk : k.cs x0 = [pl z])
    (hx : e.ev x = pl (.int k1 i1)) (hy : e.ev y = pl (.int k2 i2)) (h1 : i1 = (n : Int)) (h2 : i2 = (n : Int)) (hb : n * by_ ≤ 140737488355328) (hb2 : n ≤ 140737488355328) (hn : bs.length = m) (h' : bs ++ [⟨hot te 2, flat k (List.replicate n x0)⟩] = bs') :
    OpD P ⟨dst, .makeSlice t x y, ty, pos, after, guard⟩ e (s.ext bs fs) (hsl (N + m) 2 0 (List.replicate n x0).length k.sz) (s.ext bs' fs) := by
  subst hN; subst hn; subst h'
  have := opD_makeH (P := P) (e := e) (s := s.ext bs fs) (k := k) (dst := dst) (ty := ty) (pos := pos) (after := after) (guard := guard) ht hel hz hte hk1 hk hx hy h1 h2 hb hb2
  rw [ext_boxes_length] at this
  simpa [St.ext] using this
end
end Go.Proofs.YtjbgddpaclcjfaaDoor.Eng
