/- The engine, eleventh part: whole numbers, and what a walk lays down. -/
import Derived.Test.YtmnhfpcbfdgbcaaDoorEngJ
import Derived.IntWalk
namespace Go.Proofs.YtmnhfpcbfdgbcaaDoor.Eng
set_option linter.unusedVariables false
set_option linter.unusedSimpArgs false
open Go.RowKit

def Env.of : List (Nat × Pd) → Env
  | [] => fun _ => any
  | (t, p) :: l => (Env.of l).put (some t) p
theorem of_nil (t : Tmp) : Env.of [] t = any := rfl
theorem of_same (t : Tmp) (p : Pd) (l : List (Nat × Pd)) : Env.of ((t, p) :: l) t = p := put_same _ _ _
theorem of_ne (t u : Tmp) (p : Pd) (l : List (Nat × Pd)) (h : t ≠ u) : Env.of ((u, p) :: l) t = Env.of l t := put_ne _ _ _ _ h

def Holds (e : Env) : List (Nat × Pd) → Prop
  | [] => True
  | (t, p) :: l => (e t).le p ∧ Holds e l

theorem Holds.of {e : Env} {nt : Nat} {g : G} {a : Act} {w : World} : ∀ {l : List (Nat × Pd)}, Holds e l → ERel nt e g a w → ERel nt (Env.of l) g a w
  | [], _, h => ⟨h.size, h.defers, fun _ => trivial⟩
  | (t, p) :: l, ⟨h1, h2⟩, h => by
    have ih := Holds.of h2 h
    refine ⟨h.size, h.defers, fun u => ?_⟩
    by_cases hu : u = t
    · subst hu; rw [of_same]; exact h1 _ _ _ (h.tmp u)
    · rw [of_ne _ _ _ _ hu]; exact ih.tmp u

theorem aw_keep {P : Program} {nt : Nat} {c : Code} {Q : Exit → Env → St → Prop} {e : Env} {s : St} (l : List (Nat × Pd)) (hl : Holds e l) (h : AW P nt c Q (Env.of l) s) : AW P nt c Q e s :=
  fun g a w he hs => h g a w (hl.of he) hs

theorem str_inj {u v : ByteArray} (h : u.toList = v.toList) : u = v := by
  rw [ByteArray.toList_eq, ByteArray.toList_eq] at h
  cases u; cases v
  simpa using Array.toList_inj.1 h

theorem str_iff {u v : ByteArray} : u.toList = v.toList ↔ u = v := ⟨str_inj, fun h => by rw [h]⟩

theorem str_beq (u v : ByteArray) : (u.toList == v.toList) = decide (u = v) := by
  rw [Bool.eq_iff_iff]; simp [str_iff]

theorem inR_of {k : IntKind} {n : Int} (h : k.wrap n = n) : k.wrap n = n := h

section
variable {P : Program} {e : Env} {s : St} {dst : Option Tmp} {ty : TypeId} {pos : String} {after : Array Edge} {guard : Option (Nat × Bool)}
variable {xt yt : TypeId} {x y : Operand} {k : IntKind} {a b r : Int}

theorem opD_add (hx : e.ev x = pl (.int k a)) (hy : e.ev y = pl (.int k b)) (hr : k.wrap (a + b) = r) : OpD P ⟨dst, .binOp .add xt x y yt, ty, pos, after, guard⟩ e s (pl (.int k r)) s :=
  opD_bin hx hy (fun w => by simp [go_sem]) (fun w => by rw [← hr]; simp [go_sem, Op.intArith])
theorem opD_sub (hx : e.ev x = pl (.int k a)) (hy : e.ev y = pl (.int k b)) (hr : k.wrap (a - b) = r) : OpD P ⟨dst, .binOp .sub xt x y yt, ty, pos, after, guard⟩ e s (pl (.int k r)) s :=
  opD_bin hx hy (fun w => by simp [go_sem]) (fun w => by rw [← hr]; simp [go_sem, Op.intArith])
theorem opD_mul (hx : e.ev x = pl (.int k a)) (hy : e.ev y = pl (.int k b)) (hr : k.wrap (a * b) = r) : OpD P ⟨dst, .binOp .mul xt x y yt, ty, pos, after, guard⟩ e s (pl (.int k r)) s :=
  opD_bin hx hy (fun w => by simp [go_sem]) (fun w => by rw [← hr]; simp [go_sem, Op.intArith])
theorem opD_quo (hx : e.ev x = pl (.int k a)) (hy : e.ev y = pl (.int k b)) (hb : b ≠ 0) (hr : k.wrap (a.tdiv b) = r) : OpD P ⟨dst, .binOp .quo xt x y yt, ty, pos, after, guard⟩ e s (pl (.int k r)) s :=
  opD_bin hx hy (fun w => by simp [go_sem]) (fun w => by rw [← hr]; simp [go_sem, Op.intDiv, hb])
theorem opD_rem (hx : e.ev x = pl (.int k a)) (hy : e.ev y = pl (.int k b)) (hb : b ≠ 0) (hr : a.tmod b = r) : OpD P ⟨dst, .binOp .rem xt x y yt, ty, pos, after, guard⟩ e s (pl (.int k r)) s :=
  opD_bin hx hy (fun w => by simp [go_sem]) (fun w => by rw [← hr]; simp [go_sem, Op.intDiv, hb])
theorem opD_bits {op : BinOp} (hop : op = .and ∨ op = .or ∨ op = .xor ∨ op = .andNot) (hx : e.ev x = pl (.int k a)) (hy : e.ev y = pl (.int k b)) (hr : bits op k a b = r) : OpD P ⟨dst, .binOp op xt x y yt, ty, pos, after, guard⟩ e s (pl (.int k r)) s :=
  opD_bin hx hy (fun w => by rcases hop with rfl | rfl | rfl | rfl <;> simp [go_sem]) (fun w => by rw [← hr]; rcases hop with rfl | rfl | rfl | rfl <;> simp [go_sem])
theorem opD_shl {yk : IntKind} (hx : e.ev x = pl (.int k a)) (hy : e.ev y = pl (.int yk b)) (hb : 0 ≤ b) (hb2 : b ≤ k.bits) (hr : k.wrap (a * 2 ^ b.toNat) = r) : OpD P ⟨dst, .binOp .shl xt x y yt, ty, pos, after, guard⟩ e s (pl (.int k r)) s :=
  opD_bin hx hy (fun w => by simp [go_sem]) (fun w => by rw [← hr, binOp_shl, shift_shl _ _ _ _ hb hb2]; rfl)
theorem opD_shr {yk : IntKind} (hx : e.ev x = pl (.int k a)) (hy : e.ev y = pl (.int yk b)) (hb : 0 ≤ b) (hb2 : b ≤ k.bits) (hr : a / 2 ^ b.toNat = r) : OpD P ⟨dst, .binOp .shr xt x y yt, ty, pos, after, guard⟩ e s (pl (.int k r)) s :=
  opD_bin hx hy (fun w => by simp [go_sem]) (fun w => by rw [← hr, binOp_shr, shift_shr _ _ _ _ hb hb2]; rfl)
theorem opD_lss (hx : e.ev x = pl (.int k a)) (hy : e.ev y = pl (.int k b)) : OpD P ⟨dst, .binOp .lss xt x y yt, ty, pos, after, guard⟩ e s (pl (.bool (decide (a < b)))) s :=
  opD_bin hx hy (fun w => by simp [go_sem]) (fun w => by simp [go_sem])
theorem opD_leq (hx : e.ev x = pl (.int k a)) (hy : e.ev y = pl (.int k b)) : OpD P ⟨dst, .binOp .leq xt x y yt, ty, pos, after, guard⟩ e s (pl (.bool (decide (a ≤ b)))) s :=
  opD_bin hx hy (fun w => by simp [go_sem]) (fun w => by simp [go_sem])
theorem opD_gtr (hx : e.ev x = pl (.int k a)) (hy : e.ev y = pl (.int k b)) : OpD P ⟨dst, .binOp .gtr xt x y yt, ty, pos, after, guard⟩ e s (pl (.bool (decide (b < a)))) s :=
  opD_bin hx hy (fun w => by simp [go_sem]) (fun w => by simp [go_sem])
theorem opD_geq (hx : e.ev x = pl (.int k a)) (hy : e.ev y = pl (.int k b)) : OpD P ⟨dst, .binOp .geq xt x y yt, ty, pos, after, guard⟩ e s (pl (.bool (decide (b ≤ a)))) s :=
  opD_bin hx hy (fun w => by simp [go_sem]) (fun w => by simp [go_sem])
theorem opD_eql (hx : e.ev x = pl (.int k a)) (hy : e.ev y = pl (.int k b)) : OpD P ⟨dst, .binOp .eql xt x y yt, ty, pos, after, guard⟩ e s (pl (.bool (decide (a = b)))) s :=
  opD_bin hx hy (fun w => by simp [go_sem]) (fun w => by simp [go_sem]; rfl)
theorem opD_neq (hx : e.ev x = pl (.int k a)) (hy : e.ev y = pl (.int k b)) : OpD P ⟨dst, .binOp .neq xt x y yt, ty, pos, after, guard⟩ e s (pl (.bool (decide (a ≠ b)))) s :=
  opD_bin hx hy (fun w => by simp [go_sem]) (fun w => by simp [go_sem, bne]; rfl)
theorem opD_seql {u v : ByteArray} (hx : e.ev x = pl (.string u)) (hy : e.ev y = pl (.string v)) : OpD P ⟨dst, .binOp .eql xt x y yt, ty, pos, after, guard⟩ e s (pl (.bool (decide (u = v)))) s :=
  opD_bin hx hy (fun w => by simp [go_sem]) (fun w => by simp [binOp, Op.stringOp, str_beq])
theorem opD_sneq {u v : ByteArray} (hx : e.ev x = pl (.string u)) (hy : e.ev y = pl (.string v)) : OpD P ⟨dst, .binOp .neq xt x y yt, ty, pos, after, guard⟩ e s (pl (.bool (decide (u ≠ v)))) s :=
  opD_bin hx hy (fun w => by simp [go_sem]) (fun w => by simp [binOp, Op.stringOp, str_beq])
theorem opD_sadd {u v : ByteArray} (hx : e.ev x = pl (.string u)) (hy : e.ev y = pl (.string v)) (hb : u.size + v.size ≤ 9223372036854775807) : OpD P ⟨dst, .binOp .add xt x y yt, ty, pos, after, guard⟩ e s (pl (.string (u ++ v))) s :=
  opD_bin hx hy (fun w => by simp [go_sem]) (fun w => by
    rw [show binOp .add xt (.string u) (.string v) = Op.stringOp .add u v from by simp [binOp]]
    exact run_string_add_sum w u v hb)
theorem opD_not {u : Bool} (hx : e.ev x = pl (.bool u)) : OpD P ⟨dst, .unOp .not xt x, ty, pos, after, guard⟩ e s (pl (.bool (!u))) s :=
  opD_un hx (fun w => by simp [Op.unary])
theorem opD_conv_int {st dt : TypeId} {k2 : IntKind} {d : TypeDesc} (hs : P.underlying st = some d) (hd : P.underlying dt = some (.int k2)) (hx : e.ev x = pl (.int k a)) (hr : k2.wrap a = r) : OpD P ⟨dst, .convert st dt x, ty, pos, after, guard⟩ e s (pl (.int k2 r)) s :=
  opD_convert hx (fun w => by rw [← hr]; simp [convert, run_underlying hs, run_underlying hd, Conv.intToInt])
theorem opD_len_str {str : ByteArray} {t : TypeId} (ht : P.underlying t = some .string) (hx : e.ev x = pl (.string str)) : OpD P ⟨dst, .call { callee := .builtin .len, args := #[x], argTypes := #[t] }, ty, pos, after, guard⟩ e s (pl (.int .i64 str.size)) s :=
  opD_builtin #[.string str] (fun g a w h => by have := h x (by simp); rw [hx] at this; simp [show a.eval x = _ from this]) (fun w cs => by
    show (Sem.bind (Builtin.len_ #[t] ty #[.string str]) fun v => Sem.pure (Next.value v)).run P w = _
    exact run_v (by simp [Builtin.len_, run_underlying ht, goInt]))
theorem opD_min (hx : e.ev x = pl (.int k a)) (hy : e.ev y = pl (.int k b)) (hr : (if b < a then b else a) = r) {ats : Array TypeId} : OpD P ⟨dst, .call { callee := .builtin .min, args := #[x, y], argTypes := ats }, ty, pos, after, guard⟩ e s (pl (.int k r)) s :=
  opD_builtin #[.int k a, .int k b] (fun g a w h => by
    have h1 := h x (by simp); have h2 := h y (by simp); rw [hx] at h1; rw [hy] at h2; simp [show a.eval x = _ from h1, show a.eval y = _ from h2]) (fun w cs => by
    show (Sem.bind (Builtin.min_ ats ty #[.int k a, .int k b]) fun v => Sem.pure (Next.value v)).run P w = _
    exact run_v (by rw [← hr]; simp [Builtin.min_, Builtin.min2]))
theorem opD_max (hx : e.ev x = pl (.int k a)) (hy : e.ev y = pl (.int k b)) (hr : (if b > a then b else a) = r) {ats : Array TypeId} : OpD P ⟨dst, .call { callee := .builtin .max, args := #[x, y], argTypes := ats }, ty, pos, after, guard⟩ e s (pl (.int k r)) s :=
  opD_builtin #[.int k a, .int k b] (fun g a w h => by
    have h1 := h x (by simp); have h2 := h y (by simp); rw [hx] at h1; rw [hy] at h2; simp [show a.eval x = _ from h1, show a.eval y = _ from h2]) (fun w cs => by
    show (Sem.bind (Builtin.max_ ats ty #[.int k a, .int k b]) fun v => Sem.pure (Next.value v)).run P w = _
    exact run_v (by rw [← hr]; simp [Builtin.max_, Builtin.max2]))
end
end Go.Proofs.YtmnhfpcbfdgbcaaDoor.Eng
