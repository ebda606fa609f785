/- The engine, seventh part: slices. -/
import Derived.Test.YtmnhfpcbfdgbcaaDoorEngF
import Derived.Lib.ConvBytes
import Derived.Laws.BytesString
import Derived.Laws.Append
namespace Go.Proofs.YtmnhfpcbfdgbcaaDoor.Eng
set_option linter.unusedVariables false
set_option linter.unusedSimpArgs false
open Go.RowKit

/-- Whole numbers as elements. -/
def kI (k : IntKind) : Kn Int := ⟨1, fun n => [pl (.int k n)], fun _ => rfl, fun _ p hp g w v h => by simp at hp; subst hp; rw [show v = _ from h]; rfl⟩
def kS : Kn ByteArray := ⟨1, fun s => [pl (.string s)], fun _ => rfl, fun _ p hp g w v h => by simp at hp; subst hp; rw [show v = _ from h]; rfl⟩
def kB : Kn Bool := ⟨1, fun s => [pl (.bool s)], fun _ => rfl, fun _ p hp g w v h => by simp at hp; subst hp; rw [show v = _ from h]; rfl⟩
/-- Rows as elements. -/
def kR {α : Type} (k : Kn α) : Kn (List α) := ⟨1, fun x => [sl k none none x], fun _ => rfl, fun _ p hp g w v h => by simp at hp; subst hp; exact one_sl _ _ _ _ g w v h⟩

theorem kI_bnd (k : IntKind) (l : List Int) (n m : Nat) : ∀ x ∈ l, ∀ p ∈ (kI k).cs x, p.Bnd n m := fun x _ p hp => by simp [kI] at hp; subst hp; exact pl_bnd _ _ _
theorem kS_bnd (l : List ByteArray) (n m : Nat) : ∀ x ∈ l, ∀ p ∈ kS.cs x, p.Bnd n m := fun x _ p hp => by simp [kS] at hp; subst hp; exact pl_bnd _ _ _

def bytesOf (s : ByteArray) : List Int := s.data.toList.map fun b => (b.toNat : Int)
def strOf (l : List Int) : ByteArray := ⟨(l.map fun n => UInt8.ofNat n.toNat).toArray⟩
theorem bytesOf_length (s : ByteArray) : (bytesOf s).length = s.size := by simp [bytesOf]
theorem strOf_size (l : List Int) : (strOf l).size = l.length := by simp [strOf, ByteArray.size]
theorem strOf_bytesOf (s : ByteArray) : strOf (bytesOf s) = s := by
  cases s with
  | mk d =>
    unfold strOf bytesOf
    congr 1
    apply Array.toList_inj.1
    simp only [List.map_map]
    conv => rhs; rw [← List.map_id d.toList]
    exact List.map_congr_left fun x _ => by simp
theorem bytesOf_strOf {l : List Int} (h : ∀ x ∈ l, 0 ≤ x ∧ x < 256) : bytesOf (strOf l) = l := by
  unfold strOf bytesOf
  simp only [List.map_map]
  conv => rhs; rw [← List.map_id l]
  refine List.map_congr_left fun x hx => ?_
  have := h x hx
  simp
  omega

section
variable {P : Program} {e : Env} {s : St} {dst : Option Tmp} {ty : TypeId} {pos : String} {after : Array Edge} {guard : Option (Nat × Bool)}

theorem exec_builtin {ρ : Operand → Value} {b : Builtin} {xs : Array Operand} {ats : Array TypeId} : execOp ρ ⟨dst, .call { callee := .builtin b, args := xs, argTypes := ats }, ty, pos, after, guard⟩ = builtin b ats ty (xs.map fun | .const _ => true | _ => false) (xs.map ρ) := rfl

theorem opD_len_sl {α : Type} {k : Kn α} {o : Option Nat} {nl : Option Bool} {l : List α} {x : Operand} {t te : TypeId} (ht : P.underlying t = some (.slice te)) (hx : e.ev x = sl k o nl l) :
    OpD P ⟨dst, .call { callee := .builtin .len, args := #[x], argTypes := #[t] }, ty, pos, after, guard⟩ e s (pl (.int .i64 l.length)) s :=
  opD_look fun g a w ha _ => by
    have h1 := ha x (by simp [Op.operands, Call.operands])
    rw [hx] at h1
    obtain ⟨A, c, hv, _⟩ := h1
    refine ⟨_, ?_, rfl⟩
    rw [exec_builtin, show #[x].map a.eval = #[a.eval x] from by simp, hv]
    have : (Builtin.len_ #[t] ty #[.slice A l.length c]).run P w = .ok (.int .i64 l.length) w := by
      simp [Builtin.len_, run_underlying ht, goInt]
    exact run_v this

theorem opD_eqnil {α : Type} {k : Kn α} {o : Option Nat} {nl : Bool} {l : List α} {x : Operand} {t te yt : TypeId} (ht : P.underlying t = some (.slice te)) (hx : e.ev x = sl k o (some nl) l) :
    OpD P ⟨dst, .binOp .eql t x (.const (.slice none 0 0)) yt, ty, pos, after, guard⟩ e s (pl (.bool nl)) s :=
  opD_look fun g a w ha _ => by
    have h1 := ha x (by simp [Op.operands])
    rw [hx] at h1
    obtain ⟨A, c, hv, _, hA, _⟩ := h1
    refine ⟨.bool A.isNone, ?_, by rw [hA nl rfl]; rfl⟩
    show (Sem.bind (do eqGuard .eql t x (.const (.slice none 0 0)) (a.eval x) (.slice none 0 0); binOp .eql t (a.eval x) (.slice none 0 0)) fun v => Sem.pure (Next.value v)).run P w = _
    rw [hv]
    refine run_v ?_
    rw [show eqGuard .eql t x (.const (.slice none 0 0)) (.slice A l.length c) (.slice none 0 0) = pure () from rfl]
    simp [Lib.run_eql_slice_nil w _ _ A l.length c 0 0 ht]

theorem opD_neqnil {α : Type} {k : Kn α} {o : Option Nat} {nl : Bool} {l : List α} {x : Operand} {t te yt : TypeId} (ht : P.underlying t = some (.slice te)) (hx : e.ev x = sl k o (some nl) l) :
    OpD P ⟨dst, .binOp .neq t x (.const (.slice none 0 0)) yt, ty, pos, after, guard⟩ e s (pl (.bool (!nl))) s :=
  opD_look fun g a w ha _ => by
    have h1 := ha x (by simp [Op.operands])
    rw [hx] at h1
    obtain ⟨A, c, hv, _, hA, _⟩ := h1
    refine ⟨.bool (!A.isNone), ?_, by rw [hA nl rfl]; rfl⟩
    show (Sem.bind (do eqGuard .neq t x (.const (.slice none 0 0)) (a.eval x) (.slice none 0 0); binOp .neq t (a.eval x) (.slice none 0 0)) fun v => Sem.pure (Next.value v)).run P w = _
    rw [hv]
    refine run_v ?_
    rw [show eqGuard .neq t x (.const (.slice none 0 0)) (.slice A l.length c) (.slice none 0 0) = pure () from rfl]
    simp [run_neq_slice_nil_any w _ _ A l.length c 0 0 ht]

theorem opD_indexAddr_sl {α : Type} {k : Kn α} {o : Option Nat} {nl : Option Bool} {l : List α} {x ix : Operand} {t te : TypeId} {kk : IntKind} {n : Int} {i : Nat} (ht : P.underlying t = some (.slice te)) (hsz : sizeT P te = some k.sz)
    (hx : e.ev x = sl k o nl l) (hi : e.ev ix = pl (.int kk n)) (hn : n = (i : Int)) (hl : i < l.length) :
    OpD P ⟨dst, .indexAddr t x ix, ty, pos, after, guard⟩ e s (el k l i 0) s :=
  opD_look fun g a w ha _ => by
    have h1 := ha x (by simp [Op.operands])
    have h2 := ha ix (by simp [Op.operands])
    rw [hx] at h1
    rw [hi] at h2
    obtain ⟨A, c, hv, _, _, _, hc, _⟩ := h1
    obtain ⟨b, off, rfl, hcells⟩ := hc (by intro h; rw [h] at hl; simp at hl)
    have h2' : a.eval ix = .int kk n := h2
    subst hn
    refine ⟨.pointer (some ⟨b, off + i * k.sz + 0, none⟩), ?_, b, off, rfl, hcells⟩
    show (Sem.bind (Instr.indexAt t (a.eval x) (a.eval ix)) fun v => Sem.pure (Next.value v)).run P w = _
    rw [hv, h2']
    refine run_v ?_
    have hl' : (i : Int) < (l.length : Int) := by omega
    simp [Instr.indexAt, asIntOf, run_underlying ht, hl, run_sizeOf hsz, Addr.add_lit]

theorem SlCells.part {α : Type} {k : Kn α} {l : List α} {g : G} {w : World} {b o : Nat} (h : SlCells k l g w b o) (i j : Nat) : SlCells k ((l.take j).drop i) g w b (o + i * k.sz) := by
  intro m x hm q p hp
  have hm2 : l[i + m]? = some x := by
    rw [List.getElem?_drop] at hm
    have hlt := (List.getElem?_eq_some_iff.1 hm).1
    simp only [List.length_take] at hlt
    rw [List.getElem?_take_of_lt (by omega)] at hm
    exact hm
  have h1 := h (i + m) x hm2 q p hp
  have e1 : o + (i + m) * k.sz + q = o + i * k.sz + m * k.sz + q := by rw [Nat.add_mul]; omega
  rw [e1] at h1
  exact h1

def BdOk (e : Env) (x : Option Operand) (d n : Nat) : Prop :=
  match x with
  | none => n = d
  | some x => ∃ k, e.ev x = pl (.int k (n : Int))

theorem run_sliceAt_sl {t te : TypeId} {z : Nat} (ht : P.underlying t = some (.slice te)) (hsz : sizeT P te = some z) (A : Option Addr) {len c i j : Nat} (hij : i ≤ j) (hjc : j ≤ c) {lo hi : Option Value}
    (hlo : lo = none ∧ i = 0 ∨ ∃ k, lo = some (.int k (i : Int))) (hhi : hi = none ∧ j = len ∨ ∃ k, hi = some (.int k (j : Int))) (w : World) :
    (Instr.sliceAt t (.slice A len c) lo hi none).run P w = .ok (.slice (if c = i then A else A.map (·.add (i * z))) (j - i) (c - i)) w := by
  have hs : (Instr.slice t (.slice A len c) lo hi none).run P w = .ok (.slice (if c = i then A else A.map (·.add (i * z))) (j - i) (c - i)) w := by
    rcases hlo with ⟨rfl, rfl⟩ | ⟨k1, rfl⟩ <;> rcases hhi with ⟨rfl, rfl⟩ | ⟨k2, rfl⟩ <;>
      simp [Instr.slice, Instr.sliceBounds, Instr.sliceBound, asIntOf, run_underlying ht, run_sizeOf hsz, hij, hjc]
  unfold Instr.sliceAt
  rw [Sem.run_bind P, run_underlying ht]
  exact hs

theorem opD_slice {α : Type} {k : Kn α} {o : Option Nat} {nl : Option Bool} {l : List α} {x : Operand} {lo hi : Option Operand} {t te : TypeId} (i j : Nat) (ht : P.underlying t = some (.slice te)) (hsz : sizeT P te = some k.sz)
    (hx : e.ev x = sl k o nl l) (hlo : BdOk e lo 0 i) (hhi : BdOk e hi l.length j) (hij : i ≤ j) (hjl : j ≤ l.length) :
    OpD P ⟨dst, .slice t x lo hi none, ty, pos, after, guard⟩ e s (sl k none nl ((l.take j).drop i)) s :=
  opD_look fun g a w ha _ => by
    have h1 := ha x (by simp [Op.operands])
    rw [hx] at h1
    obtain ⟨A, c, hv, hlc, hA, hnl, hc, _⟩ := h1
    have hlen : ((l.take j).drop i).length = j - i := by simp only [List.length_drop, List.length_take]; omega
    refine ⟨.slice (if c = i then A else A.map (·.add (i * k.sz))) (j - i) (c - i), ?_, _, c - i, by rw [hlen], by omega, ?_, ?_, fun hne => ?_, fun _ h => by cases h⟩
    · show (Sem.bind (Instr.sliceAt t (a.eval x) (lo.map a.eval) (hi.map a.eval) none) fun v => Sem.pure (Next.value v)).run P w = _
      rw [hv]
      refine run_v (run_sliceAt_sl ht hsz A hij (by omega) ?_ ?_ w)
      · cases lo with
        | none => exact .inl ⟨rfl, hlo⟩
        | some y =>
          obtain ⟨k1, h1⟩ := hlo
          have h2 := ha y (by simp [Op.operands])
          rw [h1] at h2
          exact .inr ⟨k1, by rw [Option.map_some, show a.eval y = _ from h2]⟩
      · cases hi with
        | none => exact .inl ⟨rfl, hhi⟩
        | some y =>
          obtain ⟨k1, h1⟩ := hhi
          have h2 := ha y (by simp [Op.operands])
          rw [h1] at h2
          exact .inr ⟨k1, by rw [Option.map_some, show a.eval y = _ from h2]⟩
    · intro b hb
      split
      · exact hA b hb
      · rw [← hA b hb]; cases A <;> rfl
    · intro h
      have : A = none := by
        split at h
        · exact h
        · cases A <;> simp at h ⊢
      rw [hnl this]; omega
    · have hne2 : l ≠ [] := by intro h; subst h; simp at hne
      obtain ⟨b, off, rfl, hcells⟩ := hc hne2
      have hpos : 0 < ((l.take j).drop i).length := List.length_pos_iff.2 hne
      have hci : c ≠ i := by omega
      rw [if_neg hci]
      exact ⟨b, off + i * k.sz, by simp [Addr.add_lit], hcells.part i j⟩

theorem SlCells.list {k : IntKind} {l : List Int} {g : G} {w : World} {b o : Nat} (h : SlCells (kI k) l g w b o) : ∀ j v, (l.map (Value.int k))[j]? = some v → w.cell? ((⟨b, o, none⟩ : Addr).add j) = some v := by
  intro j v hj
  rw [List.getElem?_map] at hj
  obtain ⟨x, hx, rfl⟩ := Option.map_eq_some_iff.1 hj
  obtain ⟨_, c, h2, h3⟩ := h j x hx 0 _ rfl
  rw [Addr.add_lit]
  have : (kI k).sz = 1 := rfl
  rw [this] at h2
  rw [show o + j = o + j * 1 + 0 by omega, h2]
  rw [show c = _ from h3]

theorem opD_bytes_str {o : Option Nat} {nl : Option Bool} {l : List Int} {x : Operand} {src dt te : TypeId} (hs : P.underlying src = some (.slice te)) (he : P.underlying te = some (.int .u8)) (hd : P.underlying dt = some .string) (hx : e.ev x = sl (kI .u8) o nl l) :
    OpD P ⟨dst, .convert src dt x, ty, pos, after, guard⟩ e s (pl (.string (strOf l))) s :=
  opD_look fun g a w ha _ => by
    have h1 := ha x (by simp [Op.operands])
    rw [hx] at h1
    obtain ⟨A, c, hv, hlc, hA, hnl, hc, _⟩ := h1
    refine ⟨_, ?_, rfl⟩
    show (Sem.bind (convert src dt (a.eval x)) fun v => Sem.pure (Next.value v)).run P w = _
    rw [hv]
    refine run_v ?_
    rw [run_convert_bytes_string w src dt te A l.length c hs he hd]
    cases l with
    | nil =>
      cases A with
      | none => simp [Conv.bytesToString]; rfl
      | some ad => simp [Conv.bytesToString, run_loadCells_list (P := P) (w := w) ad [] (fun j v h => by simp at h)]; rfl
    | cons z l =>
      obtain ⟨b, off, rfl, hcells⟩ := hc (by simp)
      have hl2 := run_loadCells_list (P := P) (w := w) ⟨b, off, none⟩ ((z :: l).map (Value.int .u8)) hcells.list
      rw [List.length_map] at hl2
      rw [run_bytesToString w _ _ c _ hl2]
      have hfold : ∀ (l : List Int) (s : ByteArray), l.foldl (fun r n => r.push (UInt8.ofNat n.toNat)) s = ⟨s.data ++ (l.map fun n => UInt8.ofNat n.toNat).toArray⟩ := by
        intro l
        induction l with
        | nil => intro s; simp
        | cons y l ih =>
          intro s
          rw [List.foldl_cons, ih]
          congr 1
          apply Array.toList_inj.1
          simp [ByteArray.push]
      rw [hfold]
      simp [strOf, ByteArray.empty, ByteArray.emptyWithCapacity]
      rfl
end
end Go.Proofs.YtmnhfpcbfdgbcaaDoor.Eng
