/- Requests, in plain Lean: what the functions of layer 35 and of its document answer. -/
import Derived.Test.YtmnhfpcbfdgbcaaDoorEU4
import Derived.Test.YtmnhfpcbfdgbcaaDoorEngX4
namespace Go.Proofs.YtmnhfpcbfdgbcaaDoor.Eng.A
set_option linter.unusedVariables false
set_option linter.unusedSimpArgs false
open Go.RowKit Go.Proofs.YtmnhfpcbfdgbcaaDoor.Plain Go.Proofs.YtmnhfpcbfdgbcaaDoor.Eng Go.Proofs.YtmnhfpcbfdgbcaaDoor.Eng.Pk Go.Proofs.YtmnhfpcbfdgbcaaDoor.Eng.Rd

theorem oNum_t {l : List Int} {n : Int} (h : Wrd l.length) (h2 : U64 n) : oNum l n = some (l ++ vb n.toNat) := grd_t ⟨h, h2⟩ _
theorem oByte_t {l : List Int} {n : Int} (h : Wrd l.length) : oByte l n = some (l ++ [n]) := grd_t h _
def bsB (m : List Int) : List Int := vb m.length ++ m
theorem oBytes_t {l m : List Int} (h : Wrd (l.length + m.length)) : oBytes l m = some (l ++ bsB m) := grd_t h _
theorem u64_nat {n : Int} (h : U64 n) : n.toNat < 18446744073709551616 := by have := h.1; have := h.2; omega

/-- The letters of a kind. -/
def formS (k : Int) : ByteArray :=
  if k = 1 then ⟨#[115, 102]⟩ else if k = 2 ∨ k = 4 ∨ k = 5 then ⟨#[104, 99, 107]⟩ else if k = 3 then ⟨#[104, 99, 107, 118]⟩ else if k = 6 then ⟨#[104, 99, 107, 109, 102]⟩ else if k = 7 ∨ k = 8 then ⟨#[104]⟩ else if k = 9 then ⟨#[115, 99, 116, 107, 114]⟩ else if k = 10 then ⟨#[115, 99]⟩ else if k = 11 then ⟨#[115]⟩ else if k = 12 then ⟨#[115, 99, 109]⟩ else ⟨#[]⟩
theorem qform_eq (k : Int) : F_qform k = some (formS k) := by
  unfold F_qform formS
  simp only [ifb_dec]
  by_cases h1 : k = 1
  · simp [h1]
  by_cases h2 : k = 2
  · simp [h2]
  by_cases h4 : k = 4
  · simp [h4]
  by_cases h5 : k = 5
  · simp [h5]
  by_cases h3 : k = 3
  · simp [h3]
  by_cases h6 : k = 6
  · simp [h6]
  by_cases h7 : k = 7
  · simp [h7]
  by_cases h8 : k = 8
  · simp [h8]
  simp only [h1, h2, h4, h5, h3, h6, h7, h8, if_false, or_self, bnd_s, decide_false, ifb_0]
  by_cases h9 : k = 9
  · simp [h9]
  by_cases h10 : k = 10
  · simp [h10]
  by_cases h11 : k = 11
  · simp [h11]
  by_cases h12 : k = 12
  · simp [h12]
  simp [h9, h10, h11, h12]
theorem kinds (k : Int) (h : 0 ≤ k) : k = 0 ∨ k = 1 ∨ k = 2 ∨ k = 3 ∨ k = 4 ∨ k = 5 ∨ k = 6 ∨ k = 7 ∨ k = 8 ∨ k = 9 ∨ k = 10 ∨ k = 11 ∨ k = 12 ∨ 12 < k := by omega
theorem formS_big {k : Int} (h : 12 < k) : formS k = ⟨#[]⟩ := by
  unfold formS; simp [show ¬ k = 1 by omega, show ¬ k = 2 by omega, show ¬ k = 3 by omega, show ¬ k = 4 by omega, show ¬ k = 5 by omega, show ¬ k = 6 by omega, show ¬ k = 7 by omega, show ¬ k = 8 by omega, show ¬ k = 9 by omega, show ¬ k = 10 by omega, show ¬ k = 11 by omega, show ¬ k = 12 by omega]
theorem qform2_eq (k : Int) (h : 0 ≤ k) : F_qform2 k = some (formS k) := by
  rcases kinds k h with rfl | rfl | rfl | rfl | rfl | rfl | rfl | rfl | rfl | rfl | rfl | rfl | rfl | h
  all_goals first | rfl | skip
  rw [formS_big h]; unfold F_qform2; simp [h]

structure RqOk (q : Rq) : Prop where
  kind : 0 ≤ q.Kind ∧ q.Kind < 256
  space : U64 q.Space
  handle : U64 q.Handle
  slot : I64 q.Ref.Slot
  gen : U64 q.Ref.Gen
  to : U64 q.To
  key : q.Key.size ≤ 100000
  value : q.Value.size ≤ 100000
  rights : 0 ≤ q.Rights ∧ q.Rights < 256
  most : U64 q.Most

/-- A field's bytes. -/
def putL (q : Rq) (c : Int) : List Int :=
  if c = 115 then vb q.Space.toNat else if c = 104 then vb q.Handle.toNat else if c = 116 then vb q.To.toNat else if c = 99 then IntKind.u8.wrap q.Ref.Slot :: vb q.Ref.Gen.toNat else if c = 107 then bsB (bytesOf q.Key) else if c = 118 then bsB (bytesOf q.Value) else if c = 114 then [q.Rights] else if c = 109 then vb q.Most.toNat else if q.Flag = true then [1] else [0]
theorem vb_le {n : Int} (h : U64 n) : (vb n.toNat).length ≤ 10 := (vb_len10 (u64_nat h)).2
theorem bsB_le {m : List Int} (h : m.length ≤ 100000) : (bsB m).length ≤ 100010 := by
  unfold bsB; rw [List.length_append]
  have := (vb_len10 (n := m.length) (by omega)).2; omega
theorem putL_len {q : Rq} (h : RqOk q) (c : Int) : (putL q c).length ≤ 100010 := by
  unfold putL
  have h1 := vb_le h.space; have h2 := vb_le h.handle; have h3 := vb_le h.to; have h4 := vb_le h.gen; have h5 := vb_le h.most
  have h6 := bsB_le (m := bytesOf q.Key) (by rw [bytesOf_length]; exact h.key); have h7 := bsB_le (m := bytesOf q.Value) (by rw [bytesOf_length]; exact h.value)
  repeat' split
  all_goals first | (simp only [List.length_cons, List.length_nil]; omega) | omega
theorem qput_eq {q : Rq} (h : RqOk q) {b : List Int} (hb : b.length ≤ 10000000) (c : Int) : F_qput q b c = some (b ++ putL q c) := by
  have hk : (bytesOf q.Key).length ≤ 100000 := by rw [bytesOf_length]; exact h.key
  have hv : (bytesOf q.Value).length ≤ 100000 := by rw [bytesOf_length]; exact h.value
  have hw : Wrd b.length := by unfold Wrd; omega
  unfold F_qput putL
  simp only [ifb_dec]
  by_cases c1 : c = 115
  · simp [c1, oNum_t hw h.space]
  by_cases c2 : c = 104
  · simp [c2, oNum_t hw h.handle]
  by_cases c3 : c = 116
  · simp [c3, oNum_t hw h.to]
  by_cases c4 : c = 99
  · simp [c4, oByte_t hw, oNum_t (l := b ++ [IntKind.u8.wrap q.Ref.Slot]) (by unfold Wrd; simp; omega) h.gen]
  by_cases c5 : c = 107
  · simp [c5, oBytes_t (l := b) (m := bytesOf q.Key) (by unfold Wrd; omega)]
  by_cases c6 : c = 118
  · simp [c6, oBytes_t (l := b) (m := bytesOf q.Value) (by unfold Wrd; omega)]
  by_cases c7 : c = 114
  · simp [c7, oByte_t hw]
  by_cases c8 : c = 109
  · simp [c8, oNum_t hw h.most]
  simp only [c1, c2, c3, c4, c5, c6, c7, c8, if_false]
  cases q.Flag <;> simp [oByte_t hw]
theorem form_le (k : Int) : (bytesOf (formS k)).length ≤ 5 := by
  unfold formS; repeat' split
  all_goals decide
theorem foldl_app {A : Type} (f : A → List Int) : ∀ (l : List A) (s : List Int), l.foldl (fun s c => s ++ f c) s = s ++ l.flatMap f
  | [], s => by simp
  | a :: l, s => by simp [foldl_app f l]
/-- A request's bytes. -/
def encQ (q : Rq) : List Int := q.Kind :: (bytesOf (formS q.Kind)).flatMap (putL q)
theorem qbytes_eq {q : Rq} (h : RqOk q) {fl : Nat} (hf : 6 < fl) : F_qbytes fl q = some (encQ q) := by
  unfold F_qbytes
  rw [oByte_t (by decide), bnd_s, qform_eq, bnd_s]
  have hl := form_le q.Kind
  have := lp_list (l := bytesOf (formS q.Kind)) (fun i s => (s, (i : Int))) (body := F_qbytes_b0 q (formS q.Kind)) (fun s c => s ++ putL q c) (fun s => s) ([] ++ [q.Kind]) (fl := fl) (fun i s => s.length ≤ 1 + i * 100010) (by simp)
    (fun i x s hx hI => by
      have hi := (List.getElem?_eq_some_iff.1 hx).1
      refine ⟨?_, ?_⟩
      · unfold F_qbytes_b0
        simp only [ifb_dec]
        rw [if_pos (by omega), ixb_n hx, qput_eq h (by omega), bnd_s, wrap_i64 (by omega)]
        rfl
      · have := putL_len h x
        rw [List.length_append]; omega)
    (fun s hI => by
      unfold F_qbytes_b0
      simp only [ifb_dec]
      rw [if_neg (by omega)]) (by omega)
  rw [show (([] ++ [q.Kind] : List Int), (0 : Int)) = (([] ++ [q.Kind] : List Int), ((0 : Nat) : Int)) from rfl, this, foldl_app, bnd_s]
  rfl
end Go.Proofs.YtmnhfpcbfdgbcaaDoor.Eng.A

/- Requests, in plain Lean: reading. -/
namespace Go.Proofs.YtmnhfpcbfdgbcaaDoor.Eng.A
set_option linter.unusedVariables false
set_option linter.unusedSimpArgs false
open Go.RowKit Go.Proofs.YtmnhfpcbfdgbcaaDoor.Plain Go.Proofs.YtmnhfpcbfdgbcaaDoor.Eng Go.Proofs.YtmnhfpcbfdgbcaaDoor.Eng.Pk Go.Proofs.YtmnhfpcbfdgbcaaDoor.Eng.Rd

/-! ### Readers -/
theorem num_sub (m : Nat) (l : List Int) (b : Bool) : ∃ k, (rdNum m l b).2.1 = l.drop k := by
  unfold rdNum; split
  · exact ⟨_, rfl⟩
  · exact ⟨l.length, by simp⟩
theorem byte_sub (l : List Int) (b : Bool) : ∃ k, (rdByte l b).2.1 = l.drop k := ⟨1, by simp [rdByte]⟩
theorem bytes_sub (m : Nat) (l : List Int) (b : Bool) : ∃ k, (rdBytes m l b).2.1 = l.drop k := by
  unfold rdBytes; split
  · obtain ⟨k, hk⟩ := num_sub m l b
    exact ⟨_, by rw [hk, List.drop_drop]⟩
  · exact ⟨l.length, by simp⟩
theorem rdok_sub {r : Rdr} (h : RdOk r) {l : List Int} {b : Bool} (hl : ∃ k, l = r.b_.drop k) : RdOk ⟨l, b⟩ := by
  obtain ⟨k, rfl⟩ := hl
  exact ⟨h.1.drop k, by have := h.2; show (r.b_.drop k).length ≤ _; rw [List.length_drop]; omega⟩
theorem rdok_num {r : Rdr} (h : RdOk r) (m : Nat) : RdOk (rdr (rdNum m r.b_ r.wrong_).2) := rdok_sub h (num_sub _ _ _)
theorem rdok_byte {r : Rdr} (h : RdOk r) : RdOk (rdr (rdByte r.b_ r.wrong_).2) := rdok_sub h (byte_sub _ _)
theorem rdok_bytes {r : Rdr} (h : RdOk r) (m : Nat) : RdOk (rdr (rdBytes m r.b_ r.wrong_).2) := rdok_sub h (bytes_sub _ _ _)
theorem byte_rg {r : Rdr} (h : RdOk r) (b : Bool) : 0 ≤ (rdByte r.b_ b).1 ∧ (rdByte r.b_ b).1 < 256 := by
  obtain ⟨l, w⟩ := r
  cases l with
  | nil => simp [rdByte]
  | cons c t => exact h.1 c (List.mem_cons_self)
theorem oRNum_t {r : Rdr} (h : RdOk r) {m : Int} (hm : U64 m) : oRNum r m = some (((rdNum m.toNat r.b_ r.wrong_).1 : Int), rdr (rdNum m.toNat r.b_ r.wrong_).2) := grd_t ⟨h, hm⟩ _
theorem oRBytes_t {r : Rdr} (h : RdOk r) {m : Int} (hm : I64 m) : oRBytes r m = some ((rdBytes m.toNat r.b_ r.wrong_).1, rdr (rdBytes m.toNat r.b_ r.wrong_).2) := grd_t ⟨h, hm⟩ _
theorem oDNum_t {r : Rdr} (h : RdOk r) {m : Int} (hm : U64 m) : oDNum r m = some (rdr (rdNum m.toNat r.b_ false).2, ((rdNum m.toNat r.b_ false).1 : Int)) := grd_t ⟨h, hm⟩ _
theorem oDBytes_t {r : Rdr} (h : RdOk r) {m : Int} (hm : I64 m) : oDBytes r m = some (rdr (rdBytes m.toNat r.b_ false).2, (rdBytes m.toNat r.b_ false).1) := grd_t ⟨h, hm⟩ _
theorem rdok_f {r : Rdr} (h : RdOk r) : RdOk ⟨r.b_, false⟩ := ⟨h.1, h.2⟩

/-! ### A field taken -/
def q0 (k : Int) : Rq := ⟨k, 0, 0, ⟨0, 0⟩, 0, ⟨#[]⟩, ⟨#[]⟩, 0, 0, false⟩
def takeL (s : Rdr × Rq) (c : Int) : Rdr × Rq :=
  if c = 115 then (rdr (rdNum 4611686018427387904 s.1.b_ s.1.wrong_).2, { s.2 with Space := ((rdNum 4611686018427387904 s.1.b_ s.1.wrong_).1 : Int) })
  else if c = 104 then (rdr (rdNum 4611686018427387904 s.1.b_ s.1.wrong_).2, { s.2 with Handle := ((rdNum 4611686018427387904 s.1.b_ s.1.wrong_).1 : Int) })
  else if c = 116 then (rdr (rdNum 4611686018427387904 s.1.b_ s.1.wrong_).2, { s.2 with To := ((rdNum 4611686018427387904 s.1.b_ s.1.wrong_).1 : Int) })
  else if c = 99 then (rdr (rdNum 4611686018427387904 (rdByte s.1.b_ s.1.wrong_).2.1 (rdByte s.1.b_ s.1.wrong_).2.2).2, { s.2 with Ref := ⟨(rdByte s.1.b_ s.1.wrong_).1, ((rdNum 4611686018427387904 (rdByte s.1.b_ s.1.wrong_).2.1 (rdByte s.1.b_ s.1.wrong_).2.2).1 : Int)⟩ })
  else if c = 107 then (rdr (rdBytes 39 s.1.b_ s.1.wrong_).2, { s.2 with Key := strOf (rdBytes 39 s.1.b_ s.1.wrong_).1 })
  else if c = 118 then (rdr (rdBytes 2048 s.1.b_ s.1.wrong_).2, { s.2 with Value := strOf (rdBytes 2048 s.1.b_ s.1.wrong_).1 })
  else if c = 114 then (rdr (rdByte s.1.b_ s.1.wrong_).2, { s.2 with Rights := (rdByte s.1.b_ s.1.wrong_).1 })
  else if c = 109 then (rdr (rdNum 65536 s.1.b_ s.1.wrong_).2, { s.2 with Most := ((rdNum 65536 s.1.b_ s.1.wrong_).1 : Int) })
  else if c = 102 then (rdr (rdByte s.1.b_ s.1.wrong_).2, { s.2 with Flag := decide ((rdByte s.1.b_ s.1.wrong_).1 = 1) })
  else s
theorem qtake_eq {s : Rdr × Rq} (h : RdOk s.1) (c : Int) : F_qtake s.2 s.1 c = some ((takeL s c).2, (takeL s c).1) := by
  have hb := byte_rg h s.1.wrong_
  unfold F_qtake takeL
  simp only [ifb_dec, oRByte]
  by_cases c1 : c = 115
  · simp [c1, oRNum_t h (m := 4611686018427387904) (by decide)]
  by_cases c2 : c = 104
  · simp [c2, oRNum_t h (m := 4611686018427387904) (by decide)]
  by_cases c3 : c = 116
  · simp [c3, oRNum_t h (m := 4611686018427387904) (by decide)]
  by_cases c4 : c = 99
  · have h2 := rdok_byte h
    simp only [c4, c1, c2, c3, if_true, if_false, bnd_s]
    rw [oRNum_t h2 (m := 4611686018427387904) (by decide), bnd_s, wrap_i64 (by omega)]
    rfl
  by_cases c5 : c = 107
  · simp [c5, oRBytes_t h (m := 39) (by decide)]
  by_cases c6 : c = 118
  · simp [c6, oRBytes_t h (m := 2048) (by decide)]
  by_cases c7 : c = 114
  · simp [c7]
  by_cases c8 : c = 109
  · simp [c8, oRNum_t h (m := 65536) (by decide)]
  by_cases c9 : c = 102
  · simp [c9]
  simp [c1, c2, c3, c4, c5, c6, c7, c8, c9]
theorem take_ok {s : Rdr × Rq} (h : RdOk s.1) (c : Int) : RdOk (takeL s c).1 := by
  unfold takeL
  repeat' split
  all_goals first | exact rdok_num h _ | exact rdok_num (rdok_byte h) _ | exact rdok_bytes h _ | exact rdok_byte h | exact h
theorem take_kind (s : Rdr × Rq) (c : Int) : (takeL s c).2.Kind = s.2.Kind := by
  unfold takeL; repeat' split
  all_goals rfl
theorem fold_kind : ∀ (l : List Int) (s : Rdr × Rq), (l.foldl takeL s).2.Kind = s.2.Kind
  | [], _ => rfl
  | c :: l, s => (fold_kind l (takeL s c)).trans (take_kind s c)
/-- What bytes say. -/
def rdQ (b : List Int) : Rq × Bool :=
  let s := (bytesOf (formS (rdByte b false).1)).foldl takeL (rdr (rdByte b false).2, q0 (rdByte b false).1)
  (s.2, (rdDone s.1.wrong_ s.1.b_).isNone && decide (formS s.2.Kind ≠ ⟨#[]⟩))
theorem qread_eq {b : List Int} (hb : Bts b) (hl : b.length ≤ 10000000) {fl : Nat} (hf : 6 < fl) : F_qread fl b = some (rdQ b) := by
  unfold F_qread
  have h0 : RdOk ⟨b, false⟩ := ⟨hb, by show b.length ≤ _; omega⟩
  have hN : oNew b = some ⟨b, false⟩ := grd_t (show Wrd b.length by unfold Wrd; omega) _
  rw [hN, bnd_s, oRByte, bnd_s, qform_eq, bnd_s]
  have hfl := form_le (rdByte b false).1
  have := lp_list (l := bytesOf (formS (rdByte b false).1)) (fun i s => ((i : Int), s.1, s.2)) (body := F_qread_b0 (formS (rdByte b false).1)) takeL (fun s => (s.1, s.2)) (rdr (rdByte b false).2, q0 (rdByte b false).1) (fl := fl) (fun i s => RdOk s.1) (rdok_byte h0)
    (fun i x s hx hI => by
      have hi := (List.getElem?_eq_some_iff.1 hx).1
      refine ⟨?_, take_ok hI x⟩
      unfold F_qread_b0
      simp only [ifb_dec]
      rw [if_pos (by omega), ixb_n hx, qtake_eq hI, bnd_s, wrap_i64 (by omega)]
      rfl)
    (fun s hI => by
      unfold F_qread_b0
      simp only [ifb_dec]
      rw [if_neg (by omega)]) (by omega)
  simp only [q0] at this
  rw [show ((0 : Int), rdr (rdByte b false).2, (⟨(rdByte b false).1, 0, 0, ⟨0, 0⟩, 0, ⟨#[]⟩, ⟨#[]⟩, 0, 0, false⟩ : Rq)) = (((0 : Nat) : Int), rdr (rdByte b false).2, (⟨(rdByte b false).1, 0, 0, ⟨0, 0⟩, 0, ⟨#[]⟩, ⟨#[]⟩, 0, 0, false⟩ : Rq)) from rfl]
  rw [this, bnd_s, oRDone, bnd_s, qform_eq, gif_s, bnd_s]
  unfold rdQ
  simp only [q0]
  congr 2
  cases (rdDone _ _).isNone <;> rfl
end Go.Proofs.YtmnhfpcbfdgbcaaDoor.Eng.A

/- Requests, in plain Lean: which may be; there and back. -/
namespace Go.Proofs.YtmnhfpcbfdgbcaaDoor.Eng.A
set_option linter.unusedVariables false
set_option linter.unusedSimpArgs false
open Go.RowKit Go.Proofs.YtmnhfpcbfdgbcaaDoor.Plain Go.Proofs.YtmnhfpcbfdgbcaaDoor.Eng Go.Proofs.YtmnhfpcbfdgbcaaDoor.Eng.Pk Go.Proofs.YtmnhfpcbfdgbcaaDoor.Eng.Rd

def hasB (k c : Int) : Bool := (bytesOf (formS k)).any fun x => decide (x = c)
/-- A request that may be. -/
structure MayQ (q : Rq) : Prop where
  form : formS q.Kind ≠ ⟨#[]⟩
  space : q.Space ≤ 4611686018427387904
  handle : q.Handle ≤ 4611686018427387904
  to : q.To ≤ 4611686018427387904
  slot : 0 ≤ q.Ref.Slot ∧ q.Ref.Slot ≤ 63
  gen : q.Ref.Gen ≤ 4611686018427387904
  key : q.Key.size ≤ 39
  value : q.Value.size ≤ 2048
  rights : q.Rights ≤ 63
  most : q.Most ≤ 65536
  nospace : hasB q.Kind 115 = false → q.Space = 0
  nohandle : hasB q.Kind 104 = false → q.Handle = 0
  noto : hasB q.Kind 116 = false → q.To = 0
  noref : hasB q.Kind 99 = false → q.Ref = ⟨0, 0⟩
  nokey : hasB q.Kind 107 = false → q.Key = ⟨#[]⟩
  novalue : hasB q.Kind 118 = false → q.Value = ⟨#[]⟩
  norights : hasB q.Kind 114 = false → q.Rights = 0
  nomost : hasB q.Kind 109 = false → q.Most = 0
  noflag : hasB q.Kind 102 = false → q.Flag = false

/-! ### What is read is within the limits -/
theorem strOf_sz {m : Nat} {l : List Int} (h : l.length ≤ m) : (strOf l).size ≤ m := by rw [strOf_size]; exact h
structure LimQ (q : Rq) : Prop where
  space : 0 ≤ q.Space ∧ q.Space ≤ 4611686018427387904
  handle : 0 ≤ q.Handle ∧ q.Handle ≤ 4611686018427387904
  to : 0 ≤ q.To ∧ q.To ≤ 4611686018427387904
  slot : 0 ≤ q.Ref.Slot ∧ q.Ref.Slot < 256
  gen : 0 ≤ q.Ref.Gen ∧ q.Ref.Gen ≤ 4611686018427387904
  key : q.Key.size ≤ 39
  value : q.Value.size ≤ 2048
  rights : 0 ≤ q.Rights ∧ q.Rights < 256
  most : 0 ≤ q.Most ∧ q.Most ≤ 65536
theorem num_lim (m : Nat) (l : List Int) (b : Bool) : 0 ≤ (((rdNum m l b).1 : Nat) : Int) ∧ (((rdNum m l b).1 : Nat) : Int) ≤ (m : Int) := by
  have := (rdNum_le m l b).1; omega
theorem take_lim {s : Rdr × Rq} (hr : RdOk s.1) (h : LimQ s.2) (c : Int) : LimQ (takeL s c).2 := by
  obtain ⟨h1, h2, h3, h4, h5, h6, h7, h8, h9⟩ := h
  have hb := byte_rg hr s.1.wrong_
  unfold takeL
  repeat' split
  all_goals first
    | exact ⟨num_lim _ _ _, h2, h3, h4, h5, h6, h7, h8, h9⟩
    | exact ⟨h1, num_lim _ _ _, h3, h4, h5, h6, h7, h8, h9⟩
    | exact ⟨h1, h2, num_lim _ _ _, h4, h5, h6, h7, h8, h9⟩
    | exact ⟨h1, h2, h3, hb, num_lim _ _ _, h6, h7, h8, h9⟩
    | exact ⟨h1, h2, h3, h4, h5, strOf_sz (rdBytes_le _ _ _).1, h7, h8, h9⟩
    | exact ⟨h1, h2, h3, h4, h5, h6, strOf_sz (rdBytes_le _ _ _).1, h8, h9⟩
    | exact ⟨h1, h2, h3, h4, h5, h6, h7, hb, h9⟩
    | exact ⟨h1, h2, h3, h4, h5, h6, h7, h8, num_lim _ _ _⟩
    | exact ⟨h1, h2, h3, h4, h5, h6, h7, h8, h9⟩
theorem fold_lim : ∀ (l : List Int) (s : Rdr × Rq), RdOk s.1 → LimQ s.2 → LimQ (l.foldl takeL s).2
  | [], _, _, h => h
  | c :: l, s, hr, h => fold_lim l (takeL s c) (take_ok hr c) (take_lim hr h c)
theorem q0_lim (k : Int) : LimQ (q0 k) := by
  constructor <;> first | (simp [q0]; done) | (show ByteArray.size ⟨#[]⟩ ≤ _; decide)
theorem rdQ_lim {b : List Int} (hb : Bts b) (hl : b.length ≤ 10000000) : LimQ (rdQ b).1 :=
  fold_lim _ _ (rdok_byte (r := ⟨b, false⟩) ⟨hb, by show b.length ≤ _; omega⟩) (q0_lim _)
/-- A field whose letter is not there stays. -/
theorem fold_keep {X : Type} (π : Rq → X) (c0 : Int) (hk : ∀ (s : Rdr × Rq) c, c ≠ c0 → π (takeL s c).2 = π s.2) : ∀ (l : List Int) (s : Rdr × Rq), (l.any fun x => decide (x = c0)) = false → π (l.foldl takeL s).2 = π s.2
  | [], _, _ => rfl
  | c :: l, s, h => by
    simp only [List.any_cons, Bool.or_eq_false_iff, decide_eq_false_iff_not] at h
    exact (fold_keep π c0 hk l (takeL s c) h.2).trans (hk s c h.1)
theorem rdQ_kind (b : List Int) : (rdQ b).1.Kind = (rdByte b false).1 := fold_kind _ _
theorem rdQ_no {X : Type} (π : Rq → X) (c0 : Int) (hk : ∀ (s : Rdr × Rq) c, c ≠ c0 → π (takeL s c).2 = π s.2) {b : List Int} (h : hasB (rdQ b).1.Kind c0 = false) : π (rdQ b).1 = π (q0 (rdByte b false).1) := by
  rw [rdQ_kind] at h
  exact fold_keep π c0 hk _ _ h
set_option maxHeartbeats 4000000 in
theorem rdQ_may {b : List Int} (hb : Bts b) (hl : b.length ≤ 10000000) (hs : (rdQ b).1.Ref.Slot ≤ 63) (hr : (rdQ b).1.Rights ≤ 63) (h : (rdQ b).2 = true) : MayQ (rdQ b).1 := by
  have L := rdQ_lim hb hl
  have hf : formS (rdQ b).1.Kind ≠ ⟨#[]⟩ := by
    simp only [rdQ, Bool.and_eq_true, decide_eq_true_eq] at h
    exact h.2
  refine ⟨hf, L.space.2, L.handle.2, L.to.2, ⟨L.slot.1, hs⟩, L.gen.2, L.key, L.value, hr, L.most.2, fun h => ?_, fun h => ?_, fun h => ?_, fun h => ?_, fun h => ?_, fun h => ?_, fun h => ?_, fun h => ?_, fun h => ?_⟩
  · exact rdQ_no Rq.Space 115 (fun s c hc => by unfold takeL; simp only [hc, if_false]; (repeat' split) <;> rfl) h
  · exact rdQ_no Rq.Handle 104 (fun s c hc => by unfold takeL; simp only [hc, if_false]; (repeat' split) <;> rfl) h
  · exact rdQ_no Rq.To 116 (fun s c hc => by unfold takeL; simp only [hc, if_false]; (repeat' split) <;> rfl) h
  · exact rdQ_no Rq.Ref 99 (fun s c hc => by unfold takeL; simp only [hc, if_false]; (repeat' split) <;> rfl) h
  · exact rdQ_no Rq.Key 107 (fun s c hc => by unfold takeL; simp only [hc, if_false]; (repeat' split) <;> rfl) h
  · exact rdQ_no Rq.Value 118 (fun s c hc => by unfold takeL; simp only [hc, if_false]; (repeat' split) <;> rfl) h
  · exact rdQ_no Rq.Rights 114 (fun s c hc => by unfold takeL; simp only [hc, if_false]; (repeat' split) <;> rfl) h
  · exact rdQ_no Rq.Most 109 (fun s c hc => by unfold takeL; simp only [hc, if_false]; (repeat' split) <;> rfl) h
  · exact rdQ_no Rq.Flag 102 (fun s c hc => by unfold takeL; simp only [hc, if_false]; (repeat' split) <;> rfl) h

/-! ### There and back -/
def setL (q' q : Rq) (c : Int) : Rq :=
  if c = 115 then { q' with Space := q.Space } else if c = 104 then { q' with Handle := q.Handle } else if c = 116 then { q' with To := q.To } else if c = 99 then { q' with Ref := q.Ref } else if c = 107 then { q' with Key := q.Key }
  else if c = 118 then { q' with Value := q.Value } else if c = 114 then { q' with Rights := q.Rights } else if c = 109 then { q' with Most := q.Most } else if c = 102 then { q' with Flag := q.Flag } else q'
theorem num_back {n : Int} {m : Nat} (h : U64 n) (hm : n ≤ (m : Int)) (t : List Int) : rdNum m (vb n.toNat ++ t) false = (n.toNat, t, false) := rdNum_vb (u64_nat h) (by have := h.1; omega) t false
theorem bytes_back {s : ByteArray} {m : Nat} (h : s.size ≤ m) (hm : m < 18446744073709551616) (t : List Int) : rdBytes m (bsB (bytesOf s) ++ t) false = (bytesOf s, t, false) := by
  unfold bsB; rw [List.append_assoc]
  exact rdBytes_vb (by rw [bytesOf_length]; exact h) (by rw [bytesOf_length]; omega) false
theorem u8_slot {n : Int} (h : 0 ≤ n ∧ n ≤ 63) : IntKind.u8.wrap n = n := wrap_u8 (by omega)
theorem take_put {q : Rq} (hq : RqOk q) (hm : MayQ q) (q' : Rq) {c : Int} (hc : c = 115 ∨ c = 104 ∨ c = 116 ∨ c = 99 ∨ c = 107 ∨ c = 118 ∨ c = 114 ∨ c = 109 ∨ c = 102) (t : List Int) : takeL (⟨putL q c ++ t, false⟩, q') c = (⟨t, false⟩, setL q' q c) := by
  have i (n : Int) (h : U64 n) : ((n.toNat : Nat) : Int) = n := by have := h.1; omega
  rcases hc with rfl | rfl | rfl | rfl | rfl | rfl | rfl | rfl | rfl
  · simp [takeL, putL, setL, num_back hq.space (m := 4611686018427387904) hm.space, rdr, i _ hq.space]
  · simp [takeL, putL, setL, num_back hq.handle (m := 4611686018427387904) hm.handle, rdr, i _ hq.handle]
  · simp [takeL, putL, setL, num_back hq.to (m := 4611686018427387904) hm.to, rdr, i _ hq.to]
  · simp [takeL, putL, setL, num_back hq.gen (m := 4611686018427387904) hm.gen, rdr, i _ hq.gen, rdByte, u8_slot hm.slot]
  · simp [takeL, putL, setL, bytes_back hm.key (m := 39) (by decide), rdr, strOf_bytesOf]
  · simp [takeL, putL, setL, bytes_back hm.value (m := 2048) (by decide), rdr, strOf_bytesOf]
  · simp [takeL, putL, setL, rdByte, rdr]
  · simp [takeL, putL, setL, num_back hq.most (m := 65536) hm.most, rdr, i _ hq.most]
  · cases hfl : q.Flag <;> simp [takeL, putL, setL, rdByte, rdr, hfl]
theorem fold_put {q : Rq} (hq : RqOk q) (hm : MayQ q) : ∀ (l : List Int), (∀ c ∈ l, c = 115 ∨ c = 104 ∨ c = 116 ∨ c = 99 ∨ c = 107 ∨ c = 118 ∨ c = 114 ∨ c = 109 ∨ c = 102) → ∀ (q' : Rq) (t : List Int), l.foldl takeL (⟨l.flatMap (putL q) ++ t, false⟩, q') = (⟨t, false⟩, l.foldl (fun q' c => setL q' q c) q')
  | [], _, q', t => rfl
  | c :: l, h, q', t => by
    rw [List.flatMap_cons, List.foldl_cons, List.foldl_cons, List.append_assoc, take_put hq hm q' (h c (by simp)), fold_put hq hm l (fun c hc => h c (by simp [hc]))]
theorem letters (k : Int) : ∀ c ∈ bytesOf (formS k), c = 115 ∨ c = 104 ∨ c = 116 ∨ c = 99 ∨ c = 107 ∨ c = 118 ∨ c = 114 ∨ c = 109 ∨ c = 102 := by
  unfold formS; repeat' split
  all_goals decide
theorem set_all {q : Rq} (hk : 0 ≤ q.Kind) (hm : MayQ q) : (bytesOf (formS q.Kind)).foldl (fun q' c => setL q' q c) (q0 q.Kind) = q := by
  obtain ⟨k, a1, a2, a3, a4, a5, a6, a7, a8, a9⟩ := q
  obtain ⟨h0, _, _, _, _, _, _, _, _, _, h1, h2, h3, h4, h5, h6, h7, h8, h9⟩ := hm
  simp only at h0 h1 h2 h3 h4 h5 h6 h7 h8 h9 hk ⊢
  rcases kinds k hk with rfl | rfl | rfl | rfl | rfl | rfl | rfl | rfl | rfl | rfl | rfl | rfl | rfl | h
  · exact absurd rfl h0
  · rw [h2 rfl, h3 rfl, h4 rfl, h5 rfl, h6 rfl, h7 rfl, h8 rfl]; rfl
  · rw [h1 rfl, h3 rfl, h6 rfl, h7 rfl, h8 rfl, h9 rfl]; rfl
  · rw [h1 rfl, h3 rfl, h7 rfl, h8 rfl, h9 rfl]; rfl
  · rw [h1 rfl, h3 rfl, h6 rfl, h7 rfl, h8 rfl, h9 rfl]; rfl
  · rw [h1 rfl, h3 rfl, h6 rfl, h7 rfl, h8 rfl, h9 rfl]; rfl
  · rw [h1 rfl, h3 rfl, h6 rfl, h7 rfl]; rfl
  · rw [h1 rfl, h3 rfl, h4 rfl, h5 rfl, h6 rfl, h7 rfl, h8 rfl, h9 rfl]; rfl
  · rw [h1 rfl, h3 rfl, h4 rfl, h5 rfl, h6 rfl, h7 rfl, h8 rfl, h9 rfl]; rfl
  · rw [h2 rfl, h6 rfl, h8 rfl, h9 rfl]; rfl
  · rw [h2 rfl, h3 rfl, h5 rfl, h6 rfl, h7 rfl, h8 rfl, h9 rfl]; rfl
  · rw [h2 rfl, h3 rfl, h4 rfl, h5 rfl, h6 rfl, h7 rfl, h8 rfl, h9 rfl]; rfl
  · rw [h2 rfl, h3 rfl, h5 rfl, h6 rfl, h7 rfl, h9 rfl]; rfl
  · exact absurd (formS_big h) h0
theorem fold_enc {q : Rq} (hq : RqOk q) (hm : MayQ q) (t : List Int) : (bytesOf (formS q.Kind)).foldl takeL (⟨(bytesOf (formS q.Kind)).flatMap (putL q) ++ t, false⟩, q0 q.Kind) = (⟨t, false⟩, q) := by
  rw [fold_put hq hm _ (letters _), set_all hq.kind.1 hm]
theorem rd_enc {q : Rq} (hq : RqOk q) (hm : MayQ q) : rdQ (encQ q) = (q, true) := by
  unfold rdQ encQ
  have h := fold_enc hq hm []
  rw [List.append_nil] at h
  simp only [rdByte, List.headD_cons, List.tail_cons, List.isEmpty_cons, Bool.or_false, rdr, h, rdDone]
  simp [hm.form]
theorem putL_bts {q : Rq} (hq : RqOk q) (c : Int) : Bts (putL q c) := by
  have hbs : ∀ s : ByteArray, Bts (bsB (bytesOf s)) := fun s => by
    refine Bts.app (vb_bts _) fun x hx => ?_
    simp only [bytesOf, List.mem_map] at hx
    obtain ⟨u, _, rfl⟩ := hx
    have := u.toNat_lt; omega
  unfold putL
  repeat' split
  all_goals first | exact vb_bts _ | exact hbs _ | exact Bts.one hq.rights.1 hq.rights.2 | exact Bts.one (by decide) (by decide) | skip
  have h8 := IntKind.wrap_u8' q.Ref.Slot
  exact Bts.cons (by rw [h8]; omega) (by rw [h8]; omega) (vb_bts _)
theorem encQ_bts {q : Rq} (hq : RqOk q) : Bts (encQ q) := by
  refine Bts.cons hq.kind.1 hq.kind.2 fun x hx => ?_
  obtain ⟨c, _, hx⟩ := List.mem_flatMap.1 hx
  exact putL_bts hq c x hx
theorem flat_len {f : Int → List Int} {n : Nat} (h : ∀ c, (f c).length ≤ n) : ∀ l : List Int, (l.flatMap f).length ≤ l.length * n
  | [] => by simp
  | c :: l => by
    rw [List.flatMap_cons, List.length_append, List.length_cons, Nat.add_mul]
    have := h c; have := flat_len h l; omega
theorem encQ_len {q : Rq} (hq : RqOk q) : (encQ q).length ≤ 1000000 := by
  have h1 := flat_len (putL_len hq) (bytesOf (formS q.Kind))
  have h2 := form_le q.Kind
  have h3 : (bytesOf (formS q.Kind)).length * 100010 ≤ 5 * 100010 := Nat.mul_le_mul_right _ h2
  unfold encQ; rw [List.length_cons]; omega
end Go.Proofs.YtmnhfpcbfdgbcaaDoor.Eng.A

/- Requests, in plain Lean: the program's check, bytes and reading. -/
namespace Go.Proofs.YtmnhfpcbfdgbcaaDoor.Eng.A
set_option linter.unusedVariables false
set_option linter.unusedSimpArgs false
open Go.RowKit Go.Proofs.YtmnhfpcbfdgbcaaDoor.Plain Go.Proofs.YtmnhfpcbfdgbcaaDoor.Eng Go.Proofs.YtmnhfpcbfdgbcaaDoor.Eng.Pk Go.Proofs.YtmnhfpcbfdgbcaaDoor.Eng.Rd

open Classical in
noncomputable def mayQ (q : Rq) : Bool := decide (MayQ q)
theorem mayQ_iff {q : Rq} : mayQ q = true ↔ MayQ q := by unfold mayQ; simp
theorem mayQ_f {q : Rq} (h : ¬ MayQ q) : mayQ q = false := by cases hm : mayQ q with
  | false => rfl
  | true => exact absurd (mayQ_iff.1 hm) h
theorem rq_ext {a b : Rq} (h : (decide (a.Kind = b.Kind) && (decide (a.Space = b.Space) && (decide (a.Handle = b.Handle) && (decide (a.Ref.Slot = b.Ref.Slot) && (decide (a.Ref.Gen = b.Ref.Gen) && (decide (a.To = b.To) && (decide (a.Key = b.Key) && (decide (a.Value = b.Value) && (decide (a.Rights = b.Rights) && (decide (a.Most = b.Most) && (decide (a.Flag = b.Flag) && true))))))))))) = true) : a = b := by
  obtain ⟨k, s, h_, ⟨sl, g⟩, t, ke, v, r, m, f⟩ := a
  obtain ⟨k', s', h', ⟨sl', g'⟩, t', ke', v', r', m', f'⟩ := b
  simp only [Bool.and_eq_true, decide_eq_true_eq, and_true] at h
  obtain ⟨rfl, rfl, rfl, rfl, rfl, rfl, rfl, rfl, rfl, rfl, rfl⟩ := h
  rfl
theorem rq_self (a : Rq) : (decide (a.Kind = a.Kind) && (decide (a.Space = a.Space) && (decide (a.Handle = a.Handle) && (decide (a.Ref.Slot = a.Ref.Slot) && (decide (a.Ref.Gen = a.Ref.Gen) && (decide (a.To = a.To) && (decide (a.Key = a.Key) && (decide (a.Value = a.Value) && (decide (a.Rights = a.Rights) && (decide (a.Most = a.Most) && (decide (a.Flag = a.Flag) && true))))))))))) = true := by simp
theorem qcheck_eq {q : Rq} (hq : RqOk q) {fl : Nat} (hf : 6 < fl) : F_qcheck fl q = some (if mayQ q = true then none else some 1) := by
  unfold F_qcheck
  by_cases h1 : q.Ref.Slot < 0 ∨ 64 ≤ q.Ref.Slot
  · have hn : mayQ q = false := mayQ_f fun h => by have := h.slot; omega
    have hb : (decide (q.Ref.Slot < 0) || decide (64 ≤ q.Ref.Slot)) = true := by simpa using h1
    rw [hb, hn]; rfl
  · have hb : (decide (q.Ref.Slot < 0) || decide (64 ≤ q.Ref.Slot)) = false := by simpa using h1
    rw [hb]
    simp only [F_rtchk, ifb_dec, Bool.false_or, BEq.rfl, gif_1]
    by_cases h2 : 63 < q.Rights
    · have hn : mayQ q = false := mayQ_f fun h => by have := h.rights; omega
      simp [h2, hn]
    · simp only [h2, if_false, bnd_s, Option.isSome_none, ifb_0]
      rw [qbytes_eq hq hf, bnd_s, qread_eq (encQ_bts hq) (by have := encQ_len hq; omega) hf, bnd_s]
      by_cases hm : MayQ q
      · rw [rd_enc hq hm, mayQ_iff.2 hm, rq_self]; rfl
      · rw [mayQ_f hm]
        cases hx : (rdQ (encQ q)).2 with
        | false => rfl
        | true =>
          generalize hd : (decide ((rdQ (encQ q)).1.Kind = q.Kind) && _) = d
          cases d with
          | false => rfl
          | true =>
            have he := rq_ext hd
            have := rdQ_may (encQ_bts hq) (by have := encQ_len hq; omega) (by rw [he]; omega) (by rw [he]; omega) hx
            rw [he] at this
            exact absurd this hm
theorem qenc_eq {q : Rq} (hq : RqOk q) {fl : Nat} (hf : 6 < fl) : F_qenc fl q = some (if mayQ q = true then (encQ q, none) else ([], some 1)) := by
  unfold F_qenc
  rw [qcheck_eq hq hf, bnd_s]
  by_cases hm : mayQ q = true
  · rw [if_pos hm, if_pos hm]
    simp only [Option.isSome_none, ifb_0]
    rw [qbytes_eq hq hf]; rfl
  · rw [if_neg hm, if_neg hm]; rfl
theorem lim_ok {q : Rq} (h : LimQ q) (hk : 0 ≤ q.Kind ∧ q.Kind < 256) : RqOk q :=
  ⟨hk, ⟨h.space.1, by have := h.space.2; omega⟩, ⟨h.handle.1, by have := h.handle.2; omega⟩, ⟨by have := h.slot.1; omega, by have := h.slot.2; omega⟩, ⟨h.gen.1, by have := h.gen.2; omega⟩, ⟨h.to.1, by have := h.to.2; omega⟩, by have := h.key; omega, by have := h.value; omega, h.rights, ⟨h.most.1, by have := h.most.2; omega⟩⟩
theorem rdQ_ok {b : List Int} (hb : Bts b) (hl : b.length ≤ 10000000) : RqOk (rdQ b).1 :=
  lim_ok (rdQ_lim hb hl) (by rw [rdQ_kind]; exact byte_rg (r := ⟨b, false⟩) ⟨hb, by show b.length ≤ _; omega⟩ false)
theorem str_eq {a b : List Int} (ha : Bts a) (hb : Bts b) : strOf a = strOf b ↔ a = b := ⟨fun h => by rw [← bytesOf_strOf ha, ← bytesOf_strOf hb, h], fun h => by rw [h]⟩
/-- The request of bytes. -/
noncomputable def decQ (b : List Int) : Option Rq := if mayQ (rdQ b).1 = true ∧ (rdQ b).2 = true ∧ encQ (rdQ b).1 = b then some (rdQ b).1 else none
noncomputable def decR (b : List Int) : Rq × Option Int := match decQ b with | some q => (q, none) | none => (q0 0, some 3)
noncomputable def decN (b : List Int) : Rq × Int := match decQ b with | some q => (q, 0) | none => (q0 0, 3)
theorem decQ_some {b : List Int} {q : Rq} (hq : RqOk q) (hm : MayQ q) (he : encQ q = b) : decQ b = some q := by
  subst he
  unfold decQ
  rw [rd_enc hq hm, if_pos ⟨mayQ_iff.2 hm, rfl, rfl⟩]
theorem qdec_eq {b : List Int} (hb : Bts b) (hl : b.length ≤ 10000000) {fl : Nat} (hf : 6 < fl) : F_qdec fl b = some (decR b) := by
  unfold F_qdec
  rw [qread_eq hb hl hf, bnd_s, qcheck_eq (rdQ_ok hb hl) hf]
  have hkey : decR b = if mayQ (rdQ b).1 = true ∧ (rdQ b).2 = true ∧ encQ (rdQ b).1 = b then ((rdQ b).1, none) else (q0 0, some 3) := by
    unfold decR decQ; split <;> (rename_i h; split at h <;> simp_all)
  rw [hkey]
  cases h2 : (rdQ b).2 with
  | false =>
    rw [if_neg (show ¬ (mayQ (rdQ b).1 = true ∧ false = true ∧ encQ (rdQ b).1 = b) from fun h => nomatch h.2.1)]
    rfl
  | true =>
    simp only [Bool.not_true, BEq.rfl, gif_1, bnd_s, Bool.false_or]
    by_cases hm : mayQ (rdQ b).1 = true
    · rw [if_pos hm]
      simp only [Option.isSome_none, BEq.rfl, gif_1, Bool.false_or]
      rw [qbytes_eq (rdQ_ok hb hl) hf, bnd_s, ifb_dec]
      by_cases he : encQ (rdQ b).1 = b
      · rw [if_neg (by rw [ne_eq, str_eq (encQ_bts (rdQ_ok hb hl)) hb]; simpa using he), if_pos ⟨hm, trivial, he⟩]
      · rw [if_pos (by rw [ne_eq, str_eq (encQ_bts (rdQ_ok hb hl)) hb]; exact he), if_neg (fun h => he h.2.2)]; rfl
    · rw [if_neg hm, if_neg (fun h => hm h.1)]
      simp [q0]

/-! ### The document -/
theorem byteAt_n {s : ByteArray} {i : Nat} {x : Int} (h : (bytesOf s)[i]? = some x) : byteAt s (i : Int) = x := by
  unfold byteAt; rw [List.getD_eq_getElem?_getD, Int.toNat_natCast, h]; rfl
theorem bel {s : ByteArray} {i : Nat} (h : i < (bytesOf s).length) : Below (i : Int) s.size := ⟨by omega, by rw [← bytesOf_length]; simpa using h⟩
theorem qhas2_eq {k : Int} (hk : 0 ≤ k) (c : Int) {fl : Nat} (hf : 6 < fl) : F_qhas2 fl k c = some (hasB k c) := by
  unfold F_qhas2
  rw [qform2_eq k hk, bnd_s]
  have hl := form_le k
  have hn : ∀ i x, (bytesOf (formS k))[i]? = some x → decide (x = c) = false → F_qhas2_b0 c (formS k) ((i : Nat) : Int) = some (.inl (((i + 1 : Nat)) : Int)) := fun i x hx hp => by
    have hi := (List.getElem?_eq_some_iff.1 hx).1
    unfold F_qhas2_b0
    simp only [ifb_dec]
    rw [if_pos (by rw [← bytesOf_length]; omega), grd_t (bel hi), byteAt_n hx, if_neg (by simpa using hp), wrap_i64 (by omega)]
    rfl
  unfold hasB
  cases ha : ((bytesOf (formS k)).any fun x => decide (x = c)) with
  | false =>
    have := lp_none (body := F_qhas2_b0 c (formS k)) (fun i => ((i : Nat) : Int)) (fun x => decide (x = c)) (e := Sum.inr ()) (fl := fl) ha hn (by
      unfold F_qhas2_b0
      simp only [ifb_dec]
      rw [if_neg (by rw [← bytesOf_length]; omega)]) (by omega)
    rw [show (0 : Int) = ((0 : Nat) : Int) from rfl, this]; rfl
  | true =>
    obtain ⟨i, x, h1, h2, h3⟩ := lp_hit (body := F_qhas2_b0 c (formS k)) (fun i => ((i : Nat) : Int)) (fun x => decide (x = c)) (fl := fl) (fun _ _ => Sum.inl true) ha hn (fun i x hx hp => by
      have hi := (List.getElem?_eq_some_iff.1 hx).1
      unfold F_qhas2_b0
      simp only [ifb_dec]
      rw [if_pos (by rw [← bytesOf_length]; omega), grd_t (bel hi), byteAt_n hx, if_pos (by simpa using hp)]) (by omega)
    rw [show (0 : Int) = ((0 : Nat) : Int) from rfl, h3]; rfl
theorem or_g (A h d p : Bool) : (A || ((!(if (A == false) = true then h else d)) && p)) = (A || (!h && p)) := by cases A <;> simp
theorem and_g (A h d p : Bool) : (A && ((if (A == true) = true then h else d) || p)) = (A && (h || p)) := by cases A <;> simp
theorem imp_b {s : Bool} {p : Prop} [Decidable p] : (!s && decide (¬ p)) = false ↔ (s = false → p) := by cases s <;> simp
theorem orp_b {s : Bool} {p : Prop} [Decidable p] : (s || decide p) = true ↔ (s = false → p) := by cases s <;> simp
theorem orf_b {s f : Bool} : (s || !f) = true ↔ (s = false → f = false) := by cases s <;> simp
theorem ifb_or {A : Bool} {b : Bool} : ifb A (some false) (some b) = some (!A && b) := by cases A <;> rfl
theorem qmay2_eq {q : Rq} (hq : RqOk q) {fl : Nat} (hf : 6 < fl) : F_qmay2 fl q = some (mayQ q) := by
  unfold F_qmay2
  have hh := fun c => qhas2_eq hq.kind.1 c hf
  simp only [qform2_eq _ hq.kind.1, hh, bnd_s, gif_s, or_g, and_g, ifb_or]
  have hr : ∀ r : Rf, r = ⟨0, 0⟩ ↔ (r.Slot = 0 ∧ r.Gen = 0) := fun ⟨a, b⟩ => by simp
  congr 1
  rw [Bool.eq_iff_iff, mayQ_iff]
  simp only [Bool.and_eq_true, Bool.not_eq_true', Bool.or_eq_false_iff, orp_b, orf_b, decide_eq_false_iff_not, ne_eq, imp_b]
  have hs : (!hasB q.Kind 99 && (decide (¬ q.Ref.Slot = 0) || decide (¬ q.Ref.Gen = 0))) = false ↔ (hasB q.Kind 99 = false → q.Ref = ⟨0, 0⟩) := by
    rw [hr]; cases hasB q.Kind 99 <;> simp
  constructor
  · rintro ⟨⟨⟨⟨⟨⟨⟨⟨⟨⟨⟨a0, a1⟩, a2⟩, a3⟩, a4⟩, a5⟩, a6⟩, a7⟩, a8⟩, a9⟩, a10⟩, ⟨⟨⟨b1, b2⟩, b3⟩, b4⟩, ⟨⟨⟨b5, b6⟩, b7⟩, b8⟩, b9⟩
    exact ⟨a0, by omega, by omega, by omega, by omega, by omega, by omega, by omega, by omega, by omega, b1, b2, b3, hs.1 b4, b5, b6, b7, b8, b9⟩
  · rintro ⟨h0, h1, h2, h3, h4, h5, h6, h7, h8, h9, b1, b2, b3, b4, b5, b6, b7, b8, b9⟩
    exact ⟨⟨⟨⟨⟨⟨⟨⟨⟨⟨⟨h0, by omega⟩, by omega⟩, by omega⟩, by omega⟩, by omega⟩, by omega⟩, by omega⟩, by omega⟩, by omega⟩, by omega⟩, ⟨⟨⟨b1, b2⟩, b3⟩, hs.2 b4⟩, ⟨⟨⟨b5, b6⟩, b7⟩, b8⟩, b9⟩
end Go.Proofs.YtmnhfpcbfdgbcaaDoor.Eng.A

/- Requests, in plain Lean: the document's bytes and reading; the law. -/
namespace Go.Proofs.YtmnhfpcbfdgbcaaDoor.Eng.A
set_option linter.unusedVariables false
set_option linter.unusedSimpArgs false
open Go.RowKit Go.Proofs.YtmnhfpcbfdgbcaaDoor.Plain Go.Proofs.YtmnhfpcbfdgbcaaDoor.Eng Go.Proofs.YtmnhfpcbfdgbcaaDoor.Eng.Pk Go.Proofs.YtmnhfpcbfdgbcaaDoor.Eng.Rd

def optB (b : Bool) (l : List Int) : List Int := if b = true then l else []
theorem optB_le {b : Bool} {l : List Int} {n : Nat} (h : l.length ≤ n) : (optB b l).length ≤ n := by cases b <;> simp [optB, h]
theorem st_num {b : Bool} {z : List Int} {n : Int} (h : z.length ≤ 1000000) (hn : U64 n) : (ifb b (bnd (oNum z n) fun x => some x) (some z)) = some (z ++ optB b (vb n.toNat)) ∧ (z ++ optB b (vb n.toNat)).length ≤ z.length + 10 := by
  refine ⟨?_, by rw [List.length_append]; have := optB_le (b := b) (vb_le hn); omega⟩
  cases b
  · simp [optB]
  · rw [ifb_1, oNum_t (by unfold Wrd; omega) hn]; rfl
theorem st_bytes {b : Bool} {z m : List Int} (h : z.length ≤ 1000000) (hm : m.length ≤ 100000) : (ifb b (bnd (oBytes z m) fun x => some x) (some z)) = some (z ++ optB b (bsB m)) ∧ (z ++ optB b (bsB m)).length ≤ z.length + 100010 := by
  refine ⟨?_, by rw [List.length_append]; have := optB_le (b := b) (bsB_le hm); omega⟩
  cases b
  · simp [optB]
  · rw [ifb_1, oBytes_t (by unfold Wrd; omega)]; rfl
theorem st_ref {b : Bool} {z : List Int} {c n : Int} (h : z.length ≤ 1000000) (hn : U64 n) : (ifb b (grd (Fits 1 (z.length + [c].length)) <| bnd (oNum (z ++ [c]) n) fun x => some x) (some z)) = some (z ++ optB b (c :: vb n.toNat)) ∧ (z ++ optB b (c :: vb n.toNat)).length ≤ z.length + 11 := by
  refine ⟨?_, by rw [List.length_append]; have := optB_le (b := b) (n := 11) (l := c :: vb n.toNat) (by simp; exact vb_le hn); omega⟩
  cases b
  · simp [optB]
  · rw [ifb_1, grd_t (by unfold Fits; simp; omega), oNum_t (by unfold Wrd; simp; omega) hn]; simp [optB]
theorem st_one {b : Bool} {z : List Int} {c : Int} (h : z.length ≤ 1000000) : (ifb b (grd (Fits 1 (z.length + [c].length)) <| some (z ++ [c])) (some z)) = some (z ++ optB b [c]) ∧ (z ++ optB b [c]).length ≤ z.length + 1 := by
  refine ⟨?_, by rw [List.length_append]; have := optB_le (b := b) (n := 1) (l := [c]) (by simp); omega⟩
  cases b
  · simp [optB]
  · rw [ifb_1, grd_t (by unfold Fits; simp; omega)]; rfl
def encD (q : Rq) : List Int :=
  [q.Kind] ++ optB (hasB q.Kind 115) (vb q.Space.toNat) ++ optB (hasB q.Kind 104) (vb q.Handle.toNat) ++ optB (hasB q.Kind 99) (IntKind.u8.wrap q.Ref.Slot :: vb q.Ref.Gen.toNat) ++ optB (hasB q.Kind 116) (vb q.To.toNat) ++ optB (hasB q.Kind 107) (bsB (bytesOf q.Key)) ++ optB (hasB q.Kind 118) (bsB (bytesOf q.Value)) ++ optB (hasB q.Kind 114) [q.Rights] ++ optB (hasB q.Kind 109) (vb q.Most.toNat) ++ optB (hasB q.Kind 102) (if q.Flag = true then [1] else [0])
theorem encD_eq {q : Rq} (hk : 0 ≤ q.Kind) : encD q = encQ q := by
  obtain ⟨k, a1, a2, a3, a4, a5, a6, a7, a8, a9⟩ := q
  simp only at hk
  rcases kinds k hk with rfl | rfl | rfl | rfl | rfl | rfl | rfl | rfl | rfl | rfl | rfl | rfl | rfl | h
  all_goals first
    | (simp [encD, encQ, hasB, formS, bytesOf, putL, optB]; done)
    | skip
  · unfold encD encQ hasB
    simp only [formS_big h]
    simp [bytesOf, optB]
theorem qenc2_eq {q : Rq} (hq : RqOk q) {fl : Nat} (hf : 6 < fl) : F_qenc2 fl q = some (if mayQ q = true then (encQ q, 0) else ([], 1)) := by
  unfold F_qenc2
  rw [qmay2_eq hq hf, bnd_s]
  by_cases hm : mayQ q = true
  · rw [if_pos hm, hm, ← encD_eq hq.kind.1]
    have hh := fun c => qhas2_eq hq.kind.1 c hf
    have hk : (bytesOf q.Key).length ≤ 100000 := by rw [bytesOf_length]; exact hq.key
    have hv : (bytesOf q.Value).length ≤ 100000 := by rw [bytesOf_length]; exact hq.value
    simp only [Bool.not_true, ifb_0, hh, bnd_s]
    obtain ⟨e1, l1⟩ := st_num (b := hasB q.Kind 115) (z := [q.Kind]) (by simp) hq.space
    rw [e1, bnd_s]
    obtain ⟨e2, l2⟩ := st_num (b := hasB q.Kind 104) (z := [q.Kind] ++ optB (hasB q.Kind 115) (vb q.Space.toNat)) (by simp only [List.length_cons, List.length_nil] at l1; omega) hq.handle
    rw [e2, bnd_s]
    generalize hz2 : ([q.Kind] ++ optB (hasB q.Kind 115) (vb q.Space.toNat)) ++ optB (hasB q.Kind 104) (vb q.Handle.toNat) = z2 at l2 ⊢
    simp only [List.length_cons, List.length_nil] at l1
    obtain ⟨e3, l3⟩ := st_ref (b := hasB q.Kind 99) (z := z2) (c := IntKind.u8.wrap q.Ref.Slot) (by omega) hq.gen
    rw [e3, bnd_s]
    obtain ⟨e4, l4⟩ := st_num (b := hasB q.Kind 116) (z := z2 ++ optB (hasB q.Kind 99) (IntKind.u8.wrap q.Ref.Slot :: vb q.Ref.Gen.toNat)) (by omega) hq.to
    rw [e4, bnd_s]
    obtain ⟨e5, l5⟩ := st_bytes (b := hasB q.Kind 107) (z := _) (m := bytesOf q.Key) (Nat.le_trans l4 (by omega)) hk
    rw [e5, bnd_s]
    obtain ⟨e6, l6⟩ := st_bytes (b := hasB q.Kind 118) (z := _) (m := bytesOf q.Value) (Nat.le_trans l5 (by omega)) hv
    rw [e6, bnd_s]
    obtain ⟨e7, l7⟩ := st_one (b := hasB q.Kind 114) (z := _) (c := q.Rights) (Nat.le_trans l6 (by omega))
    rw [e7, bnd_s]
    obtain ⟨e8, l8⟩ := st_num (b := hasB q.Kind 109) (z := _) (Nat.le_trans l7 (by omega)) hq.most
    rw [e8, bnd_s]
    generalize hz8 : _ ++ optB (hasB q.Kind 109) (vb q.Most.toNat) = z8 at l8 ⊢
    have l8' : z8.length ≤ 1000000 := by omega
    have hg : ∀ c : Int, Fits 1 (z8.length + [c].length) := fun c => by unfold Fits; simp; omega
    unfold encD
    rw [hz2, hz8, grd_t (hg 1), grd_t (hg 0)]
    cases hasB q.Kind 102 <;> cases q.Flag <;> simp [optB]
  · rw [if_neg hm]
    cases h : mayQ q with
    | true => exact absurd h hm
    | false => rfl

/-! ### Reading -/
def takeD (s : Rdr × Rq) (c : Int) : Rdr × Rq :=
  let n := rdNum 4611686018427387904 s.1.b_ false
  let y := rdByte s.1.b_ false
  let t := rdBytes 2048 s.1.b_ false
  if c = 115 then (rdr n.2, { s.2 with Space := (n.1 : Int) }) else if c = 104 then (rdr n.2, { s.2 with Handle := (n.1 : Int) }) else if c = 116 then (rdr n.2, { s.2 with To := (n.1 : Int) }) else if c = 109 then (rdr n.2, { s.2 with Most := (n.1 : Int) })
  else if c = 107 then (rdr t.2, { s.2 with Key := strOf t.1 }) else if c = 118 then (rdr t.2, { s.2 with Value := strOf t.1 }) else if c = 114 then (rdr y.2, { s.2 with Rights := y.1 }) else if c = 102 then (rdr y.2, { s.2 with Flag := decide (y.1 = 1) })
  else if y.2.2 = false then (rdr (rdNum 4611686018427387904 y.2.1 false).2, { s.2 with Ref := ⟨y.1, ((rdNum 4611686018427387904 y.2.1 false).1 : Int)⟩ }) else (rdr y.2, { s.2 with Ref := ⟨y.1, s.2.Ref.Gen⟩ })
theorem rdokD_num {r : Rdr} (h : RdOk r) (m : Nat) : RdOk (rdr (rdNum m r.b_ false).2) := rdok_num (r := ⟨r.b_, false⟩) (rdok_f h) m
theorem rdokD_byte {r : Rdr} (h : RdOk r) : RdOk (rdr (rdByte r.b_ false).2) := rdok_byte (r := ⟨r.b_, false⟩) (rdok_f h)
theorem rdokD_bytes {r : Rdr} (h : RdOk r) (m : Nat) : RdOk (rdr (rdBytes m r.b_ false).2) := rdok_bytes (r := ⟨r.b_, false⟩) (rdok_f h) m
theorem bodyD_eq {x : ByteArray} {i : Nat} {s : Rdr × Rq} {c : Int} (hx : (bytesOf x)[i]? = some c) (h : RdOk s.1) (hw : s.1.wrong_ = false) (hi : i < 1000) : F_qdec2_b0 x ((i : Int), s.1, s.2) = some (.inl (((i + 1 : Nat) : Int), (takeD s c).1, (takeD s c).2)) := by
  have hil := (List.getElem?_eq_some_iff.1 hx).1
  have hb := byte_rg h false
  have hB := bel hil
  unfold F_qdec2_b0
  simp only [hw, Bool.not_false, Bool.and_true, byteAt_n hx]
  rw [show decide ((i : Int) < (x.size : Int)) = true by rw [← bytesOf_length]; simpa using hil, ifb_1, grd_t hB, wrap_i64 (n := (i : Int) + 1) (by omega)]
  have hB' : ∀ k : Option (Rdr × Rq), grd (Below (i : Int) x.size) k = k := fun k => grd_t hB k
  simp only [hB', oDByte, ifb_dec, oDNum_t h (m := 4611686018427387904) (by decide), oDBytes_t h (m := 2048) (by decide), bnd_s]
  by_cases c1 : c = 115
  · simp [c1, takeD]
  by_cases c2 : c = 104
  · simp [c2, takeD]
  by_cases c3 : c = 116
  · simp [c3, takeD]
  by_cases c8 : c = 109
  · simp [c8, takeD]
  by_cases c5 : c = 107
  · simp [c5, takeD]
  by_cases c6 : c = 118
  · simp [c6, takeD]
  by_cases c7 : c = 114
  · simp [c7, takeD]
  by_cases c9 : c = 102
  · simp [c9, takeD]
  simp only [c1, c2, c3, c5, c6, c7, c8, c9, if_false, decide_false, bnd_s, ifb_0, takeD]
  cases hy : (rdByte s.1.b_ false).2.2 with
  | false =>
    have hh : (rdr (rdByte s.1.b_ false).2).wrong_ = false := hy
    rw [hh, wrap_i64 (by omega)]
    simp only [Bool.not_false, ifb_1, if_true]
    rw [oDNum_t (rdokD_byte h) (m := 4611686018427387904) (by decide)]
    rfl
  | true =>
    have hh : (rdr (rdByte s.1.b_ false).2).wrong_ = true := hy
    rw [hh, wrap_i64 (by omega)]
    rfl
structure LimD (q : Rq) : Prop where
  space : U64 q.Space
  handle : U64 q.Handle
  to : U64 q.To
  slot : 0 ≤ q.Ref.Slot ∧ q.Ref.Slot < 256
  gen : U64 q.Ref.Gen
  key : q.Key.size ≤ 2048
  value : q.Value.size ≤ 2048
  rights : 0 ≤ q.Rights ∧ q.Rights < 256
  most : U64 q.Most
theorem num_u64 (l : List Int) (b : Bool) : U64 (((rdNum 4611686018427387904 l b).1 : Nat) : Int) := by
  have := (rdNum_le 4611686018427387904 l b).1; exact ⟨by omega, by omega⟩
theorem takeD_ok {s : Rdr × Rq} (h : RdOk s.1) (c : Int) : RdOk (takeD s c).1 := by
  unfold takeD
  dsimp only
  (repeat' split) <;> first | exact rdokD_num h _ | exact rdokD_bytes h _ | exact rdokD_byte h | exact rdokD_num (rdokD_byte h) _
set_option maxHeartbeats 1000000 in
theorem takeD_lim {s : Rdr × Rq} (hr : RdOk s.1) (h : LimD s.2) (c : Int) : LimD (takeD s c).2 := by
  obtain ⟨h1, h2, h3, h4, h5, h6, h7, h8, h9⟩ := h
  have hb := byte_rg hr false
  unfold takeD
  dsimp only
  (repeat' split) <;> first
    | exact ⟨num_u64 _ _, h2, h3, h4, h5, h6, h7, h8, h9⟩
    | exact ⟨h1, num_u64 _ _, h3, h4, h5, h6, h7, h8, h9⟩
    | exact ⟨h1, h2, num_u64 _ _, h4, h5, h6, h7, h8, h9⟩
    | exact ⟨h1, h2, h3, hb, num_u64 _ _, h6, h7, h8, h9⟩
    | exact ⟨h1, h2, h3, hb, h5, h6, h7, h8, h9⟩
    | exact ⟨h1, h2, h3, h4, h5, strOf_sz (rdBytes_le _ _ _).1, h7, h8, h9⟩
    | exact ⟨h1, h2, h3, h4, h5, h6, strOf_sz (rdBytes_le _ _ _).1, h8, h9⟩
    | exact ⟨h1, h2, h3, h4, h5, h6, h7, hb, h9⟩
    | exact ⟨h1, h2, h3, h4, h5, h6, h7, h8, num_u64 _ _⟩
    | exact ⟨h1, h2, h3, h4, h5, h6, h7, h8, h9⟩
theorem takeD_kind (s : Rdr × Rq) (c : Int) : (takeD s c).2.Kind = s.2.Kind := by
  unfold takeD; dsimp only; (repeat' split) <;> rfl
theorem takeD_put {q : Rq} (hq : RqOk q) (hm : MayQ q) (q' : Rq) {c : Int} (hc : c = 115 ∨ c = 104 ∨ c = 116 ∨ c = 99 ∨ c = 107 ∨ c = 118 ∨ c = 114 ∨ c = 109 ∨ c = 102) (t : List Int) : takeD (⟨putL q c ++ t, false⟩, q') c = (⟨t, false⟩, setL q' q c) := by
  have i (n : Int) (h : U64 n) : ((n.toNat : Nat) : Int) = n := by have := h.1; omega
  rcases hc with rfl | rfl | rfl | rfl | rfl | rfl | rfl | rfl | rfl
  · simp [takeD, putL, setL, num_back hq.space (m := 4611686018427387904) hm.space, rdr, i _ hq.space]
  · simp [takeD, putL, setL, num_back hq.handle (m := 4611686018427387904) hm.handle, rdr, i _ hq.handle]
  · simp [takeD, putL, setL, num_back hq.to (m := 4611686018427387904) hm.to, rdr, i _ hq.to]
  · simp [takeD, putL, setL, num_back hq.gen (m := 4611686018427387904) hm.gen, rdr, i _ hq.gen, rdByte, u8_slot hm.slot]
  · simp [takeD, putL, setL, bytes_back (m := 2048) (Nat.le_trans hm.key (by decide)) (by decide), rdr, strOf_bytesOf]
  · simp [takeD, putL, setL, bytes_back hm.value (m := 2048) (by decide), rdr, strOf_bytesOf]
  · simp [takeD, putL, setL, rdByte, rdr]
  · simp [takeD, putL, setL, num_back hq.most (m := 4611686018427387904) (by have := hm.most; omega), rdr, i _ hq.most]
  · cases hfl : q.Flag <;> simp [takeD, putL, setL, rdByte, rdr, hfl]
abbrev wr (s : Rdr × Rq) : Bool := s.1.wrong_
theorem foldD_put {q : Rq} (hq : RqOk q) (hm : MayQ q) : ∀ (l : List Int), (∀ c ∈ l, c = 115 ∨ c = 104 ∨ c = 116 ∨ c = 99 ∨ c = 107 ∨ c = 118 ∨ c = 114 ∨ c = 109 ∨ c = 102) → ∀ (q' : Rq) (t : List Int), foldStop wr takeD l (⟨l.flatMap (putL q) ++ t, false⟩, q') = (⟨t, false⟩, l.foldl (fun q' c => setL q' q c) q')
  | [], _, q', t => rfl
  | c :: l, h, q', t => by
    rw [List.flatMap_cons, List.foldl_cons, foldStop, if_neg (by simp [wr]), List.append_assoc, takeD_put hq hm q' (h c (by simp)), foldD_put hq hm l (fun c hc => h c (by simp [hc]))]
def rdD (b : List Int) : Rdr × Rq := foldStop wr takeD (bytesOf (formS (rdByte b false).1)) (rdr (rdByte b false).2, q0 (rdByte b false).1)
theorem rdD_enc {q : Rq} (hq : RqOk q) (hm : MayQ q) : rdD (encQ q) = (⟨[], false⟩, q) := by
  unfold rdD encQ
  have h := foldD_put hq hm _ (letters q.Kind) (q0 q.Kind) []
  rw [List.append_nil, set_all hq.kind.1 hm] at h
  simp only [rdByte, List.headD_cons, List.tail_cons, List.isEmpty_cons, Bool.or_false, rdr]
  exact h
theorem q0_limD (k : Int) : LimD (q0 k) := by
  constructor <;> first | (simp [q0, U64]; done) | (show ByteArray.size ⟨#[]⟩ ≤ _; decide)
theorem qdec2_eq {b : List Int} (hb : Bts b) (hl : b.length ≤ 10000000) {fl : Nat} (hf : 6 < fl) : F_qdec2 fl b = some (decN b) := by
  unfold F_qdec2
  have h0 : RdOk ⟨b, false⟩ := ⟨hb, by show b.length ≤ _; omega⟩
  have hkr := byte_rg h0 false
  rw [oDByte, bnd_s, qform2_eq _ hkr.1, bnd_s]
  have hfl := form_le (rdByte b false).1
  obtain ⟨hlp, j, hR, hL, hK⟩ := lp_stop (l := bytesOf (formS (rdByte b false).1)) (fun i s => ((i : Int), s.1, s.2)) (body := F_qdec2_b0 (formS (rdByte b false).1)) wr takeD (fun s => (s.1, s.2)) (rdr (rdByte b false).2, q0 (rdByte b false).1) (fl := fl) (fun i s => RdOk s.1 ∧ LimD s.2 ∧ s.2.Kind = (rdByte b false).1) ⟨rdokD_byte h0, q0_limD _, rfl⟩
    (fun i x s hx hI hst => by
      have hi := (List.getElem?_eq_some_iff.1 hx).1
      exact ⟨bodyD_eq hx hI.1 hst (by omega), takeD_ok hI.1 x, takeD_lim hI.1 hI.2.1 x, (takeD_kind s x).trans hI.2.2⟩)
    (fun i s hi hI hst => by
      have hst' : s.1.wrong_ = true := hst
      unfold F_qdec2_b0
      simp [hst'])
    (fun s hI => by
      unfold F_qdec2_b0
      rw [show decide (((bytesOf (formS (rdByte b false).1)).length : Int) < ((formS (rdByte b false).1).size : Int)) = false by rw [← bytesOf_length]; simp]
      rfl) (by omega)
  simp only [q0] at hlp
  rw [show ((0 : Int), rdr (rdByte b false).2, (⟨(rdByte b false).1, 0, 0, ⟨0, 0⟩, 0, ⟨#[]⟩, ⟨#[]⟩, 0, 0, false⟩ : Rq)) = (((0 : Nat) : Int), rdr (rdByte b false).2, (⟨(rdByte b false).1, 0, 0, ⟨0, 0⟩, 0, ⟨#[]⟩, ⟨#[]⟩, 0, 0, false⟩ : Rq)) from rfl]
  rw [hlp, bnd_s]
  have hD : foldStop wr takeD (bytesOf (formS (rdByte b false).1)) (rdr (rdByte b false).2, (⟨(rdByte b false).1, 0, 0, ⟨0, 0⟩, 0, ⟨#[]⟩, ⟨#[]⟩, 0, 0, false⟩ : Rq)) = rdD b := rfl
  rw [hD]
  have hD2 : foldStop wr takeD (bytesOf (formS (rdByte b false).1)) (rdr (rdByte b false).2, q0 (rdByte b false).1) = rdD b := rfl
  rw [hD2] at hR hL hK
  have hok : RqOk (rdD b).2 := by
    have hk2 : 0 ≤ (rdD b).2.Kind ∧ (rdD b).2.Kind < 256 := by rw [hK]; exact hkr
    exact ⟨hk2, hL.space, hL.handle, ⟨by have := hL.slot.1; omega, by have := hL.slot.2; omega⟩, hL.gen, hL.to, Nat.le_trans hL.key (by decide), Nat.le_trans hL.value (by decide), hL.rights, hL.most⟩
  show bnd (F_qenc2 fl (rdD b).2) _ = _
  rw [qenc2_eq hok hf, bnd_s]
  by_cases hg : (rdD b).1.wrong_ = false ∧ mayQ (rdD b).2 = true ∧ encQ (rdD b).2 = b
  · obtain ⟨g1, g2, g3⟩ := hg
    have hd := decQ_some hok (mayQ_iff.1 g2) g3
    rw [if_pos g2, g1, g3]
    simp only [decN, hd, ne_eq, not_true_eq_false, decide_false, Bool.or_false, ifb_0]
  · have hn : decQ b = none := by
      cases hd : decQ b with
      | none => rfl
      | some q' =>
        exfalso
        unfold decQ at hd
        split at hd
        · rename_i h
          have he := rdD_enc (rdQ_ok hb hl) (mayQ_iff.1 h.1)
          rw [h.2.2] at he
          apply hg
          rw [he]
          exact ⟨rfl, h.1, h.2.2⟩
        · cases hd
    simp only [decN, hn]
    by_cases hm : mayQ (rdD b).2 = true
    · rw [if_pos hm]
      have : (((rdD b).1.wrong_ || decide ((encQ (rdD b).2, (0 : Int)).2 ≠ 0)) || decide (strOf (encQ (rdD b).2, (0 : Int)).1 ≠ strOf b)) = true := by
        cases hw : (rdD b).1.wrong_ with
        | true => rfl
        | false =>
          have : encQ (rdD b).2 ≠ b := fun h => hg ⟨hw, hm, h⟩
          simp [str_eq (encQ_bts hok) hb, this]
      rw [this]; rfl
    · rw [if_neg hm]
      have : (((rdD b).1.wrong_ || decide ((([] : List Int), (1 : Int)).2 ≠ 0)) || decide (strOf (([] : List Int), (1 : Int)).1 ≠ strOf b)) = true := by
        cases (rdD b).1.wrong_ <;> simp
      rw [this]; rfl
end Go.Proofs.YtmnhfpcbfdgbcaaDoor.Eng.A

/- Requests, in plain Lean: the law RequestForms. -/
namespace Go.Proofs.YtmnhfpcbfdgbcaaDoor.Eng.A
set_option linter.unusedVariables false
set_option linter.unusedSimpArgs false
open Go.RowKit Go.Proofs.YtmnhfpcbfdgbcaaDoor.Plain Go.Proofs.YtmnhfpcbfdgbcaaDoor.Eng Go.Proofs.YtmnhfpcbfdgbcaaDoor.Eng.Pk Go.Proofs.YtmnhfpcbfdgbcaaDoor.Eng.Rd Go.Proofs.YtmnhfpcbfdgbcaaDoor.Eng.Er

theorem decN_num (b : List Int) : numV (decR b).2 = (decN b).2 ∧ (decR b).1 = (decN b).1 := by
  unfold decR decN; cases decQ b <;> exact ⟨rfl, rfl⟩
def qA : Rq := ⟨1, 7, 0, ⟨0, 0⟩, 0, ⟨#[]⟩, ⟨#[]⟩, 0, 0, true⟩
def qB : Rq := ⟨7, 0, 0, ⟨0, 0⟩, 0, ⟨#[97]⟩, ⟨#[]⟩, 0, 0, false⟩
theorem vb7 : vb 7 = [7] := vb_small (by decide)
theorem encA : encQ qA = [1, 7, 1] := by
  show 1 :: ((bytesOf (formS 1)).flatMap (putL qA)) = _
  have : bytesOf (formS 1) = [115, 102] := by decide
  rw [this]
  simp [putL, qA, vb7]
theorem okA : RqOk qA := by constructor <;> first | decide | (show ByteArray.size ⟨#[]⟩ ≤ _; decide)
theorem okB : RqOk qB := by constructor <;> first | decide | (show ByteArray.size _ ≤ _; decide)
theorem mayA : MayQ qA := by
  constructor
  all_goals first | decide | (show ByteArray.size ⟨#[]⟩ ≤ _; decide) | (intro h; first | rfl | (exfalso; revert h; decide))
theorem mayB : mayQ qB = false := mayQ_f fun h => by
  have := h.nokey (by decide)
  revert this; decide
theorem dec_nil : decQ [] = none := by
  unfold decQ
  rw [if_neg]
  rintro ⟨_, h, _⟩
  revert h; decide
theorem sure35_eq {fl : Nat} (hf : 6 < fl) : F_sure35 fl = some true := by
  unfold F_sure35
  have h1 : F_qenc fl (⟨1, 7, 0, ⟨0, 0⟩, 0, ⟨#[]⟩, ⟨#[]⟩, 0, 0, true⟩ : Rq) = some ([1, 7, 1], none) := by
    have := qenc_eq okA hf
    rw [if_pos (mayQ_iff.2 mayA), encA] at this; exact this
  have h2 : F_qdec fl [1, 7, 1] = some (qA, none) := by
    rw [qdec_eq (by intro x hx; simp at hx; omega) (by decide) hf]
    unfold decR; rw [decQ_some okA mayA encA]
  have h3 : F_qdec fl [] = some (q0 0, some 3) := by
    rw [qdec_eq (by intro x hx; simp at hx) (by decide) hf]
    unfold decR; rw [dec_nil]
  have h4 : F_qenc fl (⟨7, 0, 0, ⟨0, 0⟩, 0, ⟨#[97]⟩, ⟨#[]⟩, 0, 0, false⟩ : Rq) = some ([], some 1) := by
    have := qenc_eq okB hf
    rw [if_neg (by rw [mayB]; simp)] at this; exact this
  rw [h1, bnd_s, h2, bnd_s, h3, bnd_s, h4, bnd_s]
  simp only [oNumE, qform_eq, gif_s, bnd_s]
  decide
theorem forms_eq {q : Rq} {b : List Int} {k : Int} (hq : RqOk { q with Key := ⟨#[]⟩, Value := ⟨#[]⟩ }) (hb : Bts b) (hk : 0 ≤ k) {fl : Nat} (hf : 6 < fl) : F_qForms fl q b k = some true := by
  unfold F_qForms
  by_cases hbig : 100 < (q.Key.size : Int) ∨ 3000 < (q.Value.size : Int) ∨ 3000 < (b.length : Int)
  · have : ((decide (100 < (q.Key.size : Int)) || decide (3000 < (q.Value.size : Int))) || decide (3000 < (b.length : Int))) = true := by
      rcases hbig with h | h | h <;> simp [h]
    rw [this, ifb_1, sure35_eq hf]; rfl
  · have hok : RqOk q := ⟨hq.kind, hq.space, hq.handle, hq.slot, hq.gen, hq.to, by omega, by omega, hq.rights, hq.most⟩
    have : ((decide (100 < (q.Key.size : Int)) || decide (3000 < (q.Value.size : Int))) || decide (3000 < (b.length : Int))) = false := by
      simp only [Bool.or_eq_false_iff, decide_eq_false_iff_not]; omega
    rw [this, ifb_0]
    have hl : b.length ≤ 10000000 := by omega
    obtain ⟨n1, n2⟩ := decN_num b
    simp only [F_qgive, bnd_s, qenc_eq hok hf, qenc2_eq hok hf, qdec_eq hb hl hf, qdec2_eq hb hl hf, oNumE, qform_eq, qform2_eq k hk, gif_s, qcheck_eq hok hf, qmay2_eq hok hf, sure35_eq hf]
    have nn : numV none = 0 := rfl
    have ns : numV (some 1) = 1 := rfl
    by_cases hm : mayQ q = true
    · simp only [if_pos hm, hm, n1, n2, nn, decide_true, BEq.rfl, if_true, Bool.and_true, Option.isNone_none, bnd_s, gif_s, gif_1, qcheck_eq hok hf, rq_self]
    · have hm' : mayQ q = false := by cases h : mayQ q with | true => exact absurd h hm | false => rfl
      have hb0 : ∀ c d : Option Int, (if false = true then c else d) = d := fun _ _ => rfl
      simp only [hm', Bool.false_eq_true, if_false, n1, n2, ns, decide_true, BEq.rfl, if_true, Bool.and_true, Option.isNone_some, bnd_s, gif_s, gif_1, qcheck_eq hok hf, hb0, rq_self]
end Go.Proofs.YtmnhfpcbfdgbcaaDoor.Eng.A
