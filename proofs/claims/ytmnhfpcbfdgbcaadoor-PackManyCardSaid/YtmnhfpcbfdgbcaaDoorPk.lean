/- Fields put behind bytes: by their contracts. -/
import Derived.Test.YtmnhfpcbfdgbcaaDoorRd3
namespace Go.Proofs.YtmnhfpcbfdgbcaaDoor.Hand
set_option linter.unusedVariables false
set_option linter.unusedSimpArgs false
open Go.RowKit Go.Proofs.YtmnhfpcbfdgbcaaDoorW.PrintWords Go.Proofs.YtmnhfpcbfdgbcaaDoorW.PrintLast Go.Proofs.YtmnhfpcbfdgbcaaDoorW.PrintMore Go.Proofs.YtmnhfpcbfdgbcaaDoor.Plain

set_option maxHeartbeats 1000000 in
set_option maxRecDepth 100000 in
theorem pk_byte (A : Option Addr) (c : Nat) (l : List Int) (x : Int) (w : World) (hr : Kd.C (Kd.int .u8) w A l.length l) (hc : l.length ≤ c) (hl : l.length < 140737488355327) :
    Calls Tryd.prog 19 #[.slice A l.length c, .int .u8 x] w fun e w' => ∃ v : Value, e = .returned v ∧ Kd.R (Kd.int .u8) 5 w' w.heap.size (fun _ => True) v (l ++ [x]) ∧ Below w.heap.size w w' := by
  have HR := Aside0.mk hr
  have HL := Aside0.mk hl
  clear hr hl
  go_enter Tryd.func19, Tryd.ntmps19
  go_wp2_with fail
  ((with_reducible refine (clone_u8 _ _ l _ HR.out hc (by have := HL.out; omega)).mono ?_); rintro e w1 ⟨v, rfl, ho, hb⟩)
  have HO := Aside0.mk ho; have HB := Aside0.mk hb
  clear ho hb
  go_wp2_with (at_builtin; refine Kd.R_append (Kd.int .u8) (w0 := w) w.heap.size rfl _ _ 23 5 (.int .u8 0) 1 rfl Tryd.underlying23 infoU8 rfl (by decide) (by decide) v l x [.int .u8 x] (fun _ => True) (fun _ => False) rfl rfl ?aP (fun _ hk => hk.elim) (fun _ _ => trivial) HO.out HB.out (below_size HB.out) ?aL ?_)
  case aP => exact rfl
  case aL => have := HL.out; omega
  intro v2 w2 ho2 hb2 hg hat
  go_wp2
  go_ret
  exact ⟨_, rfl, ho2, hb2⟩

set_option maxHeartbeats 1000000 in
theorem pk_num (A : Option Addr) (c : Nat) (l : List Int) (n : Nat) (w : World) (hr : Kd.C (Kd.int .u8) w A l.length l) (hc : l.length ≤ c) (hl : l.length < 140737488355000) (hn : n < 18446744073709551616) :
    Calls Tryd.prog 21 #[.slice A l.length c, .int .u64 n] w fun e w' => ∃ v : Value, e = .returned v ∧ Kd.R (Kd.int .u8) 5 w' w.heap.size (fun _ => True) v (l ++ vb n) ∧ Below w.heap.size w w' := by
  have H := Aside0.mk (varint_put A c l n w hr hc hl hn)
  clear hr hc hl hn
  go_enter Tryd.func21, Tryd.ntmps21
  go_wp2_with fail
  ((with_reducible refine H.out.mono ?_); rintro e w1 ⟨v, rfl, ho, hb⟩)
  go_wp2
  go_ret
  exact ⟨_, rfl, ho, hb⟩

set_option maxHeartbeats 1000000 in
set_option maxRecDepth 100000 in
theorem pk_bytes (A B : Option Addr) (c d : Nat) (l m : List Int) (w : World) (hr : Kd.C (Kd.int .u8) w A l.length l) (hc : l.length ≤ c) (hl : l.length < 140737488350000) (hr2 : Kd.C (Kd.int .u8) w B m.length m) (hc2 : m.length ≤ d) (hl2 : l.length + m.length < 140737488355000) :
    Calls Tryd.prog 20 #[.slice A l.length c, .slice B m.length d] w fun e w' => ∃ v : Value, e = .returned v ∧ Kd.R (Kd.int .u8) 5 w' w.heap.size (fun _ => True) v (l ++ (vb m.length ++ m)) ∧ Below w.heap.size w w' := by
  have HV := Aside0.mk (varint_put A c l m.length w hr hc (by omega) (by omega))
  have hw : IntKind.u64.wrap (m.length : Int) = (m.length : Int) := u64_wrap_nat (by omega)
  have hvl := vb_len10 (n := m.length) (by omega)
  have HR2 := Aside0.mk hr2
  have HL2 : Aside0 ((l ++ vb m.length).length + m.length ≤ 140737488355328) := ⟨by simp; omega⟩
  clear hr hl hr2 hl2 hvl
  go_enter Tryd.func20, Tryd.ntmps20
  go_wp2_with fail
  ((with_reducible refine HV.out.mono ?_); rintro e w1 ⟨v, rfl, ho, hb⟩)
  have HO := Aside0.mk ho; have HB := Aside0.mk hb
  clear ho hb
  go_wp2_with (at_builtin; refine Kd.R_append_rows (Kd.int .u8) (w0 := w) w.heap.size rfl _ _ 23 5 (.int .u8 0) 1 rfl Tryd.underlying23 infoU8 rfl (by decide) (by decide) v (l ++ vb m.length) m _ _ _ (fun _ => True) (fun _ => False) rfl rfl HO.out (Kd.C_below HR2.out HB.out) (fun _ _ h => h) (fun _ h => h.elim) (fun _ _ => trivial) HB.out (below_size HB.out) (by have := HL2.out; omega) ?_)
  intro v2 w2 ho2 hb2 hg hat
  go_wp2
  go_ret
  exact ⟨_, rfl, ho2, hb2⟩
end Go.Proofs.YtmnhfpcbfdgbcaaDoor.Hand
