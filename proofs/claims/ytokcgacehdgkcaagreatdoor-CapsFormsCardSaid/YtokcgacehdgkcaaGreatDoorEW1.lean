/- EW1: what functions do, walked; used by the laws of this seat. -/
import Derived.Test.YtokcgacehdgkcaaGreatDoorEngX2
import Derived.Test.YtokcgacehdgkcaaGreatDoorEngX1
import Derived.Test.YtokcgacehdgkcaaGreatDoorProg
import Derived.KernelRfl
import Derived.Laws.BitsAllLaws
import Derived.Test.YtokcgacehdgkcaaGreatDoorEngX4
namespace Go.Proofs.YtokcgacehdgkcaaGreatDoor.Eng.Pk
set_option linter.unusedVariables false
set_option linter.unusedSimpArgs false
open Go.RowKit Go.Proofs.YtokcgacehdgkcaaGreatDoor.Plain Go.Proofs.YtokcgacehdgkcaaGreatDoor.Eng

theorem sz5 : sizeT Go.Proofs.Tryz.prog 5 = some 1 := by kernel_rfl
theorem zt5 : zeroT Go.Proofs.Tryz.prog 5 = some [.int .u8 0] := by kernel_rfl
theorem el5 : elT Go.Proofs.Tryz.prog 5 = some (1, 1) := by kernel_rfl
theorem ht81 : hasText Go.Proofs.Tryz.prog 81 = true := by kernel_rfl

set_option maxRecDepth 100000 in
set_option maxHeartbeats 1000000 in
theorem clone_b_nil : Own1 Go.Proofs.Tryz.prog 81 [sl (kI .u8) none (some true) ([] : List Int)] (kI .u8) 5 none ([] : List Int) := by
  intro s
  refine ac_of_aw s.boxes.length (s.fr.length + 1) Go.Proofs.Tryz.func81 rfl (by simp [Go.Proofs.Tryz.ntmps81]) ?_
  refine aw_ext0 ?_
  refine aw_keep [(0, _)] ⟨lg ez, trivial⟩ ?_
  refine aw_seq ?_
  refine aw_region (by decide) ?_
  refine rts _ rfl (opD_assign (ev_const _ _)) ?_
  refine .nil ?_
  refine aw_keep [(2, _), (0, _)] ⟨lg lz, lg (ls rfl oz), trivial⟩ ?_
  refine aw_seq ?_
  refine aw_seq ?_
  refine aw_region (by decide) ?_
  refine rts _ rfl (opD_move (os rfl oz)) ?_
  refine rts _ rfl (opD_eqnil Go.Proofs.Tryz.underlying30 lz) ?_
  refine .nil ?_
  refine aw_keep [(4, _), (2, _), (0, _)] ⟨lg lz, lg (ls rfl (ls rfl oz)), lg (ls rfl (ls rfl (os rfl oz))), trivial⟩ ?_
  refine aw_cond _ oz (fun hc => ?_) (fun hc => ?_)
  · skip
    refine aw_fr ⟨5, 1, 0⟩ ?_
    refine aw_seq ?_
    refine aw_region (by decide) ?_
    refine rts _ rfl (opD_assign (ev_const _ _)) ?_
    refine .nil ?_
    refine aw_keep [(2, _), (4, _), (0, _)] ⟨lg lz, lg (ls rfl oz), lg (ls rfl (os rfl (os rfl oz))), trivial⟩ ?_
    refine aw_ret ?_
    exact done_own (.inr rfl) ((res_1 rfl (eg oz)).le ((nil_le _ _).trans (sl_nl _ _ _ _))) rfl (kI_bnd _ _ _ _)
  · skip
    exfalso; revert hc; simp

set_option maxRecDepth 100000 in
set_option maxHeartbeats 1000000 in
theorem clone_b_some {l : List Int} (hl : l.length * 1 ≤ 140737488355328) (hl2 : l.length ≤ 140737488355328) : Own1 Go.Proofs.Tryz.prog 81 [sl (kI .u8) none (some false) l] (kI .u8) 5 none l := by
  intro s
  refine ac_of_aw s.boxes.length (s.fr.length + 1) Go.Proofs.Tryz.func81 rfl (by simp [Go.Proofs.Tryz.ntmps81]) ?_
  refine aw_ext0 ?_
  refine aw_keep [(0, _)] ⟨lg ez, trivial⟩ ?_
  refine aw_seq ?_
  refine aw_region (by decide) ?_
  refine rts _ rfl (opD_assign (ev_const _ _)) ?_
  refine .nil ?_
  refine aw_keep [(2, _), (0, _)] ⟨lg lz, lg (ls rfl oz), trivial⟩ ?_
  refine aw_seq ?_
  refine aw_seq ?_
  refine aw_region (by decide) ?_
  refine rts _ rfl (opD_move (os rfl oz)) ?_
  refine rts _ rfl (opD_eqnil Go.Proofs.Tryz.underlying30 lz) ?_
  refine .nil ?_
  refine aw_keep [(4, _), (2, _), (0, _)] ⟨lg lz, lg (ls rfl (ls rfl oz)), lg (ls rfl (ls rfl (os rfl oz))), trivial⟩ ?_
  refine aw_cond _ oz (fun hc => ?_) (fun hc => ?_)
  · skip
    exfalso; revert hc; simp
  · skip
    refine aw_skip ?_
    refine aw_keep [(4, _), (2, _), (0, _)] ⟨lg oz, lg (os rfl oz), lg (os rfl (os rfl oz)), trivial⟩ ?_
    refine aw_seq ?_
    refine aw_region (by decide) ?_
    refine rts _ rfl (opD_buildEmpty (k := (kI .u8)) Go.Proofs.Tryz.underlying30 sz5 zt5 rfl (by first | exact List.length_nil | (simp only [List.length_cons, List.length_nil, Nat.zero_add, Nat.reduceAdd]; rfl)) (by simp only [List.nil_append, List.cons_append, List.map_cons, List.map_nil, List.set_cons_zero, List.set_cons_succ, List.take_succ_cons, List.take_zero, List.drop_succ_cons, List.drop_zero]; rfl)) ?_
    refine rts _ rfl (opD_move (ls rfl (os rfl (os rfl oz)))) ?_
    refine rts _ rfl ((by first | exact opD_appendX Go.Proofs.Tryz.underlying30 el5 (ls rfl lz) lz rfl (by first | omega | (simp only [List.length_cons, List.length_nil, List.length_append]; omega)) (by first | omega | (simp only [List.length_cons, List.length_nil, List.length_append]; omega)) (by first | (with_reducible exact List.nil_append _) | exact rfl) (by simp only [List.nil_append, List.cons_append, List.map_cons, List.map_nil, List.set_cons_zero, List.set_cons_succ, List.take_succ_cons, List.take_zero, List.drop_succ_cons, List.drop_zero]; rfl) | exact opD_appendN (k := (kI .u8)) Go.Proofs.Tryz.underlying30 el5 (ls rfl lz) lz (by first | omega | (simp only [List.length_cons, List.length_nil, List.length_append]; omega)) (by first | omega | (simp only [List.length_cons, List.length_nil, List.length_append]; omega)) (by first | exact List.length_nil | (simp only [List.length_cons, List.length_nil, Nat.zero_add, Nat.reduceAdd]; rfl)) (by simp only [List.nil_append, List.cons_append, List.map_cons, List.map_nil, List.set_cons_zero, List.set_cons_succ, List.take_succ_cons, List.take_zero, List.drop_succ_cons, List.drop_zero]; rfl))) ?_
    refine rts _ rfl (opD_assign lz) ?_
    refine .nil ?_
    refine aw_keep [(2, _), (4, _), (0, _)] ⟨lg lz, lg (ls rfl (ls rfl (ls rfl (ls rfl oz)))), lg (ls rfl (ls rfl (ls rfl (ls rfl (os rfl (os rfl oz)))))), trivial⟩ ?_
    refine aw_ret ?_
    exact done_own (.inr rfl) (res_1 rfl (eg oz)) rfl (kI_bnd _ _ _ _)

theorem clone_b {l : List Int} (hl : l.length * 1 ≤ 140737488355328) (hl2 : l.length ≤ 140737488355328) : Own1 Go.Proofs.Tryz.prog 81 [sl (kI .u8) none none l] (kI .u8) 5 none l := fun s => ac_nl (fun h => by subst h; exact clone_b_nil s) (clone_b_some hl hl2 s)

theorem or128 (n : Nat) : bits BinOp.or .u8 ((n : Int) % 256) 128 = (((n % 128 + 128 : Nat)) : Int) := by
  have h : ∀ m, m < 256 → bits BinOp.or .u8 ((m : Nat) : Int) 128 = ((m % 128 + 128 : Nat) : Int) := by decide +kernel
  have e : (n : Int) % 256 = ((n % 256 : Nat) : Int) := by omega
  rw [e, h _ (Nat.mod_lt _ (by decide))]; omega
theorem shr7 (q : Nat) : ((q : Int)) / 2 ^ (7 : Int).toNat = ((q / 128 : Nat) : Int) := by
  show (q : Int) / 128 = _
  omega

set_option maxRecDepth 100000 in
set_option maxHeartbeats 1000000 in
theorem put {l : List Int} {n0 : Nat} (hl : l.length + 10 ≤ 140737488355328) (hn : n0 < 18446744073709551616) : Own1 Go.Proofs.Tryz.prog 80 [sl (kI .u8) none none l, pl (.int .u64 (n0 : Int))] (kI .u8) 5 none (l ++ vb n0) := by
  intro s
  have hv := vb_len10 hn
  refine ac_of_aw s.boxes.length (s.fr.length + 1) Go.Proofs.Tryz.func80 rfl (by simp [Go.Proofs.Tryz.ntmps80]) ?_
  refine aw_ext0 ?_
  refine aw_keep [(0, _), (1, _)] ⟨lg ez, lg (es ez), trivial⟩ ?_
  refine aw_seq ?_
  refine aw_region (by decide) ?_
  refine rts _ rfl (opD_assign (ev_const _ _)) ?_
  refine .nil ?_
  refine aw_keep [(4, _), (0, _), (1, _)] ⟨lg lz, lg (ls rfl oz), lg (ls rfl (os rfl oz)), trivial⟩ ?_
  refine aw_seq ?_
  refine aw_region (by decide) ?_
  refine rts _ rfl (opD_move (os rfl oz)) ?_
  refine rts _ rfl (opD_own1 ht81 (clone_b (by omega) (by omega)) ⟨le_sl lz, trivial⟩ (by first | exact List.length_nil | (simp only [List.length_cons, List.length_nil, Nat.zero_add, Nat.reduceAdd]; rfl)) (by simp only [List.nil_append, List.cons_append, List.map_cons, List.map_nil, List.set_cons_zero, List.set_cons_succ, List.take_succ_cons, List.take_zero, List.drop_succ_cons, List.drop_zero]; rfl)) ?_
  refine rts _ rfl (opD_assign lz) ?_
  refine .nil ?_
  refine aw_keep [(5, _), (4, _), (0, _), (1, _)] ⟨lg lz, lg (ls rfl (ls rfl (ls rfl oz))), lg (ls rfl (ls rfl (ls rfl (os rfl oz)))), lg (ls rfl (ls rfl (ls rfl (os rfl (os rfl oz))))), trivial⟩ ?_
  refine aw_seq ?_
  refine aw_block ?_
  refine aw_loop (fun n e st => ∃ (y : List Int), Holds e [(1, pl (.int .u64 (n : Int))), (5, sl (kI .u8) (some (s.fr.length + 0)) none y)] ∧ st = s.ext [] [⟨5, 1, y.length⟩] ∧ y ++ vb n = l ++ vb n0 ∧ n ≤ n0) (n0) (⟨l, ⟨le_of_eq (eg (os rfl (os rfl (os rfl oz)))), le_of_eq (eg oz), trivial⟩, rfl, rfl, Nat.le_refl _⟩) ?_
  rintro n e st ⟨y, hH, rfl, hy, hle⟩
  have hlen := congrArg List.length hy
  simp only [List.length_append] at hlen
  have hvn := vb_len10 (n := n) (by omega)
  refine aw_keep _ hH ?_
  refine aw_seq ?_
  refine aw_seq ?_
  refine aw_region (by decide) ?_
  refine rts _ rfl (opD_move oz) ?_
  refine rts _ rfl (opD_geq lz (ev_const _ _)) ?_
  refine .nil ?_
  refine aw_keep [(9, _), (1, _), (5, _)] ⟨lg lz, lg (ls rfl (ls rfl oz)), lg (ls rfl (ls rfl (os rfl oz))), trivial⟩ ?_
  refine aw_cond _ oz (fun hc => ?_) (fun hc => ?_)
  · skip
    try simp only [decide_eq_true_eq, decide_eq_false_iff_not] at hc
    refine aw_skip ?_
    refine aw_keep [(9, _), (1, _), (5, _)] ⟨lg oz, lg (os rfl oz), lg (os rfl (os rfl oz)), trivial⟩ ?_
    refine aw_seq ?_
    refine aw_block ?_
    refine aw_region (by decide) ?_
    refine rts _ rfl (opD_move (os rfl (os rfl oz))) ?_
    refine rts _ rfl (opD_move (ls rfl (os rfl oz))) ?_
    refine rts _ rfl (opD_conv_int Go.Proofs.Tryz.underlying22 Go.Proofs.Tryz.underlying5 lz (IntKind.wrap_u8' _)) ?_
    refine rts _ rfl (opD_bits (.inr (.inl rfl)) lz (ev_const _ _) (or128 n)) ?_
    refine rts _ rfl (opD_buildSlice (k := kI .u8) [_] Go.Proofs.Tryz.underlying30 sz5 zt5 (by decide) rfl (parts_cons (cells1 lz (by first | exact one_pl rfl | exact one_sl _ _ _ _ | exact one_ptr _ _ | exact one_ifc _ _)) parts_nil) rfl rfl) ?_
    refine rts _ rfl ((by first | exact opD_appendX Go.Proofs.Tryz.underlying30 el5 (ls rfl (ls rfl (ls rfl (ls rfl lz)))) lz rfl (by first | omega | (simp only [List.length_cons, List.length_nil, List.length_append]; omega)) (by first | omega | (simp only [List.length_cons, List.length_nil, List.length_append]; omega)) (by first | (with_reducible exact List.nil_append _) | exact rfl) (by simp only [List.nil_append, List.cons_append, List.map_cons, List.map_nil, List.set_cons_zero, List.set_cons_succ, List.take_succ_cons, List.take_zero, List.drop_succ_cons, List.drop_zero]; rfl) | exact opD_appendN (k := kI .u8) Go.Proofs.Tryz.underlying30 el5 (ls rfl (ls rfl (ls rfl (ls rfl lz)))) lz (by first | omega | (simp only [List.length_cons, List.length_nil, List.length_append]; omega)) (by first | omega | (simp only [List.length_cons, List.length_nil, List.length_append]; omega)) (by first | exact List.length_nil | (simp only [List.length_cons, List.length_nil, Nat.zero_add, Nat.reduceAdd]; rfl)) (by simp only [List.nil_append, List.cons_append, List.map_cons, List.map_nil, List.set_cons_zero, List.set_cons_succ, List.take_succ_cons, List.take_zero, List.drop_succ_cons, List.drop_zero]; rfl))) ?_
    refine rts _ rfl (opD_assign lz) ?_
    refine .nil ?_
    refine aw_keep [(5, _), (9, _), (1, _)] ⟨lg lz, lg (ls rfl (ls rfl (ls rfl (ls rfl (ls rfl (ls rfl (ls rfl oz))))))), lg (ls rfl (ls rfl (ls rfl (ls rfl (ls rfl (ls rfl (ls rfl (os rfl oz)))))))), trivial⟩ ?_
    refine aw_region (by decide) ?_
    refine rts _ rfl (opD_move (os rfl (os rfl oz))) ?_
    refine rts _ rfl (opD_shr lz (ev_const _ _) (by decide) (by decide) (shr7 n)) ?_
    refine rts _ rfl (opD_assign lz) ?_
    refine .nil ?_
    refine ⟨n / 128, by omega, y ++ [((n % 128 + 128 : Nat) : Int)], ⟨le_of_eq (eg lz), le_of_eq (eg (ls rfl (ls rfl (ls rfl oz)))), trivial⟩, rfl, ?_, by omega⟩
    rw [← hy, vb_big (n := n) (by omega)]; simp
  · skip
    try simp only [decide_eq_true_eq, decide_eq_false_iff_not] at hc
    refine aw_exit ?_
    refine aw_keep [(9, _), (1, _), (5, _)] ⟨lg oz, lg (os rfl oz), lg (os rfl (os rfl oz)), trivial⟩ ?_
    refine aw_seq ?_
    refine aw_region (by decide) ?_
    refine rts _ rfl (opD_move (os rfl (os rfl oz))) ?_
    refine rts _ rfl (opD_move (ls rfl (os rfl oz))) ?_
    refine rts _ rfl (opD_conv_int Go.Proofs.Tryz.underlying22 Go.Proofs.Tryz.underlying5 lz (IntWalk.u8_in _ (by omega))) ?_
    refine rts _ rfl (opD_buildSlice (k := kI .u8) [_] Go.Proofs.Tryz.underlying30 sz5 zt5 (by decide) rfl (parts_cons (cells1 lz (by first | exact one_pl rfl | exact one_sl _ _ _ _ | exact one_ptr _ _ | exact one_ifc _ _)) parts_nil) rfl rfl) ?_
    refine rts _ rfl ((by first | exact opD_appendX Go.Proofs.Tryz.underlying30 el5 (ls rfl (ls rfl (ls rfl lz))) lz rfl (by first | omega | (simp only [List.length_cons, List.length_nil, List.length_append]; omega)) (by first | omega | (simp only [List.length_cons, List.length_nil, List.length_append]; omega)) (by first | (with_reducible exact List.nil_append _) | exact rfl) (by simp only [List.nil_append, List.cons_append, List.map_cons, List.map_nil, List.set_cons_zero, List.set_cons_succ, List.take_succ_cons, List.take_zero, List.drop_succ_cons, List.drop_zero]; rfl) | exact opD_appendN (k := kI .u8) Go.Proofs.Tryz.underlying30 el5 (ls rfl (ls rfl (ls rfl lz))) lz (by first | omega | (simp only [List.length_cons, List.length_nil, List.length_append]; omega)) (by first | omega | (simp only [List.length_cons, List.length_nil, List.length_append]; omega)) (by first | exact List.length_nil | (simp only [List.length_cons, List.length_nil, Nat.zero_add, Nat.reduceAdd]; rfl)) (by simp only [List.nil_append, List.cons_append, List.map_cons, List.map_nil, List.set_cons_zero, List.set_cons_succ, List.take_succ_cons, List.take_zero, List.drop_succ_cons, List.drop_zero]; rfl))) ?_
    refine rts _ rfl (opD_assign lz) ?_
    refine .nil ?_
    refine aw_keep [(4, _), (9, _), (1, _), (5, _)] ⟨lg lz, lg (ls rfl (ls rfl (ls rfl (ls rfl (ls rfl (ls rfl oz)))))), lg (ls rfl (ls rfl (ls rfl (ls rfl (ls rfl (ls rfl (os rfl oz))))))), lg (ls rfl (ls rfl (ls rfl (ls rfl (ls rfl (ls rfl (os rfl (os rfl oz)))))))), trivial⟩ ?_
    refine aw_ret ?_
    exact done_own (.inr rfl) ((res_1 rfl (eg oz)).le (sl_to rfl (by rw [← hy, vb_small (by omega)]))) (by rw [← hy, vb_small (by omega)]) (kI_bnd _ _ _ _)
end Go.Proofs.YtokcgacehdgkcaaGreatDoor.Eng.Pk


namespace Go.Proofs.YtokcgacehdgkcaaGreatDoor.Eng.Rd
set_option linter.unusedVariables false
set_option linter.unusedSimpArgs false
open Go.RowKit Go.Proofs.YtokcgacehdgkcaaGreatDoor.Plain Go.Proofs.YtokcgacehdgkcaaGreatDoor.Eng

theorem sz5 : sizeT Go.Proofs.Tryz.prog 5 = some 1 := by kernel_rfl
theorem ag5 : aggT Go.Proofs.Tryz.prog 5 = some false := by kernel_rfl
theorem cc107 : Go.Proofs.Tryz.prog.concrete 107 = true := by kernel_rfl
theorem fo171_0 : fieldOff Go.Proofs.Tryz.prog 171 0 = some 0 := by kernel_rfl
theorem sz30 : sizeT Go.Proofs.Tryz.prog 30 = some 1 := by kernel_rfl
theorem fo171_1 : fieldOff Go.Proofs.Tryz.prog 171 1 = some 1 := by kernel_rfl
theorem sz4 : sizeT Go.Proofs.Tryz.prog 4 = some 1 := by kernel_rfl
theorem ag30 : aggT Go.Proofs.Tryz.prog 30 = some false := by kernel_rfl
theorem ht82 : hasText Go.Proofs.Tryz.prog 82 = true := by kernel_rfl
theorem ht83 : hasText Go.Proofs.Tryz.prog 83 = true := by kernel_rfl
theorem ag4 : aggT Go.Proofs.Tryz.prog 4 = some false := by kernel_rfl
theorem ht41 : hasText Go.Proofs.Tryz.prog 41 = true := by kernel_rfl
theorem ht81 : hasText Go.Proofs.Tryz.prog 81 = true := by kernel_rfl

open Go.Proofs.YtokcgacehdgkcaaGreatDoor.Eng.Pk
theorem u64_wrap_nat {n : Nat} (h : n < 18446744073709551616) : IntKind.u64.wrap (n : Int) = (n : Int) := by
  simp only [IntKind.wrap, IntKind.bits, IntKind.signed]
  simp
  omega
theorem andnot128 (ch : Int) (h0 : 0 ≤ ch) (h1 : ch < 256) : bits BinOp.andNot .u8 ch 128 = ch % 128 := by
  have h : ∀ m, m < 256 → bits BinOp.andNot .u8 ((m : Nat) : Int) 128 = (m : Int) % 128 := by decide +kernel
  obtain ⟨n, rfl⟩ := Int.eq_ofNat_of_zero_le h0
  exact h n (by omega)

theorem or_low (v x i : Nat) (hv : v < 2 ^ i) (hx : v + x * 2 ^ i < 18446744073709551616) : bits BinOp.or .u64 (v : Int) ((x * 2 ^ i : Nat) : Int) = ((v + x * 2 ^ i : Nat) : Int) := by
  have h : v ||| x * 2 ^ i = v + x * 2 ^ i := by
    have := Nat.two_pow_add_eq_or_of_lt hv x
    rw [Nat.or_comm, Nat.mul_comm, ← this]; omega
  show IntKind.u64.wrap (BitVec.toNat (BitVec.ofInt 64 (v : Int) ||| BitVec.ofInt 64 ((x * 2 ^ i : Nat) : Int))) = _
  have hv2 : v < 18446744073709551616 := by omega
  have hx2 : x * 2 ^ i < 18446744073709551616 := by omega
  rw [BitVec.toNat_or, BitVec.ofInt_natCast, BitVec.ofInt_natCast, BitVec.toNat_ofNat, BitVec.toNat_ofNat, Nat.mod_eq_of_lt (by simpa using hv2), Nat.mod_eq_of_lt (by simpa using hx2), h]
  exact u64_wrap_nat hx
theorem pow128 (i : Nat) : 2 ^ (7 * i) = 128 ^ i := by rw [Nat.pow_mul]
theorem drop_at {l : List Int} {i : Nat} (h : i < l.length) : ∃ c, l[i]? = some c ∧ l.drop i = c :: l.drop (i + 1) ∧ c ∈ l := ⟨l[i], List.getElem?_eq_getElem h, List.drop_eq_getElem_cons h, List.getElem_mem h⟩
def errV : Option Int → Value
  | none => .nilIface
  | some n => .iface 107 (.int .i64 n)
def getP (x : Nat × Nat × Option Int) : Pd := tup [pl (.int .u64 (x.1 : Int)), pl (.int .i64 (x.2.1 : Int)), pl (errV x.2.2)]
theorem getP_bnd (x : Nat × Nat × Option Int) (n m : Nat) : (getP x).Bnd n m := tup_bnd (bnd_cons (pl_bnd _ _ _) (bnd_cons (pl_bnd _ _ _) (bnd_cons (pl_bnd _ _ _) bnd_nil)))
theorem getP_eq {a b a' b' : Int} {o o' : Value} (h1 : a = a') (h2 : b = b') (h3 : o = o') : (tup [pl (.int .u64 a), pl (.int .i64 b), pl o]).le (tup [pl (.int .u64 a'), pl (.int .i64 b'), pl o']) := by subst h1; subst h2; subst h3; exact Pd.le_refl _
theorem getP_to {a b : Int} {o : Value} {x : Nat × Nat × Option Int} (h1 : a = x.1) (h2 : b = x.2.1) (h3 : o = errV x.2.2) : (tup [pl (.int .u64 a), pl (.int .i64 b), pl o]).le (getP x) := getP_eq h1 h2 h3
theorem v_shl (x i : Nat) (h : x * 128 ^ i < 18446744073709551616) : IntKind.u64.wrap ((x : Int) * 2 ^ ((7 * (i : Int))).toNat) = ((x * 128 ^ i : Nat) : Int) := by
  rw [show (7 * (i : Int)).toNat = 7 * i from by omega, show ((x : Nat) : Int) * 2 ^ (7 * i) = ((x * 2 ^ (7 * i) : Nat) : Int) from by simp, pow128]
  exact u64_wrap_nat h
theorem v_or (v x i : Nat) (hv : v < 128 ^ i) (h : v + x * 128 ^ i < 18446744073709551616) : bits BinOp.or .u64 (v : Int) ((x * 128 ^ i : Nat) : Int) = ((v + x * 128 ^ i : Nat) : Int) := by
  rw [← pow128] at hv h ⊢
  exact or_low v x (7 * i) hv h
theorem x_fits {v i x : Nat} (hv : v < 128 ^ i) (hx : x < 128) (hi : i ≤ 9) (h9 : i = 9 → x ≤ 1) : v + x * 128 ^ i < 18446744073709551616 := by
  by_cases hi9 : i = 9
  · subst hi9
    have := Nat.mul_le_mul_right (128 ^ 9) (h9 rfl)
    omega
  · have h3 : x * 128 ^ i ≤ 127 * 128 ^ i := Nat.mul_le_mul_right _ (by omega)
    have h4 : 128 ^ (i + 1) ≤ 128 ^ 9 := Nat.pow_le_pow_right (by omega) (by omega)
    rw [Nat.pow_succ] at h4
    omega

set_option maxRecDepth 100000 in
set_option maxHeartbeats 1000000 in
theorem get {l : List Int} (hl : l.length ≤ 9223372036854775807) (hb : Bts l) : Pure Go.Proofs.Tryz.prog 82 [sl (kI .u8) none none l] (getP (vget l)) := by
  intro s
  refine ac_of_aw s.boxes.length s.fr.length Go.Proofs.Tryz.func82 rfl (by simp [Go.Proofs.Tryz.ntmps82]) ?_
  refine aw_ext0 ?_
  refine aw_keep [(0, _)] ⟨lg ez, trivial⟩ ?_
  refine aw_seq ?_
  refine aw_region (by decide) ?_
  refine rts _ rfl (opD_assign (ev_const _ _)) ?_
  refine rts _ rfl (opD_assign (ev_const _ _)) ?_
  refine rts _ rfl (opD_assign (ev_const _ _)) ?_
  refine .nil ?_
  refine aw_keep [(4, _), (3, _), (2, _), (0, _)] ⟨lg lz, lg (ls rfl lz), lg (ls rfl (ls rfl lz)), lg (ls rfl (ls rfl (ls rfl oz))), trivial⟩ ?_
  refine aw_seq ?_
  refine aw_region (by decide) ?_
  refine rts _ rfl (opD_assign (ev_const _ _)) ?_
  refine .nil ?_
  refine aw_keep [(5, _), (4, _), (3, _), (2, _), (0, _)] ⟨lg lz, lg (ls rfl oz), lg (ls rfl (os rfl oz)), lg (ls rfl (os rfl (os rfl oz))), lg (ls rfl (os rfl (os rfl (os rfl oz)))), trivial⟩ ?_
  refine aw_seq ?_
  refine aw_seq ?_
  refine aw_region (by decide) ?_
  refine rts _ rfl (opD_move (os rfl (os rfl (os rfl (os rfl oz))))) ?_
  refine rts _ rfl (opD_len_sl Go.Proofs.Tryz.underlying30 lz) ?_
  refine rts _ rfl (opD_move (ev_const _ _)) ?_
  refine .nil ?_
  refine aw_keep [(10, _), (9, _), (8, _), (5, _), (4, _), (3, _), (2, _), (0, _)] ⟨lg lz, lg (ls rfl lz), lg (ls rfl (ls rfl lz)), lg (ls rfl (ls rfl (ls rfl oz))), lg (ls rfl (ls rfl (ls rfl (os rfl oz)))), lg (ls rfl (ls rfl (ls rfl (os rfl (os rfl oz))))), lg (ls rfl (ls rfl (ls rfl (os rfl (os rfl (os rfl oz)))))), lg (ls rfl (ls rfl (ls rfl (os rfl (os rfl (os rfl (os rfl oz))))))), trivial⟩ ?_
  refine aw_block ?_
  refine aw_loop (fun n e st => ∃ (i v : Nat), Holds e [(5, pl (.int .u64 (v : Int))), (8, sl (kI .u8) none none l), (9, pl (.int .i64 (l.length : Int))), (10, pl (.int .i64 (i : Int)))] ∧ st = s.ext [] [] ∧ n + i = l.length ∧ i ≤ 9 ∧ v < 128 ^ i ∧ vgl (l.drop i) i v = vget l) (l.length) (⟨0, 0, ⟨le_of_eq (eg (os rfl (os rfl (os rfl oz)))), le_of_eq (eg (os rfl (os rfl oz))), le_of_eq (eg (os rfl oz)), le_of_eq (eg oz), trivial⟩, rfl, rfl, by omega, by simp, rfl⟩) ?_
  rintro n e st ⟨i, v, hH, rfl, hn, hi9, hv, hg⟩
  refine aw_keep _ hH ?_
  refine aw_seq ?_
  refine aw_region (by decide) ?_
  refine rts _ rfl (opD_lss (os rfl (os rfl (os rfl oz))) (os rfl (os rfl oz))) ?_
  refine .nil ?_
  refine aw_keep [(11, _), (5, _), (8, _), (9, _), (10, _)] ⟨lg lz, lg (ls rfl oz), lg (ls rfl (os rfl oz)), lg (ls rfl (os rfl (os rfl oz))), lg (ls rfl (os rfl (os rfl (os rfl oz)))), trivial⟩ ?_
  refine aw_seq ?_
  refine aw_cond _ oz (fun hc => ?_) (fun hc => ?_)
  · skip
    have hlt : i < l.length := by have := of_decide_eq_true hc; omega
    obtain ⟨c, hci, hdr, hmem⟩ := drop_at hlt
    have hcb := hb c hmem
    refine aw_skip ?_
    refine aw_keep [(11, _), (5, _), (8, _), (9, _), (10, _)] ⟨lg oz, lg (os rfl oz), lg (os rfl (os rfl oz)), lg (os rfl (os rfl (os rfl oz))), lg (os rfl (os rfl (os rfl (os rfl oz)))), trivial⟩ ?_
    refine aw_seq ?_
    refine aw_block ?_
    refine aw_seq ?_
    refine aw_region (by decide) ?_
    refine rts _ rfl (opD_move (os rfl (os rfl (os rfl (os rfl oz))))) ?_
    refine rts _ rfl (opD_indexAddr_sl Go.Proofs.Tryz.underlying30 sz5 (ls rfl (os rfl (os rfl oz))) (ls rfl (os rfl (os rfl (os rfl (os rfl oz))))) (by first | rfl | simp | omega) (by first | assumption | omega)) ?_
    refine rts _ rfl ((by first | exact opD_load_one ag5 lz (by first | exact loc_get rfl | exact old_get (by assumption)) rfl | exact opD_load_el_one ag5 lz (by first | assumption | simp) rfl)) ?_
    refine rts _ rfl (opD_assign (ls rfl (ls rfl lz))) ?_
    refine rts _ rfl (opD_assign (ls rfl lz)) ?_
    refine .nil ?_
    refine aw_keep [(7, _), (6, _), (11, _), (5, _), (8, _), (9, _), (10, _)] ⟨lg lz, lg (ls rfl lz), lg (ls rfl (ls rfl (ls rfl (ls rfl (ls rfl oz))))), lg (ls rfl (ls rfl (ls rfl (ls rfl (ls rfl (os rfl oz)))))), lg (ls rfl (ls rfl (ls rfl (ls rfl (ls rfl (os rfl (os rfl oz))))))), lg (ls rfl (ls rfl (ls rfl (ls rfl (ls rfl (os rfl (os rfl (os rfl oz)))))))), lg (ls rfl (ls rfl (ls rfl (ls rfl (ls rfl (os rfl (os rfl (os rfl (os rfl oz))))))))), trivial⟩ ?_
    refine aw_seq ?_
    refine aw_block ?_
    refine aw_seq ?_
    refine aw_region (by decide) ?_
    refine rts _ rfl (opD_move (os rfl oz)) ?_
    refine rts _ rfl (opD_eql lz (ev_const _ _)) ?_
    refine rts _ rfl (opD_move lz) ?_
    refine rtg _ rfl lz (fun hg5_3 => by
        have hg5_3' := hg5_3
        try simp only [beq_iff_eq, decide_eq_true_eq, decide_eq_false_iff_not, Bool.and_eq_true, Bool.or_eq_true, Bool.or_eq_false_iff, Bool.and_eq_false_iff] at hg5_3'
        exact opD_move (ls rfl (ls rfl (ls rfl oz)))) ?_
    refine rtg _ rfl (ls rfl lz) (fun hg5_4 => by
        have hg5_4' := hg5_4
        try simp only [beq_iff_eq, decide_eq_true_eq, decide_eq_false_iff_not, Bool.and_eq_true, Bool.or_eq_true, Bool.or_eq_false_iff, Bool.and_eq_false_iff] at hg5_4'
        exact opD_gtr (lz.trans (pif_pos hg5_4)) (ev_const _ _)) ?_
    refine rts _ rfl (opD_and (ls rfl (ls rfl lz)) lz) ?_
    refine rts _ rfl (opD_assign lz) ?_
    refine .nil ?_
    refine aw_keep [(15, _), (7, _), (6, _), (11, _), (5, _), (8, _), (9, _), (10, _)] ⟨lg lz, lg (ls rfl (ls rfl (ls rfl (ls rfl (ls rfl (ls rfl (ls rfl oz))))))), lg (ls rfl (ls rfl (ls rfl (ls rfl (ls rfl (ls rfl (ls rfl (os rfl oz)))))))), lg (ls rfl (ls rfl (ls rfl (ls rfl (ls rfl (ls rfl (ls rfl (os rfl (os rfl oz))))))))), lg (ls rfl (ls rfl (ls rfl (ls rfl (ls rfl (ls rfl (ls rfl (os rfl (os rfl (os rfl oz)))))))))), lg (ls rfl (ls rfl (ls rfl (ls rfl (ls rfl (ls rfl (ls rfl (os rfl (os rfl (os rfl (os rfl oz))))))))))), lg (ls rfl (ls rfl (ls rfl (ls rfl (ls rfl (ls rfl (ls rfl (os rfl (os rfl (os rfl (os rfl (os rfl oz)))))))))))), lg (ls rfl (ls rfl (ls rfl (ls rfl (ls rfl (ls rfl (ls rfl (os rfl (os rfl (os rfl (os rfl (os rfl (os rfl oz))))))))))))), trivial⟩ ?_
    refine aw_cond _ oz (fun hc => ?_) (fun hc => ?_)
    · skip
      simp only [Bool.and_eq_true, decide_eq_true_eq] at hc
      rw [hdr, vgl, if_pos (by omega)] at hg
      refine aw_seq ?_
      refine aw_region (by decide) ?_
      refine rts _ rfl ((by first | exact opD_makeInterface_pl cc107 (ev_const _ _) | exact opD_makeInterface cc107 (ev_const _ _))) ?_
      refine rts _ rfl (opD_assign (ev_const _ _)) ?_
      refine rts _ rfl (opD_assign (ev_const _ _)) ?_
      refine rts _ rfl (opD_assign (ls rfl (ls rfl lz))) ?_
      refine .nil ?_
      refine aw_keep [(4, _), (3, _), (2, _), (15, _), (7, _), (6, _), (11, _), (5, _), (8, _), (9, _), (10, _)] ⟨lg lz, lg (ls rfl lz), lg (ls rfl (ls rfl lz)), lg (ls rfl (ls rfl (ls rfl (ls rfl oz)))), lg (ls rfl (ls rfl (ls rfl (ls rfl (os rfl oz))))), lg (ls rfl (ls rfl (ls rfl (ls rfl (os rfl (os rfl oz)))))), lg (ls rfl (ls rfl (ls rfl (ls rfl (os rfl (os rfl (os rfl oz))))))), lg (ls rfl (ls rfl (ls rfl (ls rfl (os rfl (os rfl (os rfl (os rfl oz)))))))), lg (ls rfl (ls rfl (ls rfl (ls rfl (os rfl (os rfl (os rfl (os rfl (os rfl oz))))))))), lg (ls rfl (ls rfl (ls rfl (ls rfl (os rfl (os rfl (os rfl (os rfl (os rfl (os rfl oz)))))))))), lg (ls rfl (ls rfl (ls rfl (ls rfl (os rfl (os rfl (os rfl (os rfl (os rfl (os rfl (os rfl oz))))))))))), trivial⟩ ?_
      refine aw_ret ?_
      exact done_ext (.inr rfl) ((res_3 rfl (eg (os rfl (os rfl oz))) (eg (os rfl oz)) (eg oz)).le (by rw [← hg]; exact getP_to (by first | rfl | (dsimp only; omega)) (by first | rfl | (dsimp only; omega)) rfl)) (getP_bnd _ _ _)
    · skip
      simp only [Bool.and_eq_false_iff, decide_eq_false_iff_not] at hc
      have hn15 : ¬ (i = 9 ∧ 1 < c) := by omega
      refine aw_seq ?_
      refine aw_region (by decide) ?_
      refine rts _ rfl (opD_move (os rfl oz)) ?_
      refine rts _ rfl (opD_eql lz (ev_const _ _)) ?_
      refine rts _ rfl (opD_move lz) ?_
      refine rtg _ rfl lz (fun hg7_3 => by
          have hg7_3' := hg7_3
          try simp only [beq_iff_eq, decide_eq_true_eq, decide_eq_false_iff_not, Bool.and_eq_true, Bool.or_eq_true, Bool.or_eq_false_iff, Bool.and_eq_false_iff] at hg7_3'
          exact opD_move (ls rfl (ls rfl (ls rfl (os rfl (os rfl oz)))))) ?_
      refine rtg _ rfl (ls rfl lz) (fun hg7_4 => by
          have hg7_4' := hg7_4
          try simp only [beq_iff_eq, decide_eq_true_eq, decide_eq_false_iff_not, Bool.and_eq_true, Bool.or_eq_true, Bool.or_eq_false_iff, Bool.and_eq_false_iff] at hg7_4'
          exact opD_gtr (lz.trans (pif_pos hg7_4)) (ev_const _ _)) ?_
      refine rts _ rfl (opD_and (ls rfl (ls rfl lz)) lz) ?_
      refine rts _ rfl (opD_assign lz) ?_
      refine .nil ?_
      refine aw_keep [(23, _), (15, _), (7, _), (6, _), (11, _), (5, _), (8, _), (9, _), (10, _)] ⟨lg lz, lg (ls rfl (ls rfl (ls rfl (ls rfl (ls rfl (ls rfl (ls rfl oz))))))), lg (ls rfl (ls rfl (ls rfl (ls rfl (ls rfl (ls rfl (ls rfl (os rfl oz)))))))), lg (ls rfl (ls rfl (ls rfl (ls rfl (ls rfl (ls rfl (ls rfl (os rfl (os rfl oz))))))))), lg (ls rfl (ls rfl (ls rfl (ls rfl (ls rfl (ls rfl (ls rfl (os rfl (os rfl (os rfl oz)))))))))), lg (ls rfl (ls rfl (ls rfl (ls rfl (ls rfl (ls rfl (ls rfl (os rfl (os rfl (os rfl (os rfl oz))))))))))), lg (ls rfl (ls rfl (ls rfl (ls rfl (ls rfl (ls rfl (ls rfl (os rfl (os rfl (os rfl (os rfl (os rfl oz)))))))))))), lg (ls rfl (ls rfl (ls rfl (ls rfl (ls rfl (ls rfl (ls rfl (os rfl (os rfl (os rfl (os rfl (os rfl (os rfl oz))))))))))))), lg (ls rfl (ls rfl (ls rfl (ls rfl (ls rfl (ls rfl (ls rfl (os rfl (os rfl (os rfl (os rfl (os rfl (os rfl (os rfl oz)))))))))))))), trivial⟩ ?_
      refine aw_cond _ oz (fun hc => ?_) (fun hc => ?_)
      · skip
        simp only [Bool.and_eq_true, decide_eq_true_eq] at hc
        rw [hdr, vgl, if_neg (by omega), if_pos (by omega)] at hg
        refine aw_seq ?_
        refine aw_region (by decide) ?_
        refine rts _ rfl ((by first | exact opD_makeInterface_pl cc107 (ev_const _ _) | exact opD_makeInterface cc107 (ev_const _ _))) ?_
        refine rts _ rfl (opD_assign (ev_const _ _)) ?_
        refine rts _ rfl (opD_assign (ev_const _ _)) ?_
        refine rts _ rfl (opD_assign (ls rfl (ls rfl lz))) ?_
        refine .nil ?_
        refine aw_keep [(4, _), (3, _), (2, _), (23, _), (15, _), (7, _), (6, _), (11, _), (5, _), (8, _), (9, _), (10, _)] ⟨lg lz, lg (ls rfl lz), lg (ls rfl (ls rfl lz)), lg (ls rfl (ls rfl (ls rfl (ls rfl oz)))), lg (ls rfl (ls rfl (ls rfl (ls rfl (os rfl oz))))), lg (ls rfl (ls rfl (ls rfl (ls rfl (os rfl (os rfl oz)))))), lg (ls rfl (ls rfl (ls rfl (ls rfl (os rfl (os rfl (os rfl oz))))))), lg (ls rfl (ls rfl (ls rfl (ls rfl (os rfl (os rfl (os rfl (os rfl oz)))))))), lg (ls rfl (ls rfl (ls rfl (ls rfl (os rfl (os rfl (os rfl (os rfl (os rfl oz))))))))), lg (ls rfl (ls rfl (ls rfl (ls rfl (os rfl (os rfl (os rfl (os rfl (os rfl (os rfl oz)))))))))), lg (ls rfl (ls rfl (ls rfl (ls rfl (os rfl (os rfl (os rfl (os rfl (os rfl (os rfl (os rfl oz))))))))))), lg (ls rfl (ls rfl (ls rfl (ls rfl (os rfl (os rfl (os rfl (os rfl (os rfl (os rfl (os rfl (os rfl oz)))))))))))), trivial⟩ ?_
        refine aw_ret ?_
        exact done_ext (.inr rfl) ((res_3 rfl (eg (os rfl (os rfl oz))) (eg (os rfl oz)) (eg oz)).le (by rw [← hg]; exact getP_to (by first | rfl | (dsimp only; omega)) (by first | rfl | (dsimp only; omega)) rfl)) (getP_bnd _ _ _)
      · skip
        simp only [Bool.and_eq_false_iff, decide_eq_false_iff_not] at hc
        have hn23 : ¬ (c = 0 ∧ 0 < i) := by omega
        refine aw_skip ?_
        refine aw_keep [(23, _), (15, _), (7, _), (6, _), (11, _), (5, _), (8, _), (9, _), (10, _)] ⟨lg oz, lg (os rfl oz), lg (os rfl (os rfl oz)), lg (os rfl (os rfl (os rfl oz))), lg (os rfl (os rfl (os rfl (os rfl oz)))), lg (os rfl (os rfl (os rfl (os rfl (os rfl oz))))), lg (os rfl (os rfl (os rfl (os rfl (os rfl (os rfl oz)))))), lg (os rfl (os rfl (os rfl (os rfl (os rfl (os rfl (os rfl oz))))))), lg (os rfl (os rfl (os rfl (os rfl (os rfl (os rfl (os rfl (os rfl oz)))))))), trivial⟩ ?_
        refine aw_seq ?_
        obtain ⟨x, hx⟩ : ∃ x : Nat, c % 128 = (x : Int) := ⟨(c % 128).toNat, by omega⟩
        have hxf := x_fits (v := v) (i := i) (x := x) hv (by omega) hi9 (fun h9 => by omega)
        refine aw_region (by decide) ?_
        refine rts _ rfl (opD_move (os rfl (os rfl (os rfl (os rfl (os rfl oz)))))) ?_
        refine rts _ rfl (opD_move (ls rfl (os rfl (os rfl oz)))) ?_
        refine rts _ rfl (opD_bits (.inr (.inr (.inr rfl))) lz (ev_const _ _) ((andnot128 c hcb.1 hcb.2).trans hx)) ?_
        refine rts _ rfl (opD_conv_int Go.Proofs.Tryz.underlying5 Go.Proofs.Tryz.underlying22 lz (by first | exact IntWalk.u64_in _ (by omega) | exact rfl)) ?_
        refine rts _ rfl (opD_move (ls rfl (ls rfl (ls rfl (ls rfl (os rfl (os rfl (os rfl oz)))))))) ?_
        refine rts _ rfl (opD_conv_int Go.Proofs.Tryz.underlying3 Go.Proofs.Tryz.underlying208 lz (by first | exact IntWalk.u64_in _ (by omega) | exact rfl)) ?_
        refine rts _ rfl (opD_mul (ev_const _ _) lz (by first | exact IntWalk.u64_in _ (by omega) | exact rfl)) ?_
        refine rts _ rfl (opD_shl (ls rfl (ls rfl (ls rfl lz))) lz (by omega) (by simp [IntKind.bits]; omega) (v_shl x i (by omega))) ?_
        refine rts _ rfl (opD_bits (.inr (.inl rfl)) (ls rfl (ls rfl (ls rfl (ls rfl (ls rfl (ls rfl (ls rfl lz))))))) lz (v_or v x i hv hxf)) ?_
        refine rts _ rfl (opD_assign lz) ?_
        refine .nil ?_
        refine aw_keep [(5, _), (23, _), (15, _), (7, _), (6, _), (11, _), (8, _), (9, _), (10, _)] ⟨lg lz, lg (ls rfl (ls rfl (ls rfl (ls rfl (ls rfl (ls rfl (ls rfl (ls rfl (ls rfl (ls rfl oz)))))))))), lg (ls rfl (ls rfl (ls rfl (ls rfl (ls rfl (ls rfl (ls rfl (ls rfl (ls rfl (ls rfl (os rfl oz))))))))))), lg (ls rfl (ls rfl (ls rfl (ls rfl (ls rfl (ls rfl (ls rfl (ls rfl (ls rfl (ls rfl (os rfl (os rfl oz)))))))))))), lg (ls rfl (ls rfl (ls rfl (ls rfl (ls rfl (ls rfl (ls rfl (ls rfl (ls rfl (ls rfl (os rfl (os rfl (os rfl oz))))))))))))), lg (ls rfl (ls rfl (ls rfl (ls rfl (ls rfl (ls rfl (ls rfl (ls rfl (ls rfl (ls rfl (os rfl (os rfl (os rfl (os rfl oz)))))))))))))), lg (ls rfl (ls rfl (ls rfl (ls rfl (ls rfl (ls rfl (ls rfl (ls rfl (ls rfl (ls rfl (os rfl (os rfl (os rfl (os rfl (os rfl (os rfl oz)))))))))))))))), lg (ls rfl (ls rfl (ls rfl (ls rfl (ls rfl (ls rfl (ls rfl (ls rfl (ls rfl (ls rfl (os rfl (os rfl (os rfl (os rfl (os rfl (os rfl (os rfl oz))))))))))))))))), lg (ls rfl (ls rfl (ls rfl (ls rfl (ls rfl (ls rfl (ls rfl (ls rfl (ls rfl (ls rfl (os rfl (os rfl (os rfl (os rfl (os rfl (os rfl (os rfl (os rfl oz)))))))))))))))))), trivial⟩ ?_
        refine aw_seq ?_
        refine aw_region (by decide) ?_
        refine rts _ rfl (opD_move (os rfl (os rfl (os rfl oz)))) ?_
        refine rts _ rfl (opD_lss lz (ev_const _ _)) ?_
        refine .nil ?_
        refine aw_keep [(41, _), (5, _), (23, _), (15, _), (7, _), (6, _), (11, _), (8, _), (9, _), (10, _)] ⟨lg lz, lg (ls rfl (ls rfl oz)), lg (ls rfl (ls rfl (os rfl oz))), lg (ls rfl (ls rfl (os rfl (os rfl oz)))), lg (ls rfl (ls rfl (os rfl (os rfl (os rfl oz))))), lg (ls rfl (ls rfl (os rfl (os rfl (os rfl (os rfl oz)))))), lg (ls rfl (ls rfl (os rfl (os rfl (os rfl (os rfl (os rfl oz))))))), lg (ls rfl (ls rfl (os rfl (os rfl (os rfl (os rfl (os rfl (os rfl oz)))))))), lg (ls rfl (ls rfl (os rfl (os rfl (os rfl (os rfl (os rfl (os rfl (os rfl oz))))))))), lg (ls rfl (ls rfl (os rfl (os rfl (os rfl (os rfl (os rfl (os rfl (os rfl (os rfl oz)))))))))), trivial⟩ ?_
        refine aw_cond _ oz (fun hc => ?_) (fun hc => ?_)
        · skip
          simp only [decide_eq_true_eq] at hc
          obtain rfl : x = c.toNat := by omega
          rw [hdr, vgl, if_neg (by omega), if_neg (by omega), if_pos hc] at hg
          refine aw_seq ?_
          refine aw_region (by decide) ?_
          refine rts _ rfl (opD_move (os rfl oz)) ?_
          refine rts _ rfl (opD_move (ls rfl (os rfl (os rfl (os rfl (os rfl (os rfl oz))))))) ?_
          refine rts _ rfl (opD_add lz (ev_const _ _) (by first | exact IntWalk.i64_in _ (by omega) | exact rfl)) ?_
          refine rts _ rfl (opD_assign (ls rfl (ls rfl lz))) ?_
          refine rts _ rfl (opD_assign (ls rfl lz)) ?_
          refine rts _ rfl (opD_assign (ev_const _ _)) ?_
          refine .nil ?_
          refine aw_keep [(4, _), (3, _), (2, _), (41, _), (5, _), (23, _), (15, _), (7, _), (6, _), (11, _), (8, _), (9, _), (10, _)] ⟨lg lz, lg (ls rfl lz), lg (ls rfl (ls rfl lz)), lg (ls rfl (ls rfl (ls rfl (ls rfl (ls rfl (ls rfl oz)))))), lg (ls rfl (ls rfl (ls rfl (ls rfl (ls rfl (ls rfl (os rfl oz))))))), lg (ls rfl (ls rfl (ls rfl (ls rfl (ls rfl (ls rfl (os rfl (os rfl oz)))))))), lg (ls rfl (ls rfl (ls rfl (ls rfl (ls rfl (ls rfl (os rfl (os rfl (os rfl oz))))))))), lg (ls rfl (ls rfl (ls rfl (ls rfl (ls rfl (ls rfl (os rfl (os rfl (os rfl (os rfl oz)))))))))), lg (ls rfl (ls rfl (ls rfl (ls rfl (ls rfl (ls rfl (os rfl (os rfl (os rfl (os rfl (os rfl oz))))))))))), lg (ls rfl (ls rfl (ls rfl (ls rfl (ls rfl (ls rfl (os rfl (os rfl (os rfl (os rfl (os rfl (os rfl oz)))))))))))), lg (ls rfl (ls rfl (ls rfl (ls rfl (ls rfl (ls rfl (os rfl (os rfl (os rfl (os rfl (os rfl (os rfl (os rfl oz))))))))))))), lg (ls rfl (ls rfl (ls rfl (ls rfl (ls rfl (ls rfl (os rfl (os rfl (os rfl (os rfl (os rfl (os rfl (os rfl (os rfl oz)))))))))))))), lg (ls rfl (ls rfl (ls rfl (ls rfl (ls rfl (ls rfl (os rfl (os rfl (os rfl (os rfl (os rfl (os rfl (os rfl (os rfl (os rfl oz))))))))))))))), trivial⟩ ?_
          refine aw_ret ?_
          exact done_ext (.inr rfl) ((res_3 rfl (eg (os rfl (os rfl oz))) (eg (os rfl oz)) (eg oz)).le (by rw [← hg]; exact getP_to (by first | rfl | (dsimp only; omega)) (by first | rfl | (dsimp only; omega)) rfl)) (getP_bnd _ _ _)
        · skip
          simp only [decide_eq_false_iff_not] at hc
          refine aw_skip ?_
          refine aw_keep [(41, _), (5, _), (23, _), (15, _), (7, _), (6, _), (11, _), (8, _), (9, _), (10, _)] ⟨lg oz, lg (os rfl oz), lg (os rfl (os rfl oz)), lg (os rfl (os rfl (os rfl oz))), lg (os rfl (os rfl (os rfl (os rfl oz)))), lg (os rfl (os rfl (os rfl (os rfl (os rfl oz))))), lg (os rfl (os rfl (os rfl (os rfl (os rfl (os rfl oz)))))), lg (os rfl (os rfl (os rfl (os rfl (os rfl (os rfl (os rfl oz))))))), lg (os rfl (os rfl (os rfl (os rfl (os rfl (os rfl (os rfl (os rfl oz)))))))), lg (os rfl (os rfl (os rfl (os rfl (os rfl (os rfl (os rfl (os rfl (os rfl oz))))))))), trivial⟩ ?_
          refine aw_region (by decide) ?_
          refine rts _ rfl (opD_add (os rfl (os rfl (os rfl (os rfl (os rfl (os rfl (os rfl (os rfl (os rfl oz))))))))) (ev_const _ _) (by first | exact IntWalk.i64_in _ (by omega) | exact rfl)) ?_
          refine rts _ rfl (opD_move lz) ?_
          refine .nil ?_
          have hng : ¬ c < 128 := by omega
          have hx9 : i ≠ 9 := by intro h9; exact hng (by omega)
          refine ⟨n - 1, by omega, i + 1, v + x * 128 ^ i, ⟨le_of_eq (eg (ls rfl (ls rfl (os rfl oz)))), le_of_eq (eg (ls rfl (ls rfl (os rfl (os rfl (os rfl (os rfl (os rfl (os rfl (os rfl oz)))))))))), le_of_eq (eg (ls rfl (ls rfl (os rfl (os rfl (os rfl (os rfl (os rfl (os rfl (os rfl (os rfl oz))))))))))), le_of_eq (eg lz), trivial⟩, rfl, by omega, by omega, ?_, ?_⟩
          · have h3 : x * 128 ^ i ≤ 127 * 128 ^ i := Nat.mul_le_mul_right _ (by omega)
            rw [Nat.pow_succ]; omega
          · rw [← hg, hdr, vgl, if_neg (by omega), if_neg (by omega), if_neg hng, show x = c.toNat - 128 by omega]
  · skip
    have hge : ¬ i < l.length := by have := of_decide_eq_false hc; omega
    rw [List.drop_eq_nil_of_le (by omega)] at hg
    refine aw_exit ?_
    refine aw_keep [(11, _), (5, _), (8, _), (9, _), (10, _)] ⟨lg oz, lg (os rfl oz), lg (os rfl (os rfl oz)), lg (os rfl (os rfl (os rfl oz))), lg (os rfl (os rfl (os rfl (os rfl oz)))), trivial⟩ ?_
    refine aw_seq ?_
    refine aw_region (by decide) ?_
    refine rts _ rfl ((by first | exact opD_makeInterface_pl cc107 (ev_const _ _) | exact opD_makeInterface cc107 (ev_const _ _))) ?_
    refine rts _ rfl (opD_assign (ev_const _ _)) ?_
    refine rts _ rfl (opD_assign (ev_const _ _)) ?_
    refine rts _ rfl (opD_assign (ls rfl (ls rfl lz))) ?_
    refine .nil ?_
    refine aw_keep [(4, _), (3, _), (2, _), (11, _), (5, _), (8, _), (9, _), (10, _)] ⟨lg lz, lg (ls rfl lz), lg (ls rfl (ls rfl lz)), lg (ls rfl (ls rfl (ls rfl (ls rfl oz)))), lg (ls rfl (ls rfl (ls rfl (ls rfl (os rfl oz))))), lg (ls rfl (ls rfl (ls rfl (ls rfl (os rfl (os rfl oz)))))), lg (ls rfl (ls rfl (ls rfl (ls rfl (os rfl (os rfl (os rfl oz))))))), lg (ls rfl (ls rfl (ls rfl (ls rfl (os rfl (os rfl (os rfl (os rfl oz)))))))), trivial⟩ ?_
    refine aw_ret ?_
    exact done_ext (.inr rfl) ((res_3 rfl (eg (os rfl (os rfl oz))) (eg (os rfl oz)) (eg oz)).le (by rw [← hg]; exact getP_to (by first | rfl | (dsimp only; omega)) (by first | rfl | (dsimp only; omega)) rfl)) (getP_bnd _ _ _)


def RdB (l : List Int) (b : Bool) : Bx := ⟨171, [sl (kI .u8) none none l, pl (.bool b)]⟩
theorem rdB_bnd (l : List Int) (b : Bool) (n m : Nat) : ∀ q ∈ (RdB l b).cs, q.Bnd n m := bnd_cons (sl_bnd (kI_bnd _ _ _ _)) (bnd_cons (pl_bnd _ _ _) bnd_nil)

set_option maxRecDepth 100000 in
set_option maxHeartbeats 1000000 in
theorem rd_fail {s : St} {g : Nat} {l : List Int} {b : Bool} (hG : s.boxes[g]? = some (RdB l b)) : AC Go.Proofs.Tryz.prog 83 [ptr g 0] s (pl (.tuple #[])) (s.upd g (RdB [] true)) := by
  refine ac_of_aw s.boxes.length s.fr.length Go.Proofs.Tryz.func83 rfl (by simp [Go.Proofs.Tryz.ntmps83]) ?_
  refine aw_ext0 ?_
  have hlt := (List.getElem?_eq_some_iff.1 hG).1
  refine aw_upd0 hG ?_
  refine aw_keep [(0, _)] ⟨lg ez, trivial⟩ ?_
  refine aw_region (by decide) ?_
  refine rts _ rfl (opD_move oz) ?_
  refine rts _ rfl (opD_move (ls rfl oz)) ?_
  refine rts _ rfl ((by first | exact opD_nilCheck_ptr (ls rfl lz) | exact opD_nilCheck_el (ls rfl lz))) ?_
  refine rts _ rfl ((by first | exact opD_fieldAddr fo171_0 lz | exact opD_fieldAddr_el fo171_0 lz)) ?_
  refine rts _ rfl (opD_storeU (B' := RdB [] b) sz30 lz (le_nil (ev_const _ _)) (by first | exact one_pl rfl | exact one_sl _ _ _ _ | exact one_ptr _ _) hlt (Nat.le_of_ble_eq_true rfl) (by first | exact pl_bnd _ _ _ | exact sl_bnd (kI_bnd _ _ _ _) | exact ptr_bnd _ (by omega)) rfl) ?_
  refine rts _ rfl ((by first | exact opD_nilCheck_ptr (lx (ls rfl (ls rfl lz))) | exact opD_nilCheck_el (lx (ls rfl (ls rfl lz))))) ?_
  refine rts _ rfl ((by first | exact opD_fieldAddr fo171_1 lz | exact opD_fieldAddr_el fo171_1 lz)) ?_
  refine rts _ rfl (opD_storeU (B' := RdB [] true) sz4 lz (le_of_eq (ev_const _ _)) (by first | exact one_pl rfl | exact one_sl _ _ _ _ | exact one_ptr _ _) hlt (Nat.le_of_ble_eq_true rfl) (by first | exact pl_bnd _ _ _ | exact sl_bnd (kI_bnd _ _ _ _) | exact ptr_bnd _ (by omega)) rfl) ?_
  refine .nil ?_
  exact done_upd (.inl rfl) (res_0 rfl) (pl_bnd _ _ _) (rdB_bnd _ _ _ _)


def rdNumB (most : Nat) (l : List Int) (b : Bool) : Bx := RdB (rdNum most l b).2.1 (rdNum most l b).2.2
theorem rdNum_err {most : Nat} {l : List Int} {b : Bool} (h : (vget l).2.2.isSome = true ∨ (most : Int) < ((vget l).1 : Int)) : rdNum most l b = (0, [], true) := by
  rcases hv : vget l with ⟨x, n, o⟩
  rw [hv] at h
  cases o with
  | none => simp at h; simp only [rdNum, hv]; rw [if_neg (by simp; omega)]
  | some e => simp only [rdNum, hv]; rw [if_neg (by simp)]
theorem rdNum_ok {most : Nat} {l : List Int} {b : Bool} (h : (vget l).2.2.isSome = false ∧ ¬ (most : Int) < ((vget l).1 : Int)) : rdNum most l b = ((vget l).1, l.drop (vget l).2.1, b) ∧ (vget l).2.1 ≤ l.length := by
  rcases hv : vget l with ⟨x, n, o⟩
  rw [hv] at h
  cases o with
  | none => simp at h; refine ⟨?_, (vget_ok hv).2⟩; simp only [rdNum, hv]; rw [if_pos (by simp; omega)]
  | some e => simp at h
theorem errV_beq (o : Option Int) (w : World) : (binOp .neq 33 (errV o) .nilIface).run Go.Proofs.Tryz.prog w = .ok (.bool o.isSome) w := by cases o <;> simp [errV, go_sem]
theorem errV_guard (o : Option Int) (w : World) (x : Operand) : (eqGuard .neq 33 x (.const .nilIface) (errV o) .nilIface).run Go.Proofs.Tryz.prog w = .ok () w := by cases o <;> simp [errV, go_sem]

set_option maxRecDepth 100000 in
set_option maxHeartbeats 1000000 in
theorem rd_num {s : St} {g : Nat} {l : List Int} {b : Bool} (hG : s.boxes[g]? = some (RdB l b)) {most : Nat} (hb : Bts l) (hl : l.length ≤ 9223372036854775807) (hm : most < 18446744073709551616) : AC Go.Proofs.Tryz.prog 41 [ptr g 0, pl (.int .u64 (most : Int))] s (pl (.int .u64 ((rdNum most l b).1 : Int))) (s.upd g (rdNumB most l b)) := by
  refine ac_of_aw s.boxes.length s.fr.length Go.Proofs.Tryz.func41 rfl (by simp [Go.Proofs.Tryz.ntmps41]) ?_
  refine aw_ext0 ?_
  have hlt := (List.getElem?_eq_some_iff.1 hG).1
  refine aw_upd0 hG ?_
  refine aw_keep [(0, _), (1, _)] ⟨lg ez, lg (es ez), trivial⟩ ?_
  refine aw_seq ?_
  refine aw_region (by decide) ?_
  refine rts _ rfl (opD_assign (ev_const _ _)) ?_
  refine .nil ?_
  refine aw_keep [(4, _), (0, _), (1, _)] ⟨lg lz, lg (ls rfl oz), lg (ls rfl (os rfl oz)), trivial⟩ ?_
  refine aw_seq ?_
  refine aw_seq ?_
  refine aw_region (by decide) ?_
  refine rts _ rfl (opD_move (os rfl oz)) ?_
  refine rts _ rfl ((by first | exact opD_ptr_eqnil Go.Proofs.Tryz.underlying108 lz | exact opD_nilp_eqnil Go.Proofs.Tryz.underlying108 lz)) ?_
  refine .nil ?_
  refine aw_keep [(9, _), (4, _), (0, _), (1, _)] ⟨lg lz, lg (ls rfl (ls rfl oz)), lg (ls rfl (ls rfl (os rfl oz))), lg (ls rfl (ls rfl (os rfl (os rfl oz)))), trivial⟩ ?_
  refine aw_cond _ oz (fun hc => ?_) (fun hc => ?_)
  · skip
    exfalso; revert hc; simp
  · skip
    refine aw_skip ?_
    refine aw_keep [(9, _), (4, _), (0, _), (1, _)] ⟨lg oz, lg (os rfl oz), lg (os rfl (os rfl oz)), lg (os rfl (os rfl (os rfl oz))), trivial⟩ ?_
    refine aw_seq ?_
    refine aw_region (by decide) ?_
    refine rts _ rfl (opD_move (os rfl (os rfl oz))) ?_
    refine rts _ rfl ((by first | exact opD_nilCheck_ptr lz | exact opD_nilCheck_el lz)) ?_
    refine rts _ rfl ((by first | exact opD_fieldAddr fo171_0 lz | exact opD_fieldAddr_el fo171_0 lz)) ?_
    refine rts _ rfl ((by first | exact opD_loadU ag30 lz hlt rfl | exact opD_load_one ag30 lz (by first | exact loc_get rfl | exact old_get (by assumption)) rfl | exact opD_load_el_one ag30 lz (by first | assumption | simp) rfl)) ?_
    refine rts _ rfl (opD_pure ht82 (get hl hb) ⟨le_sl lz, trivial⟩) ?_
    refine rts _ rfl (opD_move lz) ?_
    refine rts _ rfl (opD_extract lz rfl) ?_
    refine rts _ rfl (opD_extract (ls rfl lz) rfl) ?_
    refine rts _ rfl (opD_extract (ls rfl (ls rfl lz)) rfl) ?_
    refine rts _ rfl (opD_assign (ls rfl (ls rfl lz))) ?_
    refine rts _ rfl (opD_assign (ls rfl (ls rfl lz))) ?_
    refine rts _ rfl (opD_assign (ls rfl (ls rfl lz))) ?_
    refine .nil ?_
    refine aw_keep [(7, _), (6, _), (5, _), (9, _), (4, _), (0, _), (1, _)] ⟨lg lz, lg (ls rfl lz), lg (ls rfl (ls rfl lz)), lg (ls rfl (ls rfl (ls rfl (ls rfl (ls rfl (ls rfl (ls rfl (ls rfl (ls rfl (ls rfl (ls rfl (ls rfl oz)))))))))))), lg (ls rfl (ls rfl (ls rfl (ls rfl (ls rfl (ls rfl (ls rfl (ls rfl (ls rfl (ls rfl (ls rfl (ls rfl (os rfl oz))))))))))))), lg (ls rfl (ls rfl (ls rfl (ls rfl (ls rfl (ls rfl (ls rfl (ls rfl (ls rfl (ls rfl (ls rfl (ls rfl (os rfl (os rfl oz)))))))))))))), lg (ls rfl (ls rfl (ls rfl (ls rfl (ls rfl (ls rfl (ls rfl (ls rfl (ls rfl (ls rfl (ls rfl (ls rfl (os rfl (os rfl (os rfl oz))))))))))))))), trivial⟩ ?_
    refine aw_seq ?_
    refine aw_seq ?_
    refine aw_region (by decide) ?_
    refine rts _ rfl (opD_move oz) ?_
    refine rts _ rfl (opD_bin lz (ev_const _ _) (fun w => errV_guard _ w _) (fun w => errV_beq _ w)) ?_
    refine rts _ rfl (opD_move lz) ?_
    refine rtg _ rfl lz (fun hg4_3 => by
        have hg4_3' := hg4_3
        try simp only [beq_iff_eq, decide_eq_true_eq, decide_eq_false_iff_not, Bool.and_eq_true, Bool.or_eq_true, Bool.or_eq_false_iff, Bool.and_eq_false_iff] at hg4_3'
        exact opD_move (ls rfl (ls rfl (ls rfl (os rfl (os rfl oz)))))) ?_
    refine rtg _ rfl (ls rfl lz) (fun hg4_4 => by
        have hg4_4' := hg4_4
        try simp only [beq_iff_eq, decide_eq_true_eq, decide_eq_false_iff_not, Bool.and_eq_true, Bool.or_eq_true, Bool.or_eq_false_iff, Bool.and_eq_false_iff] at hg4_4'
        exact opD_move (ls rfl (ls rfl (ls rfl (ls rfl (os rfl (os rfl (os rfl (os rfl (os rfl (os rfl oz))))))))))) ?_
    refine rtg _ rfl (ls rfl (ls rfl lz)) (fun hg4_5 => by
        have hg4_5' := hg4_5
        try simp only [beq_iff_eq, decide_eq_true_eq, decide_eq_false_iff_not, Bool.and_eq_true, Bool.or_eq_true, Bool.or_eq_false_iff, Bool.and_eq_false_iff] at hg4_5'
        exact opD_gtr ((ls rfl lz).trans (pif_pos hg4_5)) (lz.trans (pif_pos hg4_5))) ?_
    refine rts _ rfl (opD_or (ls rfl (ls rfl (ls rfl lz))) lz) ?_
    refine .nil ?_
    refine aw_keep [(25, _), (7, _), (6, _), (5, _), (9, _), (4, _), (0, _), (1, _)] ⟨lg lz, lg (ls rfl (ls rfl (ls rfl (ls rfl (ls rfl (ls rfl (ls rfl oz))))))), lg (ls rfl (ls rfl (ls rfl (ls rfl (ls rfl (ls rfl (ls rfl (os rfl oz)))))))), lg (ls rfl (ls rfl (ls rfl (ls rfl (ls rfl (ls rfl (ls rfl (os rfl (os rfl oz))))))))), lg (ls rfl (ls rfl (ls rfl (ls rfl (ls rfl (ls rfl (ls rfl (os rfl (os rfl (os rfl oz)))))))))), lg (ls rfl (ls rfl (ls rfl (ls rfl (ls rfl (ls rfl (ls rfl (os rfl (os rfl (os rfl (os rfl oz))))))))))), lg (ls rfl (ls rfl (ls rfl (ls rfl (ls rfl (ls rfl (ls rfl (os rfl (os rfl (os rfl (os rfl (os rfl oz)))))))))))), lg (ls rfl (ls rfl (ls rfl (ls rfl (ls rfl (ls rfl (ls rfl (os rfl (os rfl (os rfl (os rfl (os rfl (os rfl oz))))))))))))), trivial⟩ ?_
    refine aw_cond _ oz (fun hc => ?_) (fun hc => ?_)
    · skip
      simp only [Bool.or_eq_true, decide_eq_true_eq] at hc
      have he := rdNum_err (b := b) hc
      unfold rdNumB; rw [he]
      refine aw_seq ?_
      refine aw_region (by decide) ?_
      refine rts _ rfl (opD_move (os rfl (os rfl (os rfl (os rfl (os rfl (os rfl oz))))))) ?_
      refine rts _ rfl (opD_callU ht83 (fun s h => rd_fail h) hlt ⟨le_of_eq lz, trivial⟩) ?_
      refine .nil ?_
      refine aw_keep [(25, _), (7, _), (6, _), (5, _), (9, _), (4, _), (0, _), (1, _)] ⟨lg (ls rfl (ls rfl oz)), lg (ls rfl (ls rfl (os rfl oz))), lg (ls rfl (ls rfl (os rfl (os rfl oz)))), lg (ls rfl (ls rfl (os rfl (os rfl (os rfl oz))))), lg (ls rfl (ls rfl (os rfl (os rfl (os rfl (os rfl oz)))))), lg (ls rfl (ls rfl (os rfl (os rfl (os rfl (os rfl (os rfl oz))))))), lg (ls rfl (ls rfl (os rfl (os rfl (os rfl (os rfl (os rfl (os rfl oz)))))))), lg (ls rfl (ls rfl (os rfl (os rfl (os rfl (os rfl (os rfl (os rfl (os rfl oz))))))))), trivial⟩ ?_
      refine aw_seq ?_
      refine aw_region (by decide) ?_
      refine rts _ rfl (opD_assign (ev_const _ _)) ?_
      refine .nil ?_
      refine aw_keep [(4, _), (25, _), (7, _), (6, _), (5, _), (9, _), (0, _), (1, _)] ⟨lg lz, lg (ls rfl oz), lg (ls rfl (os rfl oz)), lg (ls rfl (os rfl (os rfl oz))), lg (ls rfl (os rfl (os rfl (os rfl oz)))), lg (ls rfl (os rfl (os rfl (os rfl (os rfl oz))))), lg (ls rfl (os rfl (os rfl (os rfl (os rfl (os rfl (os rfl oz))))))), lg (ls rfl (os rfl (os rfl (os rfl (os rfl (os rfl (os rfl (os rfl oz)))))))), trivial⟩ ?_
      refine aw_ret ?_
      exact done_upd (.inr rfl) (res_1 rfl (eg oz)) (by first | exact pl_bnd _ _ _ | exact sl_bnd (kI_bnd _ _ _ _)) (rdB_bnd _ _ _ _)
    · skip
      simp only [Bool.or_eq_false_iff, decide_eq_false_iff_not] at hc
      obtain ⟨he, hn2⟩ := rdNum_ok (b := b) hc
      unfold rdNumB; rw [he]
      refine aw_skip ?_
      refine aw_keep [(25, _), (7, _), (6, _), (5, _), (9, _), (4, _), (0, _), (1, _)] ⟨lg oz, lg (os rfl oz), lg (os rfl (os rfl oz)), lg (os rfl (os rfl (os rfl oz))), lg (os rfl (os rfl (os rfl (os rfl oz)))), lg (os rfl (os rfl (os rfl (os rfl (os rfl oz))))), lg (os rfl (os rfl (os rfl (os rfl (os rfl (os rfl oz)))))), lg (os rfl (os rfl (os rfl (os rfl (os rfl (os rfl (os rfl oz))))))), trivial⟩ ?_
      refine aw_seq ?_
      refine aw_region (by decide) ?_
      refine rts _ rfl (opD_move (os rfl (os rfl (os rfl (os rfl (os rfl (os rfl oz))))))) ?_
      refine rts _ rfl (opD_move (ls rfl (os rfl (os rfl (os rfl (os rfl (os rfl (os rfl oz)))))))) ?_
      refine rts _ rfl ((by first | exact opD_nilCheck_ptr lz | exact opD_nilCheck_el lz)) ?_
      refine rts _ rfl ((by first | exact opD_fieldAddr fo171_0 lz | exact opD_fieldAddr_el fo171_0 lz)) ?_
      refine rts _ rfl ((by first | exact opD_loadU ag30 lz hlt rfl | exact opD_load_one ag30 lz (by first | exact loc_get rfl | exact old_get (by assumption)) rfl | exact opD_load_el_one ag30 lz (by first | assumption | simp) rfl)) ?_
      refine rts _ rfl (opD_move (ls rfl (ls rfl (ls rfl (ls rfl (ls rfl (os rfl (os rfl oz)))))))) ?_
      refine rts _ rfl (opD_slice_from _ Go.Proofs.Tryz.underlying30 sz5 (ls rfl lz) lz rfl hn2) ?_
      refine rts _ rfl ((by first | exact opD_nilCheck_ptr (ls rfl (ls rfl (ls rfl (ls rfl (ls rfl (ls rfl lz)))))) | exact opD_nilCheck_el (ls rfl (ls rfl (ls rfl (ls rfl (ls rfl (ls rfl lz)))))))) ?_
      refine rts _ rfl ((by first | exact opD_fieldAddr fo171_0 lz | exact opD_fieldAddr_el fo171_0 lz)) ?_
      refine rts _ rfl (opD_storeU (B' := RdB (l.drop (vget l).2.1) b) sz30 lz (le_sl (ls rfl (ls rfl lz))) (by first | exact one_pl rfl | exact one_sl _ _ _ _ | exact one_ptr _ _) hlt (Nat.le_of_ble_eq_true rfl) (by first | exact pl_bnd _ _ _ | exact sl_bnd (kI_bnd _ _ _ _) | exact ptr_bnd _ (by omega)) rfl) ?_
      refine .nil ?_
      refine aw_keep [(25, _), (7, _), (6, _), (5, _), (9, _), (4, _), (0, _), (1, _)] ⟨lg (lx (ls rfl (ls rfl (ls rfl (ls rfl (ls rfl (ls rfl (ls rfl (ls rfl (ls rfl oz)))))))))), lg (lx (ls rfl (ls rfl (ls rfl (ls rfl (ls rfl (ls rfl (ls rfl (ls rfl (ls rfl (os rfl oz))))))))))), lg (lx (ls rfl (ls rfl (ls rfl (ls rfl (ls rfl (ls rfl (ls rfl (ls rfl (ls rfl (os rfl (os rfl oz)))))))))))), lg (lx (ls rfl (ls rfl (ls rfl (ls rfl (ls rfl (ls rfl (ls rfl (ls rfl (ls rfl (os rfl (os rfl (os rfl oz))))))))))))), lg (lx (ls rfl (ls rfl (ls rfl (ls rfl (ls rfl (ls rfl (ls rfl (ls rfl (ls rfl (os rfl (os rfl (os rfl (os rfl oz)))))))))))))), lg (lx (ls rfl (ls rfl (ls rfl (ls rfl (ls rfl (ls rfl (ls rfl (ls rfl (ls rfl (os rfl (os rfl (os rfl (os rfl (os rfl oz))))))))))))))), lg (lx (ls rfl (ls rfl (ls rfl (ls rfl (ls rfl (ls rfl (ls rfl (ls rfl (ls rfl (os rfl (os rfl (os rfl (os rfl (os rfl (os rfl oz)))))))))))))))), lg (lx (ls rfl (ls rfl (ls rfl (ls rfl (ls rfl (ls rfl (ls rfl (ls rfl (ls rfl (os rfl (os rfl (os rfl (os rfl (os rfl (os rfl (os rfl oz))))))))))))))))), trivial⟩ ?_
      refine aw_seq ?_
      refine aw_region (by decide) ?_
      refine rts _ rfl (opD_move (os rfl (os rfl (os rfl oz)))) ?_
      refine rts _ rfl (opD_assign lz) ?_
      refine .nil ?_
      refine aw_keep [(4, _), (25, _), (7, _), (6, _), (5, _), (9, _), (0, _), (1, _)] ⟨lg lz, lg (ls rfl (ls rfl oz)), lg (ls rfl (ls rfl (os rfl oz))), lg (ls rfl (ls rfl (os rfl (os rfl oz)))), lg (ls rfl (ls rfl (os rfl (os rfl (os rfl oz))))), lg (ls rfl (ls rfl (os rfl (os rfl (os rfl (os rfl oz)))))), lg (ls rfl (ls rfl (os rfl (os rfl (os rfl (os rfl (os rfl (os rfl oz)))))))), lg (ls rfl (ls rfl (os rfl (os rfl (os rfl (os rfl (os rfl (os rfl (os rfl oz))))))))), trivial⟩ ?_
      refine aw_ret ?_
      exact done_upd (.inr rfl) (res_1 rfl (eg oz)) (by first | exact pl_bnd _ _ _ | exact sl_bnd (kI_bnd _ _ _ _)) (rdB_bnd _ _ _ _)


def rdByteB (l : List Int) (b : Bool) : Bx := RdB (rdByte l b).2.1 (rdByte l b).2.2
theorem rdBytes_bad {most : Nat} {l : List Int} {b : Bool} (h : (((rdNum most l b).2.1).length : Int) < ((rdNum most l b).1 : Int)) : rdBytes most l b = ([], [], true) := by
  unfold rdBytes; rw [if_neg (by omega)]
theorem rdBytes_good {most : Nat} {l : List Int} {b : Bool} (h : ¬ (((rdNum most l b).2.1).length : Int) < ((rdNum most l b).1 : Int)) : rdBytes most l b = ((rdNum most l b).2.1.take (rdNum most l b).1, (rdNum most l b).2.1.drop (rdNum most l b).1, (rdNum most l b).2.2) ∧ (rdNum most l b).1 ≤ (rdNum most l b).2.1.length := by
  unfold rdBytes; rw [if_pos (by omega)]; exact ⟨rfl, by omega⟩
def rdBytesB (most : Nat) (l : List Int) (b : Bool) : Bx := RdB (rdBytes most l b).2.1 (rdBytes most l b).2.2

set_option maxRecDepth 100000 in
set_option maxHeartbeats 1000000 in
theorem rd_byte {s : St} {g : Nat} {l : List Int} {b : Bool} (hG : s.boxes[g]? = some (RdB l b)) : AC Go.Proofs.Tryz.prog 42 [ptr g 0] s (pl (.int .u8 (rdByte l b).1)) (s.upd g (rdByteB l b)) := by
  refine ac_of_aw s.boxes.length s.fr.length Go.Proofs.Tryz.func42 rfl (by simp [Go.Proofs.Tryz.ntmps42]) ?_
  refine aw_ext0 ?_
  have hlt := (List.getElem?_eq_some_iff.1 hG).1
  refine aw_upd0 hG ?_
  refine aw_keep [(0, _)] ⟨lg ez, trivial⟩ ?_
  refine aw_seq ?_
  refine aw_region (by decide) ?_
  refine rts _ rfl (opD_assign (ev_const _ _)) ?_
  refine .nil ?_
  refine aw_keep [(2, _), (0, _)] ⟨lg lz, lg (ls rfl oz), trivial⟩ ?_
  refine aw_seq ?_
  refine aw_seq ?_
  refine aw_region (by decide) ?_
  refine rts _ rfl (opD_move (os rfl oz)) ?_
  refine rts _ rfl ((by first | exact opD_ptr_eqnil Go.Proofs.Tryz.underlying108 lz | exact opD_nilp_eqnil Go.Proofs.Tryz.underlying108 lz)) ?_
  refine .nil ?_
  refine aw_keep [(5, _), (2, _), (0, _)] ⟨lg lz, lg (ls rfl (ls rfl oz)), lg (ls rfl (ls rfl (os rfl oz))), trivial⟩ ?_
  refine aw_cond _ oz (fun hc => ?_) (fun hc => ?_)
  · skip
    exfalso; revert hc; simp
  · skip
    refine aw_skip ?_
    refine aw_keep [(5, _), (2, _), (0, _)] ⟨lg oz, lg (os rfl oz), lg (os rfl (os rfl oz)), trivial⟩ ?_
    refine aw_seq ?_
    refine aw_seq ?_
    refine aw_region (by decide) ?_
    refine rts _ rfl (opD_move (os rfl (os rfl oz))) ?_
    refine rts _ rfl ((by first | exact opD_nilCheck_ptr lz | exact opD_nilCheck_el lz)) ?_
    refine rts _ rfl ((by first | exact opD_fieldAddr fo171_0 lz | exact opD_fieldAddr_el fo171_0 lz)) ?_
    refine rts _ rfl ((by first | exact opD_loadU ag30 lz hlt rfl | exact opD_load_one ag30 lz (by first | exact loc_get rfl | exact old_get (by assumption)) rfl | exact opD_load_el_one ag30 lz (by first | assumption | simp) rfl)) ?_
    refine rts _ rfl (opD_len_sl Go.Proofs.Tryz.underlying30 lz) ?_
    refine rts _ rfl (opD_eql lz (ev_const _ _)) ?_
    refine .nil ?_
    refine aw_keep [(11, _), (5, _), (2, _), (0, _)] ⟨lg lz, lg (ls rfl (ls rfl (ls rfl (ls rfl (ls rfl (ls rfl oz)))))), lg (ls rfl (ls rfl (ls rfl (ls rfl (ls rfl (ls rfl (os rfl oz))))))), lg (ls rfl (ls rfl (ls rfl (ls rfl (ls rfl (ls rfl (os rfl (os rfl oz)))))))), trivial⟩ ?_
    refine aw_cond _ oz (fun hc => ?_) (fun hc => ?_)
    · skip
      simp only [decide_eq_true_eq] at hc
      obtain rfl : l = [] := List.length_eq_zero_iff.1 (by omega)
      have he : rdByte [] b = (0, [], true) := by simp [rdByte]
      unfold rdByteB; rw [he]
      refine aw_seq ?_
      refine aw_region (by decide) ?_
      refine rts _ rfl (opD_move (os rfl (os rfl (os rfl oz)))) ?_
      refine rts _ rfl (opD_callU ht83 (fun s h => rd_fail h) hlt ⟨le_of_eq lz, trivial⟩) ?_
      refine .nil ?_
      refine aw_keep [(11, _), (5, _), (2, _), (0, _)] ⟨lg (ls rfl (ls rfl oz)), lg (ls rfl (ls rfl (os rfl oz))), lg (ls rfl (ls rfl (os rfl (os rfl oz)))), lg (ls rfl (ls rfl (os rfl (os rfl (os rfl oz))))), trivial⟩ ?_
      refine aw_seq ?_
      refine aw_region (by decide) ?_
      refine rts _ rfl (opD_assign (ev_const _ _)) ?_
      refine .nil ?_
      refine aw_keep [(2, _), (11, _), (5, _), (0, _)] ⟨lg lz, lg (ls rfl oz), lg (ls rfl (os rfl oz)), lg (ls rfl (os rfl (os rfl (os rfl oz)))), trivial⟩ ?_
      refine aw_ret ?_
      exact done_upd (.inr rfl) (res_1 rfl (eg oz)) (by first | exact pl_bnd _ _ _ | exact sl_bnd (kI_bnd _ _ _ _)) (rdB_bnd _ _ _ _)
    · skip
      simp only [decide_eq_false_iff_not] at hc
      obtain ⟨c, t, rfl⟩ : ∃ c t, l = c :: t := by cases l with
          | nil => simp at hc
          | cons c t => exact ⟨c, t, rfl⟩
      have he : rdByte (c :: t) b = (c, t, b) := by simp [rdByte]
      unfold rdByteB; rw [he]
      refine aw_skip ?_
      refine aw_keep [(11, _), (5, _), (2, _), (0, _)] ⟨lg oz, lg (os rfl oz), lg (os rfl (os rfl oz)), lg (os rfl (os rfl (os rfl oz))), trivial⟩ ?_
      refine aw_seq ?_
      refine aw_region (by decide) ?_
      refine rts _ rfl (opD_move (os rfl (os rfl (os rfl oz)))) ?_
      refine rts _ rfl ((by first | exact opD_nilCheck_ptr lz | exact opD_nilCheck_el lz)) ?_
      refine rts _ rfl ((by first | exact opD_fieldAddr fo171_0 lz | exact opD_fieldAddr_el fo171_0 lz)) ?_
      refine rts _ rfl ((by first | exact opD_loadU ag30 lz hlt rfl | exact opD_load_one ag30 lz (by first | exact loc_get rfl | exact old_get (by assumption)) rfl | exact opD_load_el_one ag30 lz (by first | assumption | simp) rfl)) ?_
      refine rts _ rfl (opD_indexAddr_sl Go.Proofs.Tryz.underlying30 sz5 lz (ev_const _ _) (show (0 : Int) = ((0 : Nat) : Int) from rfl) (by simp)) ?_
      refine rts _ rfl (opD_load_el_one ag5 lz (List.getElem?_cons_zero) rfl) ?_
      refine rts _ rfl (opD_assign lz) ?_
      refine .nil ?_
      refine aw_keep [(3, _), (11, _), (5, _), (2, _), (0, _)] ⟨lg lz, lg (ls rfl (ls rfl (ls rfl (ls rfl (ls rfl (ls rfl (ls rfl oz))))))), lg (ls rfl (ls rfl (ls rfl (ls rfl (ls rfl (ls rfl (ls rfl (os rfl oz)))))))), lg (ls rfl (ls rfl (ls rfl (ls rfl (ls rfl (ls rfl (ls rfl (os rfl (os rfl oz))))))))), lg (ls rfl (ls rfl (ls rfl (ls rfl (ls rfl (ls rfl (ls rfl (os rfl (os rfl (os rfl oz)))))))))), trivial⟩ ?_
      refine aw_seq ?_
      refine aw_region (by decide) ?_
      refine rts _ rfl (opD_move (os rfl (os rfl (os rfl (os rfl oz))))) ?_
      refine rts _ rfl (opD_move (ls rfl (os rfl (os rfl (os rfl (os rfl oz)))))) ?_
      refine rts _ rfl ((by first | exact opD_nilCheck_ptr lz | exact opD_nilCheck_el lz)) ?_
      refine rts _ rfl ((by first | exact opD_fieldAddr fo171_0 lz | exact opD_fieldAddr_el fo171_0 lz)) ?_
      refine rts _ rfl ((by first | exact opD_loadU ag30 lz hlt rfl | exact opD_load_one ag30 lz (by first | exact loc_get rfl | exact old_get (by assumption)) rfl | exact opD_load_el_one ag30 lz (by first | assumption | simp) rfl)) ?_
      refine rts _ rfl (opD_slice_from 1 Go.Proofs.Tryz.underlying30 sz5 lz (ev_const _ _) rfl (by simp)) ?_
      refine rts _ rfl ((by first | exact opD_nilCheck_ptr (ls rfl (ls rfl (ls rfl (ls rfl (ls rfl lz))))) | exact opD_nilCheck_el (ls rfl (ls rfl (ls rfl (ls rfl (ls rfl lz))))))) ?_
      refine rts _ rfl ((by first | exact opD_fieldAddr fo171_0 lz | exact opD_fieldAddr_el fo171_0 lz)) ?_
      refine rts _ rfl (opD_storeU (B' := RdB t b) sz30 lz (le_sl (ls rfl (ls rfl lz))) (by first | exact one_pl rfl | exact one_sl _ _ _ _ | exact one_ptr _ _) hlt (Nat.le_of_ble_eq_true rfl) (by first | exact pl_bnd _ _ _ | exact sl_bnd (kI_bnd _ _ _ _) | exact ptr_bnd _ (by omega)) rfl) ?_
      refine .nil ?_
      refine aw_keep [(3, _), (11, _), (5, _), (2, _), (0, _)] ⟨lg (lx (ls rfl (ls rfl (ls rfl (ls rfl (ls rfl (ls rfl (ls rfl (ls rfl oz))))))))), lg (lx (ls rfl (ls rfl (ls rfl (ls rfl (ls rfl (ls rfl (ls rfl (ls rfl (os rfl oz)))))))))), lg (lx (ls rfl (ls rfl (ls rfl (ls rfl (ls rfl (ls rfl (ls rfl (ls rfl (os rfl (os rfl oz))))))))))), lg (lx (ls rfl (ls rfl (ls rfl (ls rfl (ls rfl (ls rfl (ls rfl (ls rfl (os rfl (os rfl (os rfl oz)))))))))))), lg (lx (ls rfl (ls rfl (ls rfl (ls rfl (ls rfl (ls rfl (ls rfl (ls rfl (os rfl (os rfl (os rfl (os rfl oz))))))))))))), trivial⟩ ?_
      refine aw_seq ?_
      refine aw_region (by decide) ?_
      refine rts _ rfl (opD_move oz) ?_
      refine rts _ rfl (opD_assign lz) ?_
      refine .nil ?_
      refine aw_keep [(2, _), (3, _), (11, _), (5, _), (0, _)] ⟨lg lz, lg (ls rfl (ls rfl oz)), lg (ls rfl (ls rfl (os rfl oz))), lg (ls rfl (ls rfl (os rfl (os rfl oz)))), lg (ls rfl (ls rfl (os rfl (os rfl (os rfl (os rfl oz)))))), trivial⟩ ?_
      refine aw_ret ?_
      exact done_upd (.inr rfl) (res_1 rfl (eg oz)) (by first | exact pl_bnd _ _ _ | exact sl_bnd (kI_bnd _ _ _ _)) (rdB_bnd _ _ _ _)


def rdDone (b : Bool) (l : List Int) : Option Int := if b = true ∨ l ≠ [] then some 3 else none
theorem rdDone_some {b : Bool} {l : List Int} (h : b = true ∨ (0 : Int) < (l.length : Int)) : rdDone b l = some 3 := by
  rw [rdDone, if_pos]; rcases h with h | h
  · exact .inl h
  · right; intro h2; subst h2; simp at h
theorem rdDone_none {b : Bool} {l : List Int} (h : b = false ∧ ¬ (0 : Int) < (l.length : Int)) : rdDone b l = none := by
  rw [rdDone, if_neg]; rintro (h2 | h2)
  · rw [h.1] at h2; cases h2
  · exact h2 (List.length_eq_zero_iff.1 (by omega))

set_option maxRecDepth 100000 in
set_option maxHeartbeats 1000000 in
theorem rd_done {s : St} {g : Nat} {l : List Int} {b : Bool} (hG : s.boxes[g]? = some (RdB l b)) : AC Go.Proofs.Tryz.prog 44 [ptr g 0] s (pl (errV (rdDone b l))) s := by
  refine ac_of_aw s.boxes.length s.fr.length Go.Proofs.Tryz.func44 rfl (by simp [Go.Proofs.Tryz.ntmps44]) ?_
  refine aw_ext0 ?_
  have hlt := (List.getElem?_eq_some_iff.1 hG).1
  refine aw_upd0 hG ?_
  refine aw_keep [(0, _)] ⟨lg ez, trivial⟩ ?_
  refine aw_seq ?_
  refine aw_region (by decide) ?_
  refine rts _ rfl (opD_assign (ev_const _ _)) ?_
  refine .nil ?_
  refine aw_keep [(2, _), (0, _)] ⟨lg lz, lg (ls rfl oz), trivial⟩ ?_
  refine aw_seq ?_
  refine aw_seq ?_
  refine aw_region (by decide) ?_
  refine rts _ rfl (opD_move (os rfl oz)) ?_
  refine rts _ rfl ((by first | exact opD_ptr_eqnil Go.Proofs.Tryz.underlying108 lz | exact opD_nilp_eqnil Go.Proofs.Tryz.underlying108 lz)) ?_
  refine rts _ rfl (opD_move lz) ?_
  refine rtg _ rfl lz (fun hg1_3 => by
      have hg1_3' := hg1_3
      try simp only [beq_iff_eq, decide_eq_true_eq, decide_eq_false_iff_not, Bool.and_eq_true, Bool.or_eq_true, Bool.or_eq_false_iff, Bool.and_eq_false_iff] at hg1_3'
      exact opD_move (ls rfl (ls rfl (ls rfl (os rfl oz))))) ?_
  refine rtg _ rfl (ls rfl lz) (fun hg1_4 => by
      have hg1_4' := hg1_4
      try simp only [beq_iff_eq, decide_eq_true_eq, decide_eq_false_iff_not, Bool.and_eq_true, Bool.or_eq_true, Bool.or_eq_false_iff, Bool.and_eq_false_iff] at hg1_4'
      exact (by first | exact opD_nilCheck_ptr (lz.trans (pif_pos hg1_4)) | exact opD_nilCheck_el (lz.trans (pif_pos hg1_4)))) ?_
  refine rtg _ rfl (ls rfl (ls rfl lz)) (fun hg1_5 => by
      have hg1_5' := hg1_5
      try simp only [beq_iff_eq, decide_eq_true_eq, decide_eq_false_iff_not, Bool.and_eq_true, Bool.or_eq_true, Bool.or_eq_false_iff, Bool.and_eq_false_iff] at hg1_5'
      exact (by first | exact opD_fieldAddr fo171_1 (lz.trans (pif_pos hg1_5)) | exact opD_fieldAddr_el fo171_1 (lz.trans (pif_pos hg1_5)))) ?_
  refine rtg _ rfl (ls rfl (ls rfl (ls rfl lz))) (fun hg1_6 => by
      have hg1_6' := hg1_6
      try simp only [beq_iff_eq, decide_eq_true_eq, decide_eq_false_iff_not, Bool.and_eq_true, Bool.or_eq_true, Bool.or_eq_false_iff, Bool.and_eq_false_iff] at hg1_6'
      exact (by first | exact opD_loadU ag4 (lz.trans (pif_pos hg1_6)) hlt rfl | exact opD_load_one ag4 (lz.trans (pif_pos hg1_6)) (by first | exact loc_get rfl | exact old_get (by assumption) | exact hB) rfl | exact opD_load_el_one ag4 (lz.trans (pif_pos hg1_6)) (by first | assumption | simp) rfl)) ?_
  refine rts _ rfl (opD_or (ls rfl (ls rfl (ls rfl (ls rfl lz)))) lz) ?_
  refine rts _ rfl (opD_move lz) ?_
  refine rtg _ rfl lz (fun hg1_9 => by
      have hg1_9' := hg1_9
      try simp only [beq_iff_eq, decide_eq_true_eq, decide_eq_false_iff_not, Bool.and_eq_true, Bool.or_eq_true, Bool.or_eq_false_iff, Bool.and_eq_false_iff] at hg1_9'
      exact opD_move (ls rfl (ls rfl (ls rfl (ls rfl (ls rfl (ls rfl (ls rfl (ls rfl (ls rfl (os rfl oz))))))))))) ?_
  refine rtg _ rfl (ls rfl lz) (fun hg1_10 => by
      have hg1_10' := hg1_10
      try simp only [beq_iff_eq, decide_eq_true_eq, decide_eq_false_iff_not, Bool.and_eq_true, Bool.or_eq_true, Bool.or_eq_false_iff, Bool.and_eq_false_iff] at hg1_10'
      exact (by first | exact opD_nilCheck_ptr (lz.trans (pif_pos hg1_10)) | exact opD_nilCheck_el (lz.trans (pif_pos hg1_10)))) ?_
  refine rtg _ rfl (ls rfl (ls rfl lz)) (fun hg1_11 => by
      have hg1_11' := hg1_11
      try simp only [beq_iff_eq, decide_eq_true_eq, decide_eq_false_iff_not, Bool.and_eq_true, Bool.or_eq_true, Bool.or_eq_false_iff, Bool.and_eq_false_iff] at hg1_11'
      exact (by first | exact opD_fieldAddr fo171_0 (lz.trans (pif_pos hg1_11)) | exact opD_fieldAddr_el fo171_0 (lz.trans (pif_pos hg1_11)))) ?_
  refine rtg _ rfl (ls rfl (ls rfl (ls rfl lz))) (fun hg1_12 => by
      have hg1_12' := hg1_12
      try simp only [beq_iff_eq, decide_eq_true_eq, decide_eq_false_iff_not, Bool.and_eq_true, Bool.or_eq_true, Bool.or_eq_false_iff, Bool.and_eq_false_iff] at hg1_12'
      exact (by first | exact opD_loadU ag30 (lz.trans (pif_pos hg1_12)) hlt rfl | exact opD_load_one ag30 (lz.trans (pif_pos hg1_12)) (by first | exact loc_get rfl | exact old_get (by assumption) | exact hB) rfl | exact opD_load_el_one ag30 (lz.trans (pif_pos hg1_12)) (by first | assumption | simp) rfl)) ?_
  refine rtg _ rfl (ls rfl (ls rfl (ls rfl (ls rfl lz)))) (fun hg1_13 => by
      have hg1_13' := hg1_13
      try simp only [beq_iff_eq, decide_eq_true_eq, decide_eq_false_iff_not, Bool.and_eq_true, Bool.or_eq_true, Bool.or_eq_false_iff, Bool.and_eq_false_iff] at hg1_13'
      exact opD_len_sl Go.Proofs.Tryz.underlying30 (lz.trans (pif_pos hg1_13))) ?_
  refine rtg _ rfl (ls rfl (ls rfl (ls rfl (ls rfl (ls rfl lz))))) (fun hg1_14 => by
      have hg1_14' := hg1_14
      try simp only [beq_iff_eq, decide_eq_true_eq, decide_eq_false_iff_not, Bool.and_eq_true, Bool.or_eq_true, Bool.or_eq_false_iff, Bool.and_eq_false_iff] at hg1_14'
      exact opD_gtr (lz.trans (pif_pos hg1_14)) (ev_const _ _)) ?_
  refine rts _ rfl (opD_or (ls rfl (ls rfl (ls rfl (ls rfl (ls rfl (ls rfl lz)))))) lz) ?_
  refine .nil ?_
  refine aw_keep [(18, _), (2, _), (0, _)] ⟨lg lz, lg (ls rfl (ls rfl (ls rfl (ls rfl (ls rfl (ls rfl (ls rfl (ls rfl (ls rfl (ls rfl (ls rfl (ls rfl (ls rfl (ls rfl (ls rfl (ls rfl oz)))))))))))))))), lg (ls rfl (ls rfl (ls rfl (ls rfl (ls rfl (ls rfl (ls rfl (ls rfl (ls rfl (ls rfl (ls rfl (ls rfl (ls rfl (ls rfl (ls rfl (ls rfl (os rfl oz))))))))))))))))), trivial⟩ ?_
  refine aw_cond _ oz (fun hc => ?_) (fun hc => ?_)
  · skip
    simp only [Bool.false_or, Bool.or_eq_true, decide_eq_true_eq] at hc
    rw [rdDone_some hc]
    refine aw_seq ?_
    refine aw_region (by decide) ?_
    refine rts _ rfl ((by first | exact opD_makeInterface_pl cc107 (ev_const _ _) | exact opD_makeInterface cc107 (ev_const _ _))) ?_
    refine rts _ rfl (opD_assign lz) ?_
    refine .nil ?_
    refine aw_keep [(2, _), (18, _), (0, _)] ⟨lg lz, lg (ls rfl (ls rfl oz)), lg (ls rfl (ls rfl (os rfl (os rfl oz)))), trivial⟩ ?_
    refine aw_ret ?_
    exact done_updS hG (.inr rfl) (res_1 rfl (eg oz)) (pl_bnd _ _ _)
  · skip
    simp only [Bool.false_or, Bool.or_eq_false_iff, decide_eq_false_iff_not] at hc
    rw [rdDone_none hc]
    refine aw_skip ?_
    refine aw_keep [(18, _), (2, _), (0, _)] ⟨lg oz, lg (os rfl oz), lg (os rfl (os rfl oz)), trivial⟩ ?_
    refine aw_seq ?_
    refine aw_region (by decide) ?_
    refine rts _ rfl (opD_assign (ev_const _ _)) ?_
    refine .nil ?_
    refine aw_keep [(2, _), (18, _), (0, _)] ⟨lg lz, lg (ls rfl oz), lg (ls rfl (os rfl (os rfl oz))), trivial⟩ ?_
    refine aw_ret ?_
    exact done_updS hG (.inr rfl) (res_1 rfl (eg oz)) (pl_bnd _ _ _)

set_option maxRecDepth 100000 in
set_option maxHeartbeats 1000000 in
theorem rd_bytesI {s : St} {g : Nat} {l : List Int} {b : Bool} (hG : s.boxes[g]? = some (RdB l b)) {k : Int} (hb : Bts l) (hl : l.length ≤ 140737488355328) (hm : -9223372036854775808 ≤ k ∧ k < 9223372036854775808) : AC Go.Proofs.Tryz.prog 43 [ptr g 0, pl (.int .i64 k)] s (sl (kI .u8) none none (rdBytes k.toNat l b).1) (s.upd g (rdBytesB k.toNat l b)) := by
  have hnl := rdNum_le k.toNat l b
  refine ac_of_aw s.boxes.length s.fr.length Go.Proofs.Tryz.func43 rfl (by simp [Go.Proofs.Tryz.ntmps43]) ?_
  refine aw_ext0 ?_
  have hlt := (List.getElem?_eq_some_iff.1 hG).1
  refine aw_upd0 hG ?_
  refine aw_keep [(0, _), (1, _)] ⟨lg ez, lg (es ez), trivial⟩ ?_
  refine aw_seq ?_
  refine aw_region (by decide) ?_
  refine rts _ rfl (opD_assign (ev_const _ _)) ?_
  refine .nil ?_
  refine aw_keep [(4, _), (0, _), (1, _)] ⟨lg lz, lg (ls rfl oz), lg (ls rfl (os rfl oz)), trivial⟩ ?_
  refine aw_seq ?_
  refine aw_region (by decide) ?_
  refine rts _ rfl (opD_move (os rfl oz)) ?_
  refine rts _ rfl (opD_move (ls rfl (os rfl (os rfl oz)))) ?_
  refine rts _ rfl (opD_max (r := (k.toNat : Int)) (ev_const _ _) lz (by split <;> omega)) ?_
  refine rts _ rfl (opD_conv_int Go.Proofs.Tryz.underlying3 Go.Proofs.Tryz.underlying22 lz (by first | exact IntWalk.u64_in _ (by omega) | exact rfl)) ?_
  refine rts _ rfl (opD_callU ht41 (fun s h => rd_num h hb (by omega) (by omega)) hlt ⟨le_of_eq (ls rfl (ls rfl (ls rfl lz))), le_of_eq lz, trivial⟩) ?_
  refine rts _ rfl (opD_conv_int Go.Proofs.Tryz.underlying22 Go.Proofs.Tryz.underlying3 lz (by first | exact IntWalk.i64_in _ (by omega) | exact rfl)) ?_
  refine rts _ rfl (opD_assign lz) ?_
  refine .nil ?_
  refine aw_keep [(5, _), (4, _), (0, _), (1, _)] ⟨lg lz, lg (ls rfl (ls rfl (ls rfl (ls rfl (ls rfl (ls rfl (ls rfl oz))))))), lg (ls rfl (ls rfl (ls rfl (ls rfl (ls rfl (ls rfl (ls rfl (os rfl oz)))))))), lg (ls rfl (ls rfl (ls rfl (ls rfl (ls rfl (ls rfl (ls rfl (os rfl (os rfl oz))))))))), trivial⟩ ?_
  refine aw_seq ?_
  refine aw_seq ?_
  refine aw_region (by decide) ?_
  refine rts _ rfl (opD_move (os rfl (os rfl oz))) ?_
  refine rts _ rfl ((by first | exact opD_ptr_eqnil Go.Proofs.Tryz.underlying108 lz | exact opD_nilp_eqnil Go.Proofs.Tryz.underlying108 lz)) ?_
  refine .nil ?_
  refine aw_keep [(14, _), (5, _), (4, _), (0, _), (1, _)] ⟨lg lz, lg (ls rfl (ls rfl oz)), lg (ls rfl (ls rfl (os rfl oz))), lg (ls rfl (ls rfl (os rfl (os rfl oz)))), lg (ls rfl (ls rfl (os rfl (os rfl (os rfl oz))))), trivial⟩ ?_
  refine aw_cond _ oz (fun hc => ?_) (fun hc => ?_)
  · skip
    exfalso; revert hc; simp
  · skip
    refine aw_skip ?_
    refine aw_keep [(14, _), (5, _), (4, _), (0, _), (1, _)] ⟨lg oz, lg (os rfl oz), lg (os rfl (os rfl oz)), lg (os rfl (os rfl (os rfl oz))), lg (os rfl (os rfl (os rfl (os rfl oz)))), trivial⟩ ?_
    refine aw_seq ?_
    refine aw_seq ?_
    refine aw_region (by decide) ?_
    refine rts _ rfl (opD_move (os rfl oz)) ?_
    refine rts _ rfl (opD_move (ls rfl (os rfl (os rfl (os rfl oz))))) ?_
    refine rts _ rfl ((by first | exact opD_nilCheck_ptr lz | exact opD_nilCheck_el lz)) ?_
    refine rts _ rfl ((by first | exact opD_fieldAddr fo171_0 lz | exact opD_fieldAddr_el fo171_0 lz)) ?_
    refine rts _ rfl ((by first | exact opD_loadU ag30 lz hlt rfl | exact opD_load_one ag30 lz (by first | exact loc_get rfl | exact old_get (by assumption)) rfl | exact opD_load_el_one ag30 lz (by first | assumption | simp) rfl)) ?_
    refine rts _ rfl (opD_len_sl Go.Proofs.Tryz.underlying30 lz) ?_
    refine rts _ rfl (opD_gtr (ls rfl (ls rfl (ls rfl (ls rfl (ls rfl lz))))) lz) ?_
    refine .nil ?_
    refine aw_keep [(21, _), (14, _), (5, _), (4, _), (0, _), (1, _)] ⟨lg lz, lg (ls rfl (ls rfl (ls rfl (ls rfl (ls rfl (ls rfl (ls rfl oz))))))), lg (ls rfl (ls rfl (ls rfl (ls rfl (ls rfl (ls rfl (ls rfl (os rfl oz)))))))), lg (ls rfl (ls rfl (ls rfl (ls rfl (ls rfl (ls rfl (ls rfl (os rfl (os rfl oz))))))))), lg (ls rfl (ls rfl (ls rfl (ls rfl (ls rfl (ls rfl (ls rfl (os rfl (os rfl (os rfl oz)))))))))), lg (ls rfl (ls rfl (ls rfl (ls rfl (ls rfl (ls rfl (ls rfl (os rfl (os rfl (os rfl (os rfl oz))))))))))), trivial⟩ ?_
    refine aw_cond _ oz (fun hc => ?_) (fun hc => ?_)
    · skip
      simp only [decide_eq_true_eq] at hc
      have he := rdBytes_bad (b := b) hc
      unfold rdBytesB; rw [he]
      refine aw_seq ?_
      refine aw_region (by decide) ?_
      refine rts _ rfl (opD_move (os rfl (os rfl (os rfl (os rfl oz))))) ?_
      refine rts _ rfl (opD_callU ht83 (fun s h => rd_fail h) hlt ⟨le_of_eq lz, trivial⟩) ?_
      refine .nil ?_
      refine aw_keep [(21, _), (14, _), (5, _), (4, _), (0, _), (1, _)] ⟨lg (ls rfl (ls rfl oz)), lg (ls rfl (ls rfl (os rfl oz))), lg (ls rfl (ls rfl (os rfl (os rfl oz)))), lg (ls rfl (ls rfl (os rfl (os rfl (os rfl oz))))), lg (ls rfl (ls rfl (os rfl (os rfl (os rfl (os rfl oz)))))), lg (ls rfl (ls rfl (os rfl (os rfl (os rfl (os rfl (os rfl oz))))))), trivial⟩ ?_
      refine aw_seq ?_
      refine aw_region (by decide) ?_
      refine rts _ rfl (opD_assign (ev_const _ _)) ?_
      refine .nil ?_
      refine aw_keep [(4, _), (21, _), (14, _), (5, _), (0, _), (1, _)] ⟨lg lz, lg (ls rfl oz), lg (ls rfl (os rfl oz)), lg (ls rfl (os rfl (os rfl oz))), lg (ls rfl (os rfl (os rfl (os rfl (os rfl oz))))), lg (ls rfl (os rfl (os rfl (os rfl (os rfl (os rfl oz)))))), trivial⟩ ?_
      refine aw_ret ?_
      exact done_upd (.inr rfl) ((res_1 rfl (eg oz)).le (by first | exact le_nil rfl | exact le_sl rfl)) (sl_bnd (kI_bnd _ _ _ _)) (rdB_bnd _ _ _ _)
    · skip
      simp only [decide_eq_false_iff_not] at hc
      obtain ⟨he, hle⟩ := rdBytes_good (b := b) hc
      unfold rdBytesB; rw [he]
      refine aw_skip ?_
      refine aw_keep [(21, _), (14, _), (5, _), (4, _), (0, _), (1, _)] ⟨lg oz, lg (os rfl oz), lg (os rfl (os rfl oz)), lg (os rfl (os rfl (os rfl oz))), lg (os rfl (os rfl (os rfl (os rfl oz)))), lg (os rfl (os rfl (os rfl (os rfl (os rfl oz))))), trivial⟩ ?_
      refine aw_seq ?_
      refine aw_region (by decide) ?_
      refine rts _ rfl (opD_move (os rfl (os rfl (os rfl (os rfl oz))))) ?_
      refine rts _ rfl ((by first | exact opD_nilCheck_ptr lz | exact opD_nilCheck_el lz)) ?_
      refine rts _ rfl ((by first | exact opD_fieldAddr fo171_0 lz | exact opD_fieldAddr_el fo171_0 lz)) ?_
      refine rts _ rfl ((by first | exact opD_loadU ag30 lz hlt rfl | exact opD_load_one ag30 lz (by first | exact loc_get rfl | exact old_get (by assumption)) rfl | exact opD_load_el_one ag30 lz (by first | assumption | simp) rfl)) ?_
      refine rts _ rfl (opD_move (ls rfl (ls rfl (ls rfl (ls rfl (os rfl (os rfl oz))))))) ?_
      refine rts _ rfl (opD_slice_to _ Go.Proofs.Tryz.underlying30 sz5 (ls rfl lz) lz (by first | rfl | simp | omega) (by first | assumption | omega)) ?_
      refine rts _ rfl (opD_own1 ht81 (clone_b (by simp only [List.length_take]; omega) (by simp only [List.length_take]; omega)) ⟨le_sl lz, trivial⟩ (by first | exact List.length_nil | (simp only [List.length_cons, List.length_nil, Nat.zero_add, Nat.reduceAdd]; rfl)) (by simp only [List.nil_append, List.cons_append, List.map_cons, List.map_nil, List.set_cons_zero, List.set_cons_succ, List.take_succ_cons, List.take_zero, List.drop_succ_cons, List.drop_zero]; rfl)) ?_
      refine rts _ rfl (opD_assign lz) ?_
      refine .nil ?_
      refine aw_keep [(6, _), (21, _), (14, _), (5, _), (4, _), (0, _), (1, _)] ⟨lg lz, lg (ls rfl (ls rfl (ls rfl (ls rfl (ls rfl (ls rfl (ls rfl (ls rfl oz)))))))), lg (ls rfl (ls rfl (ls rfl (ls rfl (ls rfl (ls rfl (ls rfl (ls rfl (os rfl oz))))))))), lg (ls rfl (ls rfl (ls rfl (ls rfl (ls rfl (ls rfl (ls rfl (ls rfl (os rfl (os rfl oz)))))))))), lg (ls rfl (ls rfl (ls rfl (ls rfl (ls rfl (ls rfl (ls rfl (ls rfl (os rfl (os rfl (os rfl oz))))))))))), lg (ls rfl (ls rfl (ls rfl (ls rfl (ls rfl (ls rfl (ls rfl (ls rfl (os rfl (os rfl (os rfl (os rfl oz)))))))))))), lg (ls rfl (ls rfl (ls rfl (ls rfl (ls rfl (ls rfl (ls rfl (ls rfl (os rfl (os rfl (os rfl (os rfl (os rfl oz))))))))))))), trivial⟩ ?_
      refine aw_seq ?_
      refine aw_region (by decide) ?_
      refine rts _ rfl (opD_move (os rfl (os rfl (os rfl (os rfl (os rfl oz)))))) ?_
      refine rts _ rfl (opD_move (ls rfl (os rfl (os rfl (os rfl (os rfl (os rfl oz))))))) ?_
      refine rts _ rfl ((by first | exact opD_nilCheck_ptr lz | exact opD_nilCheck_el lz)) ?_
      refine rts _ rfl ((by first | exact opD_fieldAddr fo171_0 lz | exact opD_fieldAddr_el fo171_0 lz)) ?_
      refine rts _ rfl ((by first | exact opD_loadU ag30 lz hlt rfl | exact opD_load_one ag30 lz (by first | exact loc_get rfl | exact old_get (by assumption)) rfl | exact opD_load_el_one ag30 lz (by first | assumption | simp) rfl)) ?_
      refine rts _ rfl (opD_move (ls rfl (ls rfl (ls rfl (ls rfl (ls rfl (os rfl (os rfl (os rfl oz))))))))) ?_
      refine rts _ rfl (opD_slice_from _ Go.Proofs.Tryz.underlying30 sz5 (ls rfl lz) lz (by first | rfl | simp | omega) (by first | assumption | omega)) ?_
      refine rts _ rfl ((by first | exact opD_nilCheck_ptr (ls rfl (ls rfl (ls rfl (ls rfl (ls rfl (ls rfl lz)))))) | exact opD_nilCheck_el (ls rfl (ls rfl (ls rfl (ls rfl (ls rfl (ls rfl lz)))))))) ?_
      refine rts _ rfl ((by first | exact opD_fieldAddr fo171_0 lz | exact opD_fieldAddr_el fo171_0 lz)) ?_
      refine rts _ rfl (opD_storeU (B' := RdB ((rdNum k.toNat l b).2.1.drop (rdNum k.toNat l b).1) (rdNum k.toNat l b).2.2) sz30 lz (le_sl (ls rfl (ls rfl lz))) (by first | exact one_pl rfl | exact one_sl _ _ _ _ | exact one_ptr _ _) hlt (Nat.le_of_ble_eq_true rfl) (by first | exact pl_bnd _ _ _ | exact sl_bnd (kI_bnd _ _ _ _) | exact ptr_bnd _ (by omega)) rfl) ?_
      refine .nil ?_
      refine aw_keep [(6, _), (21, _), (14, _), (5, _), (4, _), (0, _), (1, _)] ⟨lg (lx (ls rfl (ls rfl (ls rfl (ls rfl (ls rfl (ls rfl (ls rfl (ls rfl (ls rfl oz)))))))))), lg (lx (ls rfl (ls rfl (ls rfl (ls rfl (ls rfl (ls rfl (ls rfl (ls rfl (ls rfl (os rfl oz))))))))))), lg (lx (ls rfl (ls rfl (ls rfl (ls rfl (ls rfl (ls rfl (ls rfl (ls rfl (ls rfl (os rfl (os rfl oz)))))))))))), lg (lx (ls rfl (ls rfl (ls rfl (ls rfl (ls rfl (ls rfl (ls rfl (ls rfl (ls rfl (os rfl (os rfl (os rfl oz))))))))))))), lg (lx (ls rfl (ls rfl (ls rfl (ls rfl (ls rfl (ls rfl (ls rfl (ls rfl (ls rfl (os rfl (os rfl (os rfl (os rfl oz)))))))))))))), lg (lx (ls rfl (ls rfl (ls rfl (ls rfl (ls rfl (ls rfl (ls rfl (ls rfl (ls rfl (os rfl (os rfl (os rfl (os rfl (os rfl oz))))))))))))))), lg (lx (ls rfl (ls rfl (ls rfl (ls rfl (ls rfl (ls rfl (ls rfl (ls rfl (ls rfl (os rfl (os rfl (os rfl (os rfl (os rfl (os rfl oz)))))))))))))))), trivial⟩ ?_
      refine aw_seq ?_
      refine aw_region (by decide) ?_
      refine rts _ rfl (opD_move oz) ?_
      refine rts _ rfl (opD_assign lz) ?_
      refine .nil ?_
      refine aw_keep [(4, _), (6, _), (21, _), (14, _), (5, _), (0, _), (1, _)] ⟨lg lz, lg (ls rfl (ls rfl oz)), lg (ls rfl (ls rfl (os rfl oz))), lg (ls rfl (ls rfl (os rfl (os rfl oz)))), lg (ls rfl (ls rfl (os rfl (os rfl (os rfl oz))))), lg (ls rfl (ls rfl (os rfl (os rfl (os rfl (os rfl (os rfl oz))))))), lg (ls rfl (ls rfl (os rfl (os rfl (os rfl (os rfl (os rfl (os rfl oz)))))))), trivial⟩ ?_
      refine aw_ret ?_
      exact done_upd (.inr rfl) ((res_1 rfl (eg oz)).le (by first | exact le_nil rfl | exact le_sl rfl)) (sl_bnd (kI_bnd _ _ _ _)) (rdB_bnd _ _ _ _)

end Go.Proofs.YtokcgacehdgkcaaGreatDoor.Eng.Rd


namespace Go.Proofs.YtokcgacehdgkcaaGreatDoor.Eng.Pb
set_option linter.unusedVariables false
set_option linter.unusedSimpArgs false
open Go.RowKit Go.Proofs.YtokcgacehdgkcaaGreatDoor.Plain Go.Proofs.YtokcgacehdgkcaaGreatDoor.Eng

theorem ht81 : hasText Go.Proofs.Tryz.prog 81 = true := by kernel_rfl
theorem sz5 : sizeT Go.Proofs.Tryz.prog 5 = some 1 := by kernel_rfl
theorem zt5 : zeroT Go.Proofs.Tryz.prog 5 = some [.int .u8 0] := by kernel_rfl
theorem el5 : elT Go.Proofs.Tryz.prog 5 = some (1, 1) := by kernel_rfl
theorem ht80 : hasText Go.Proofs.Tryz.prog 80 = true := by kernel_rfl
theorem pt171 : placesT Go.Proofs.Tryz.prog 171 2 = some [(0, 1), (1, 1)] := by kernel_rfl
theorem zt171 : zeroT Go.Proofs.Tryz.prog 171 = some [.slice none 0 0, .bool false] := by kernel_rfl
theorem ht41 : hasText Go.Proofs.Tryz.prog 41 = true := by kernel_rfl
theorem cc107 : Go.Proofs.Tryz.prog.concrete 107 = true := by kernel_rfl

open Go.Proofs.YtokcgacehdgkcaaGreatDoor.Eng.Pk Go.Proofs.YtokcgacehdgkcaaGreatDoor.Eng.Rd

set_option maxRecDepth 100000 in
set_option maxHeartbeats 1000000 in
theorem pk_byte {l : List Int} {c : Int} (hl : l.length + 10 ≤ 140737488355328) : Own1 Go.Proofs.Tryz.prog 35 [sl (kI .u8) none none l, pl (.int .u8 c)] (kI .u8) 5 none (l ++ [c]) := by
  intro s
  refine ac_of_aw s.boxes.length (s.fr.length + 1) Go.Proofs.Tryz.func35 rfl (by simp [Go.Proofs.Tryz.ntmps35]) ?_
  refine aw_ext0 ?_
  refine aw_keep [(0, _), (1, _)] ⟨lg ez, lg (es ez), trivial⟩ ?_
  refine aw_seq ?_
  refine aw_region (by decide) ?_
  refine rts _ rfl (opD_assign (ev_const _ _)) ?_
  refine .nil ?_
  refine aw_keep [(4, _), (0, _), (1, _)] ⟨lg lz, lg (ls rfl oz), lg (ls rfl (os rfl oz)), trivial⟩ ?_
  refine aw_seq ?_
  refine aw_region (by decide) ?_
  refine rts _ rfl (opD_move (os rfl oz)) ?_
  refine rts _ rfl (opD_own1 ht81 (clone_b (by omega) (by omega)) ⟨le_sl lz, trivial⟩ (by first | exact List.length_nil | (simp only [List.length_cons, List.length_nil, Nat.zero_add, Nat.reduceAdd]; rfl)) (by simp only [List.nil_append, List.cons_append, List.map_cons, List.map_nil, List.set_cons_zero, List.set_cons_succ, List.take_succ_cons, List.take_zero, List.drop_succ_cons, List.drop_zero]; rfl)) ?_
  refine rts _ rfl (opD_move (ls rfl (ls rfl (os rfl (os rfl oz))))) ?_
  refine rts _ rfl (opD_buildSlice (k := kI .u8) [_] Go.Proofs.Tryz.underlying30 sz5 zt5 (by decide) rfl (parts_cons (cells1 lz (by first | exact one_pl rfl | exact one_sl _ _ _ _ | exact one_ptr _ _ | exact one_ifc _ _)) parts_nil) rfl rfl) ?_
  refine rts _ rfl ((by first | exact opD_appendX Go.Proofs.Tryz.underlying30 el5 (ls rfl (ls rfl lz)) lz rfl (by first | omega | (simp only [List.length_cons, List.length_nil, List.length_append]; omega)) (by first | omega | (simp only [List.length_cons, List.length_nil, List.length_append]; omega)) (by first | (with_reducible exact List.nil_append _) | exact rfl) (by simp only [List.nil_append, List.cons_append, List.map_cons, List.map_nil, List.set_cons_zero, List.set_cons_succ, List.take_succ_cons, List.take_zero, List.drop_succ_cons, List.drop_zero]; rfl) | exact opD_appendN (k := kI .u8) Go.Proofs.Tryz.underlying30 el5 (ls rfl (ls rfl lz)) lz (by first | omega | (simp only [List.length_cons, List.length_nil, List.length_append]; omega)) (by first | omega | (simp only [List.length_cons, List.length_nil, List.length_append]; omega)) (by first | exact List.length_nil | (simp only [List.length_cons, List.length_nil, Nat.zero_add, Nat.reduceAdd]; rfl)) (by simp only [List.nil_append, List.cons_append, List.map_cons, List.map_nil, List.set_cons_zero, List.set_cons_succ, List.take_succ_cons, List.take_zero, List.drop_succ_cons, List.drop_zero]; rfl))) ?_
  refine rts _ rfl (opD_assign lz) ?_
  refine .nil ?_
  refine aw_keep [(4, _), (0, _), (1, _)] ⟨lg lz, lg (ls rfl (ls rfl (ls rfl (ls rfl (ls rfl (ls rfl (os rfl oz))))))), lg (ls rfl (ls rfl (ls rfl (ls rfl (ls rfl (ls rfl (os rfl (os rfl oz)))))))), trivial⟩ ?_
  refine aw_ret ?_
  exact done_own (.inr rfl) (res_1 rfl (eg oz)) rfl (kI_bnd _ _ _ _)

set_option maxRecDepth 100000 in
set_option maxHeartbeats 1000000 in
theorem pk_num {l : List Int} {n : Nat} (hl : l.length + 10 ≤ 140737488355328) (hn : n < 18446744073709551616) : Own1 Go.Proofs.Tryz.prog 34 [sl (kI .u8) none none l, pl (.int .u64 (n : Int))] (kI .u8) 5 none (l ++ vb n) := by
  intro s
  refine ac_of_aw s.boxes.length (s.fr.length + 1) Go.Proofs.Tryz.func34 rfl (by simp [Go.Proofs.Tryz.ntmps34]) ?_
  refine aw_ext0 ?_
  refine aw_keep [(0, _), (1, _)] ⟨lg ez, lg (es ez), trivial⟩ ?_
  refine aw_seq ?_
  refine aw_region (by decide) ?_
  refine rts _ rfl (opD_assign (ev_const _ _)) ?_
  refine .nil ?_
  refine aw_keep [(4, _), (0, _), (1, _)] ⟨lg lz, lg (ls rfl oz), lg (ls rfl (os rfl oz)), trivial⟩ ?_
  refine aw_seq ?_
  refine aw_region (by decide) ?_
  refine rts _ rfl (opD_move (os rfl oz)) ?_
  refine rts _ rfl (opD_move (ls rfl (os rfl (os rfl oz)))) ?_
  refine rts _ rfl (opD_own1 ht80 (put hl hn) ⟨le_sl (ls rfl lz), le_of_eq lz, trivial⟩ (by first | exact List.length_nil | (simp only [List.length_cons, List.length_nil, Nat.zero_add, Nat.reduceAdd]; rfl)) (by simp only [List.nil_append, List.cons_append, List.map_cons, List.map_nil, List.set_cons_zero, List.set_cons_succ, List.take_succ_cons, List.take_zero, List.drop_succ_cons, List.drop_zero]; rfl)) ?_
  refine rts _ rfl (opD_assign lz) ?_
  refine .nil ?_
  refine aw_keep [(4, _), (0, _), (1, _)] ⟨lg lz, lg (ls rfl (ls rfl (ls rfl (ls rfl (os rfl oz))))), lg (ls rfl (ls rfl (ls rfl (ls rfl (os rfl (os rfl oz)))))), trivial⟩ ?_
  refine aw_ret ?_
  exact done_own (.inr rfl) (res_1 rfl (eg oz)) rfl (kI_bnd _ _ _ _)

set_option maxRecDepth 100000 in
set_option maxHeartbeats 1000000 in
theorem pk_bytes {l m : List Int} (hl : l.length + m.length + 10 ≤ 140737488355328) : Own1 Go.Proofs.Tryz.prog 36 [sl (kI .u8) none none l, sl (kI .u8) none none m] (kI .u8) 5 none (l ++ (vb m.length ++ m)) := by
  intro s
  have hv := vb_len10 (n := m.length) (by omega)
  refine ac_of_aw s.boxes.length (s.fr.length + 1) Go.Proofs.Tryz.func36 rfl (by simp [Go.Proofs.Tryz.ntmps36]) ?_
  refine aw_ext0 ?_
  refine aw_keep [(0, _), (1, _)] ⟨lg ez, lg (es ez), trivial⟩ ?_
  refine aw_seq ?_
  refine aw_region (by decide) ?_
  refine rts _ rfl (opD_assign (ev_const _ _)) ?_
  refine .nil ?_
  refine aw_keep [(4, _), (0, _), (1, _)] ⟨lg lz, lg (ls rfl oz), lg (ls rfl (os rfl oz)), trivial⟩ ?_
  refine aw_seq ?_
  refine aw_region (by decide) ?_
  refine rts _ rfl (opD_move (os rfl oz)) ?_
  refine rts _ rfl (opD_move (ls rfl (os rfl (os rfl oz)))) ?_
  refine rts _ rfl (opD_len_sl Go.Proofs.Tryz.underlying30 lz) ?_
  refine rts _ rfl (opD_conv_int Go.Proofs.Tryz.underlying3 Go.Proofs.Tryz.underlying22 lz (by first | exact IntWalk.u64_in _ (by omega) | exact rfl)) ?_
  refine rts _ rfl (opD_own1 ht80 (put (n0 := m.length) (by omega) (by omega)) ⟨le_sl (ls rfl (ls rfl (ls rfl lz))), le_of_eq lz, trivial⟩ (by first | exact List.length_nil | (simp only [List.length_cons, List.length_nil, Nat.zero_add, Nat.reduceAdd]; rfl)) (by simp only [List.nil_append, List.cons_append, List.map_cons, List.map_nil, List.set_cons_zero, List.set_cons_succ, List.take_succ_cons, List.take_zero, List.drop_succ_cons, List.drop_zero]; rfl)) ?_
  refine rts _ rfl (opD_move (ls rfl (ls rfl (ls rfl (ls rfl (ls rfl (os rfl (os rfl oz)))))))) ?_
  refine rts _ rfl ((by first | exact opD_appendX Go.Proofs.Tryz.underlying30 el5 (ls rfl lz) lz rfl (by first | omega | (simp only [List.length_cons, List.length_nil, List.length_append]; omega)) (by first | omega | (simp only [List.length_cons, List.length_nil, List.length_append]; omega)) (List.append_assoc _ _ _) (by simp only [List.nil_append, List.cons_append, List.map_cons, List.map_nil, List.set_cons_zero, List.set_cons_succ, List.take_succ_cons, List.take_zero, List.drop_succ_cons, List.drop_zero]; rfl) | exact opD_appendN (k := kI .u8) Go.Proofs.Tryz.underlying30 el5 (ls rfl lz) lz (by first | omega | (simp only [List.length_cons, List.length_nil, List.length_append]; omega)) (by first | omega | (simp only [List.length_cons, List.length_nil, List.length_append]; omega)) (by first | exact List.length_nil | (simp only [List.length_cons, List.length_nil, Nat.zero_add, Nat.reduceAdd]; rfl)) (by simp only [List.nil_append, List.cons_append, List.map_cons, List.map_nil, List.set_cons_zero, List.set_cons_succ, List.take_succ_cons, List.take_zero, List.drop_succ_cons, List.drop_zero]; rfl))) ?_
  refine rts _ rfl (opD_assign lz) ?_
  refine .nil ?_
  refine aw_keep [(4, _), (0, _), (1, _)] ⟨lg lz, lg (ls rfl (ls rfl (ls rfl (ls rfl (ls rfl (ls rfl (ls rfl (ls rfl (os rfl oz))))))))), lg (ls rfl (ls rfl (ls rfl (ls rfl (ls rfl (ls rfl (ls rfl (ls rfl (os rfl (os rfl oz)))))))))), trivial⟩ ?_
  refine aw_ret ?_
  exact done_own (.inr rfl) (res_1 rfl (eg oz)) rfl (kI_bnd _ _ _ _)

set_option maxRecDepth 100000 in
set_option maxHeartbeats 1000000 in
theorem rd_new {l : List Int} (hl : l.length + 10 ≤ 140737488355328) (s : St) : AC Go.Proofs.Tryz.prog 40 [sl (kI .u8) none none l] s (ptr s.boxes.length 0) (s.ext [RdB l false] []) := by
  refine ac_of_aw (s.boxes.length + 1) s.fr.length Go.Proofs.Tryz.func40 rfl (by simp [Go.Proofs.Tryz.ntmps40]) ?_
  refine aw_ext0 ?_
  refine aw_keep [(0, _)] ⟨lg ez, trivial⟩ ?_
  refine aw_seq ?_
  refine aw_region (by decide) ?_
  refine rts _ rfl (opD_assign (ev_const _ _)) ?_
  refine .nil ?_
  refine aw_keep [(2, _), (0, _)] ⟨lg lz, lg (ls rfl oz), trivial⟩ ?_
  refine aw_seq ?_
  refine aw_region (by decide) ?_
  refine rts _ rfl (opD_move (os rfl oz)) ?_
  refine rts _ rfl (opD_own1 ht81 (clone_b (by omega) (by omega)) ⟨le_sl lz, trivial⟩ (by first | exact List.length_nil | (simp only [List.length_cons, List.length_nil, Nat.zero_add, Nat.reduceAdd]; rfl)) (by simp only [List.nil_append, List.cons_append, List.map_cons, List.map_nil, List.set_cons_zero, List.set_cons_succ, List.take_succ_cons, List.take_zero, List.drop_succ_cons, List.drop_zero]; rfl)) ?_
  refine rts _ rfl (opD_build_struct (rs := (RdB l false).cs) Go.Proofs.Tryz.underlying171 pt171 zt171 (parts_cons (cellsS lz) parts_nil) rfl) ?_
  refine rts _ rfl (opD_boxA lz (rdB_bnd _ _ _ _) (by first | exact List.length_nil | (simp only [List.length_cons, List.length_nil, Nat.zero_add, Nat.reduceAdd]; rfl)) (by simp only [List.nil_append, List.cons_append, List.map_cons, List.map_nil, List.set_cons_zero, List.set_cons_succ, List.take_succ_cons, List.take_zero, List.drop_succ_cons, List.drop_zero]; rfl)) ?_
  refine rts _ rfl (opD_assign lz) ?_
  refine .nil ?_
  refine aw_keep [(2, _), (0, _)] ⟨lg lz, lg (ls rfl (ls rfl (ls rfl (ls rfl (ls rfl (os rfl oz)))))), trivial⟩ ?_
  refine aw_ret ?_
  exact done_new (B := RdB l false) (.inr rfl) (res_1 rfl (eg oz)) (rdB_bnd _ _ _ _)

end Go.Proofs.YtokcgacehdgkcaaGreatDoor.Eng.Pb

