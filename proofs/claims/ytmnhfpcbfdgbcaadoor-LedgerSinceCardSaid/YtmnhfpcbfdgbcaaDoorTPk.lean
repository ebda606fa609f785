/- TPk: what the functions of one package do, walked; used by the laws of this seat. -/
import Derived.Test.YtmnhfpcbfdgbcaaDoorEngM
import Derived.Test.YtmnhfpcbfdgbcaaDoorEPlA
import Derived.Test.YtmnhfpcbfdgbcaaDoorProg
import Derived.KernelRfl
import Derived.Laws.BitsAllLaws
namespace Go.Proofs.YtmnhfpcbfdgbcaaDoor.Eng.Pk
set_option linter.unusedVariables false
set_option linter.unusedSimpArgs false
open Go.RowKit Go.Proofs.YtmnhfpcbfdgbcaaDoor.Plain Go.Proofs.YtmnhfpcbfdgbcaaDoor.Eng

theorem sz5 : sizeT Go.Proofs.Tryd.prog 5 = some 1 := by kernel_rfl
theorem zt5 : zeroT Go.Proofs.Tryd.prog 5 = some [.int .u8 0] := by kernel_rfl
theorem el5 : elT Go.Proofs.Tryd.prog 5 = some (1, 1) := by kernel_rfl
theorem ht86 : hasText Go.Proofs.Tryd.prog 86 = true := by kernel_rfl

set_option maxRecDepth 100000 in
set_option maxHeartbeats 1000000 in
theorem clone_b_nil : Own1 Go.Proofs.Tryd.prog 86 [sl (kI .u8) none (some true) ([] : List Int)] (kI .u8) 5 none ([] : List Int) := by
  intro s
  refine ac_of_aw s.boxes.length (s.fr.length + 1) Go.Proofs.Tryd.func86 rfl (by simp [Go.Proofs.Tryd.ntmps86]) ?_
  refine aw_ext0 ?_
  refine aw_keep [(0, _)] ⟨lg ez, trivial⟩ ?_
  refine aw_seq ?_
  refine aw_region (by decide) ?_
  refine rts _ rfl (opD_assign (ev_const _ _)) ?_
  refine .nil ?_
  refine aw_keep [(2, _), (0, _)] ⟨lg lz, lg (ls rfl oz), trivial⟩ ?_
  refine aw_seq ?_
  refine aw_seq ?_
  refine aw_region (by decide) ?_
  refine rts _ rfl (opD_move (os rfl oz)) ?_
  refine rts _ rfl (opD_eqnil Go.Proofs.Tryd.underlying23 lz) ?_
  refine .nil ?_
  refine aw_keep [(4, _), (2, _), (0, _)] ⟨lg lz, lg (ls rfl (ls rfl oz)), lg (ls rfl (ls rfl (os rfl oz))), trivial⟩ ?_
  refine aw_cond _ oz (fun hc => ?_) (fun hc => ?_)
  · skip
    refine aw_fr ⟨5, 1, 0⟩ ?_
    refine aw_seq ?_
    refine aw_region (by decide) ?_
    refine rts _ rfl (opD_assign (ev_const _ _)) ?_
    refine .nil ?_
    refine aw_keep [(2, _), (4, _), (0, _)] ⟨lg lz, lg (ls rfl oz), lg (ls rfl (os rfl (os rfl oz))), trivial⟩ ?_
    refine aw_ret ?_
    exact done_own (.inr rfl) ((res_1 rfl (eg oz)).le ((nil_le _ _).trans (sl_nl _ _ _ _))) rfl (kI_bnd _ _ _ _)
  · skip
    exfalso; revert hc; simp

set_option maxRecDepth 100000 in
set_option maxHeartbeats 1000000 in
theorem clone_b_some {l : List Int} (hl : l.length * 1 ≤ 140737488355328) (hl2 : l.length ≤ 140737488355328) : Own1 Go.Proofs.Tryd.prog 86 [sl (kI .u8) none (some false) l] (kI .u8) 5 none l := by
  intro s
  refine ac_of_aw s.boxes.length (s.fr.length + 1) Go.Proofs.Tryd.func86 rfl (by simp [Go.Proofs.Tryd.ntmps86]) ?_
  refine aw_ext0 ?_
  refine aw_keep [(0, _)] ⟨lg ez, trivial⟩ ?_
  refine aw_seq ?_
  refine aw_region (by decide) ?_
  refine rts _ rfl (opD_assign (ev_const _ _)) ?_
  refine .nil ?_
  refine aw_keep [(2, _), (0, _)] ⟨lg lz, lg (ls rfl oz), trivial⟩ ?_
  refine aw_seq ?_
  refine aw_seq ?_
  refine aw_region (by decide) ?_
  refine rts _ rfl (opD_move (os rfl oz)) ?_
  refine rts _ rfl (opD_eqnil Go.Proofs.Tryd.underlying23 lz) ?_
  refine .nil ?_
  refine aw_keep [(4, _), (2, _), (0, _)] ⟨lg lz, lg (ls rfl (ls rfl oz)), lg (ls rfl (ls rfl (os rfl oz))), trivial⟩ ?_
  refine aw_cond _ oz (fun hc => ?_) (fun hc => ?_)
  · skip
    exfalso; revert hc; simp
  · skip
    refine aw_skip ?_
    refine aw_keep [(4, _), (2, _), (0, _)] ⟨lg oz, lg (os rfl oz), lg (os rfl (os rfl oz)), trivial⟩ ?_
    refine aw_seq ?_
    refine aw_region (by decide) ?_
    refine rts _ rfl (opD_buildEmpty (k := (kI .u8)) Go.Proofs.Tryd.underlying23 sz5 zt5 rfl (by first | exact List.length_nil | (simp only [List.length_cons, List.length_nil, Nat.zero_add, Nat.reduceAdd]; rfl)) (by simp only [List.nil_append, List.cons_append, List.map_cons, List.map_nil, List.set_cons_zero, List.set_cons_succ, List.take_succ_cons, List.take_zero, List.drop_succ_cons, List.drop_zero]; rfl)) ?_
    refine rts _ rfl (opD_move (ls rfl (os rfl (os rfl oz)))) ?_
    refine rts _ rfl ((by first | exact opD_appendX Go.Proofs.Tryd.underlying23 el5 (ls rfl lz) lz rfl (by first | omega | (simp only [List.length_cons, List.length_nil, List.length_append]; omega)) (by first | omega | (simp only [List.length_cons, List.length_nil, List.length_append]; omega)) (by first | (with_reducible exact List.nil_append _) | exact rfl) (by simp only [List.nil_append, List.cons_append, List.map_cons, List.map_nil, List.set_cons_zero, List.set_cons_succ, List.take_succ_cons, List.take_zero, List.drop_succ_cons, List.drop_zero]; rfl) | exact opD_appendN (k := (kI .u8)) Go.Proofs.Tryd.underlying23 el5 (ls rfl lz) lz (by first | omega | (simp only [List.length_cons, List.length_nil, List.length_append]; omega)) (by first | omega | (simp only [List.length_cons, List.length_nil, List.length_append]; omega)) (by first | exact List.length_nil | (simp only [List.length_cons, List.length_nil, Nat.zero_add, Nat.reduceAdd]; rfl)) (by simp only [List.nil_append, List.cons_append, List.map_cons, List.map_nil, List.set_cons_zero, List.set_cons_succ, List.take_succ_cons, List.take_zero, List.drop_succ_cons, List.drop_zero]; rfl))) ?_
    refine rts _ rfl (opD_assign lz) ?_
    refine .nil ?_
    refine aw_keep [(2, _), (4, _), (0, _)] ⟨lg lz, lg (ls rfl (ls rfl (ls rfl (ls rfl oz)))), lg (ls rfl (ls rfl (ls rfl (ls rfl (os rfl (os rfl oz)))))), trivial⟩ ?_
    refine aw_ret ?_
    exact done_own (.inr rfl) (res_1 rfl (eg oz)) rfl (kI_bnd _ _ _ _)

theorem clone_b {l : List Int} (hl : l.length * 1 ≤ 140737488355328) (hl2 : l.length ≤ 140737488355328) : Own1 Go.Proofs.Tryd.prog 86 [sl (kI .u8) none none l] (kI .u8) 5 none l := fun s => ac_nl (fun h => by subst h; exact clone_b_nil s) (clone_b_some hl hl2 s)

theorem or128 (n : Nat) : bits BinOp.or .u8 ((n : Int) % 256) 128 = (((n % 128 + 128 : Nat)) : Int) := by
  have h : ∀ m, m < 256 → bits BinOp.or .u8 ((m : Nat) : Int) 128 = ((m % 128 + 128 : Nat) : Int) := by decide +kernel
  have e : (n : Int) % 256 = ((n % 256 : Nat) : Int) := by omega
  rw [e, h _ (Nat.mod_lt _ (by decide))]; omega
theorem shr7 (q : Nat) : ((q : Int)) / 2 ^ (7 : Int).toNat = ((q / 128 : Nat) : Int) := by
  show (q : Int) / 128 = _
  omega

set_option maxRecDepth 100000 in
set_option maxHeartbeats 1000000 in
theorem put {l : List Int} {n0 : Nat} (hl : l.length + 10 ≤ 140737488355328) (hn : n0 < 18446744073709551616) : Own1 Go.Proofs.Tryd.prog 87 [sl (kI .u8) none none l, pl (.int .u64 (n0 : Int))] (kI .u8) 5 none (l ++ vb n0) := by
  intro s
  have hv := vb_len10 hn
  refine ac_of_aw s.boxes.length (s.fr.length + 1) Go.Proofs.Tryd.func87 rfl (by simp [Go.Proofs.Tryd.ntmps87]) ?_
  refine aw_ext0 ?_
  refine aw_keep [(0, _), (1, _)] ⟨lg ez, lg (es ez), trivial⟩ ?_
  refine aw_seq ?_
  refine aw_region (by decide) ?_
  refine rts _ rfl (opD_assign (ev_const _ _)) ?_
  refine .nil ?_
  refine aw_keep [(4, _), (0, _), (1, _)] ⟨lg lz, lg (ls rfl oz), lg (ls rfl (os rfl oz)), trivial⟩ ?_
  refine aw_seq ?_
  refine aw_region (by decide) ?_
  refine rts _ rfl (opD_move (os rfl oz)) ?_
  refine rts _ rfl (opD_own1 ht86 (clone_b (by omega) (by omega)) ⟨le_sl lz, trivial⟩ (by first | exact List.length_nil | (simp only [List.length_cons, List.length_nil, Nat.zero_add, Nat.reduceAdd]; rfl)) (by simp only [List.nil_append, List.cons_append, List.map_cons, List.map_nil, List.set_cons_zero, List.set_cons_succ, List.take_succ_cons, List.take_zero, List.drop_succ_cons, List.drop_zero]; rfl)) ?_
  refine rts _ rfl (opD_assign lz) ?_
  refine .nil ?_
  refine aw_keep [(5, _), (4, _), (0, _), (1, _)] ⟨lg lz, lg (ls rfl (ls rfl (ls rfl oz))), lg (ls rfl (ls rfl (ls rfl (os rfl oz)))), lg (ls rfl (ls rfl (ls rfl (os rfl (os rfl oz))))), trivial⟩ ?_
  refine aw_seq ?_
  refine aw_block ?_
  refine aw_loop (fun n e st => ∃ (y : List Int), Holds e [(1, pl (.int .u64 (n : Int))), (5, sl (kI .u8) (some (s.fr.length + 0)) none y)] ∧ st = s.ext [] [⟨5, 1, y.length⟩] ∧ y ++ vb n = l ++ vb n0 ∧ n ≤ n0) (n0) (⟨l, ⟨le_of_eq (eg (os rfl (os rfl (os rfl oz)))), le_of_eq (eg oz), trivial⟩, rfl, rfl, Nat.le_refl _⟩) ?_
  rintro n e st ⟨y, hH, rfl, hy, hle⟩
  have hlen := congrArg List.length hy
  simp only [List.length_append] at hlen
  have hvn := vb_len10 (n := n) (by omega)
  refine aw_keep _ hH ?_
  refine aw_seq ?_
  refine aw_seq ?_
  refine aw_region (by decide) ?_
  refine rts _ rfl (opD_move oz) ?_
  refine rts _ rfl (opD_geq lz (ev_const _ _)) ?_
  refine .nil ?_
  refine aw_keep [(9, _), (1, _), (5, _)] ⟨lg lz, lg (ls rfl (ls rfl oz)), lg (ls rfl (ls rfl (os rfl oz))), trivial⟩ ?_
  refine aw_cond _ oz (fun hc => ?_) (fun hc => ?_)
  · skip
    try simp only [decide_eq_true_eq, decide_eq_false_iff_not] at hc
    refine aw_skip ?_
    refine aw_keep [(9, _), (1, _), (5, _)] ⟨lg oz, lg (os rfl oz), lg (os rfl (os rfl oz)), trivial⟩ ?_
    refine aw_seq ?_
    refine aw_block ?_
    refine aw_region (by decide) ?_
    refine rts _ rfl (opD_move (os rfl (os rfl oz))) ?_
    refine rts _ rfl (opD_move (ls rfl (os rfl oz))) ?_
    refine rts _ rfl (opD_conv_int Go.Proofs.Tryd.underlying22 Go.Proofs.Tryd.underlying5 lz (IntKind.wrap_u8' _)) ?_
    refine rts _ rfl (opD_bits (.inr (.inl rfl)) lz (ev_const _ _) (or128 n)) ?_
    refine rts _ rfl (opD_buildSlice (k := kI .u8) [_] Go.Proofs.Tryd.underlying23 sz5 zt5 (by decide) rfl (parts_cons (cells1 lz (by first | exact one_pl rfl | exact one_sl _ _ _ _ | exact one_ptr _ _ | exact one_ifc _ _)) parts_nil) rfl rfl) ?_
    refine rts _ rfl ((by first | exact opD_appendX Go.Proofs.Tryd.underlying23 el5 (ls rfl (ls rfl (ls rfl (ls rfl lz)))) lz rfl (by first | omega | (simp only [List.length_cons, List.length_nil, List.length_append]; omega)) (by first | omega | (simp only [List.length_cons, List.length_nil, List.length_append]; omega)) (by first | (with_reducible exact List.nil_append _) | exact rfl) (by simp only [List.nil_append, List.cons_append, List.map_cons, List.map_nil, List.set_cons_zero, List.set_cons_succ, List.take_succ_cons, List.take_zero, List.drop_succ_cons, List.drop_zero]; rfl) | exact opD_appendN (k := kI .u8) Go.Proofs.Tryd.underlying23 el5 (ls rfl (ls rfl (ls rfl (ls rfl lz)))) lz (by first | omega | (simp only [List.length_cons, List.length_nil, List.length_append]; omega)) (by first | omega | (simp only [List.length_cons, List.length_nil, List.length_append]; omega)) (by first | exact List.length_nil | (simp only [List.length_cons, List.length_nil, Nat.zero_add, Nat.reduceAdd]; rfl)) (by simp only [List.nil_append, List.cons_append, List.map_cons, List.map_nil, List.set_cons_zero, List.set_cons_succ, List.take_succ_cons, List.take_zero, List.drop_succ_cons, List.drop_zero]; rfl))) ?_
    refine rts _ rfl (opD_assign lz) ?_
    refine .nil ?_
    refine aw_keep [(5, _), (9, _), (1, _)] ⟨lg lz, lg (ls rfl (ls rfl (ls rfl (ls rfl (ls rfl (ls rfl (ls rfl oz))))))), lg (ls rfl (ls rfl (ls rfl (ls rfl (ls rfl (ls rfl (ls rfl (os rfl oz)))))))), trivial⟩ ?_
    refine aw_region (by decide) ?_
    refine rts _ rfl (opD_move (os rfl (os rfl oz))) ?_
    refine rts _ rfl (opD_shr lz (ev_const _ _) (by decide) (by decide) (shr7 n)) ?_
    refine rts _ rfl (opD_assign lz) ?_
    refine .nil ?_
    refine ⟨n / 128, by omega, y ++ [((n % 128 + 128 : Nat) : Int)], ⟨le_of_eq (eg lz), le_of_eq (eg (ls rfl (ls rfl (ls rfl oz)))), trivial⟩, rfl, ?_, by omega⟩
    rw [← hy, vb_big (n := n) (by omega)]; simp
  · skip
    try simp only [decide_eq_true_eq, decide_eq_false_iff_not] at hc
    refine aw_exit ?_
    refine aw_keep [(9, _), (1, _), (5, _)] ⟨lg oz, lg (os rfl oz), lg (os rfl (os rfl oz)), trivial⟩ ?_
    refine aw_seq ?_
    refine aw_region (by decide) ?_
    refine rts _ rfl (opD_move (os rfl (os rfl oz))) ?_
    refine rts _ rfl (opD_move (ls rfl (os rfl oz))) ?_
    refine rts _ rfl (opD_conv_int Go.Proofs.Tryd.underlying22 Go.Proofs.Tryd.underlying5 lz (IntWalk.u8_in _ (by omega))) ?_
    refine rts _ rfl (opD_buildSlice (k := kI .u8) [_] Go.Proofs.Tryd.underlying23 sz5 zt5 (by decide) rfl (parts_cons (cells1 lz (by first | exact one_pl rfl | exact one_sl _ _ _ _ | exact one_ptr _ _ | exact one_ifc _ _)) parts_nil) rfl rfl) ?_
    refine rts _ rfl ((by first | exact opD_appendX Go.Proofs.Tryd.underlying23 el5 (ls rfl (ls rfl (ls rfl lz))) lz rfl (by first | omega | (simp only [List.length_cons, List.length_nil, List.length_append]; omega)) (by first | omega | (simp only [List.length_cons, List.length_nil, List.length_append]; omega)) (by first | (with_reducible exact List.nil_append _) | exact rfl) (by simp only [List.nil_append, List.cons_append, List.map_cons, List.map_nil, List.set_cons_zero, List.set_cons_succ, List.take_succ_cons, List.take_zero, List.drop_succ_cons, List.drop_zero]; rfl) | exact opD_appendN (k := kI .u8) Go.Proofs.Tryd.underlying23 el5 (ls rfl (ls rfl (ls rfl lz))) lz (by first | omega | (simp only [List.length_cons, List.length_nil, List.length_append]; omega)) (by first | omega | (simp only [List.length_cons, List.length_nil, List.length_append]; omega)) (by first | exact List.length_nil | (simp only [List.length_cons, List.length_nil, Nat.zero_add, Nat.reduceAdd]; rfl)) (by simp only [List.nil_append, List.cons_append, List.map_cons, List.map_nil, List.set_cons_zero, List.set_cons_succ, List.take_succ_cons, List.take_zero, List.drop_succ_cons, List.drop_zero]; rfl))) ?_
    refine rts _ rfl (opD_assign lz) ?_
    refine .nil ?_
    refine aw_keep [(4, _), (9, _), (1, _), (5, _)] ⟨lg lz, lg (ls rfl (ls rfl (ls rfl (ls rfl (ls rfl (ls rfl oz)))))), lg (ls rfl (ls rfl (ls rfl (ls rfl (ls rfl (ls rfl (os rfl oz))))))), lg (ls rfl (ls rfl (ls rfl (ls rfl (ls rfl (ls rfl (os rfl (os rfl oz)))))))), trivial⟩ ?_
    refine aw_ret ?_
    exact done_own (.inr rfl) ((res_1 rfl (eg oz)).le (sl_to rfl (by rw [← hy, vb_small (by omega)]))) (by rw [← hy, vb_small (by omega)]) (kI_bnd _ _ _ _)
end Go.Proofs.YtmnhfpcbfdgbcaaDoor.Eng.Pk

