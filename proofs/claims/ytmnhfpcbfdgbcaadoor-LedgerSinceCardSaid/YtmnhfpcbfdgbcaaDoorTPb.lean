/- TPb: what the functions of one package do, walked; used by the laws of this seat. -/
import Derived.Test.YtmnhfpcbfdgbcaaDoorTRd
namespace Go.Proofs.YtmnhfpcbfdgbcaaDoor.Eng.Pb
set_option linter.unusedVariables false
set_option linter.unusedSimpArgs false
open Go.RowKit Go.Proofs.YtmnhfpcbfdgbcaaDoor.Plain Go.Proofs.YtmnhfpcbfdgbcaaDoor.Eng

theorem ht86 : hasText Go.Proofs.Tryd.prog 86 = true := by kernel_rfl
theorem sz5 : sizeT Go.Proofs.Tryd.prog 5 = some 1 := by kernel_rfl
theorem zt5 : zeroT Go.Proofs.Tryd.prog 5 = some [.int .u8 0] := by kernel_rfl
theorem el5 : elT Go.Proofs.Tryd.prog 5 = some (1, 1) := by kernel_rfl
theorem ht87 : hasText Go.Proofs.Tryd.prog 87 = true := by kernel_rfl
theorem pt164 : placesT Go.Proofs.Tryd.prog 164 2 = some [(0, 1), (1, 1)] := by kernel_rfl
theorem zt164 : zeroT Go.Proofs.Tryd.prog 164 = some [.slice none 0 0, .bool false] := by kernel_rfl
theorem ht23 : hasText Go.Proofs.Tryd.prog 23 = true := by kernel_rfl
theorem cc107 : Go.Proofs.Tryd.prog.concrete 107 = true := by kernel_rfl

open Go.Proofs.YtmnhfpcbfdgbcaaDoor.Eng.Pk Go.Proofs.YtmnhfpcbfdgbcaaDoor.Eng.Rd

set_option maxRecDepth 100000 in
set_option maxHeartbeats 1000000 in
theorem pk_byte {l : List Int} {c : Int} (hl : l.length + 10 ≤ 140737488355328) : Own1 Go.Proofs.Tryd.prog 19 [sl (kI .u8) none none l, pl (.int .u8 c)] (kI .u8) 5 none (l ++ [c]) := by
  intro s
  refine ac_of_aw s.boxes.length (s.fr.length + 1) Go.Proofs.Tryd.func19 rfl (by simp [Go.Proofs.Tryd.ntmps19]) ?_
  refine aw_ext0 ?_
  refine aw_keep [(0, _), (1, _)] ⟨lg ez, lg (es ez), trivial⟩ ?_
  refine aw_seq ?_
  refine aw_region (by decide) ?_
  refine rts _ rfl (opD_assign (ev_const _ _)) ?_
  refine .nil ?_
  refine aw_keep [(4, _), (0, _), (1, _)] ⟨lg lz, lg (ls rfl oz), lg (ls rfl (os rfl oz)), trivial⟩ ?_
  refine aw_seq ?_
  refine aw_region (by decide) ?_
  refine rts _ rfl (opD_move (os rfl oz)) ?_
  refine rts _ rfl (opD_own1 ht86 (clone_b (by omega) (by omega)) ⟨le_sl lz, trivial⟩ (by first | exact List.length_nil | (simp only [List.length_cons, List.length_nil, Nat.zero_add, Nat.reduceAdd]; rfl)) (by simp only [List.nil_append, List.cons_append, List.map_cons, List.map_nil, List.set_cons_zero, List.set_cons_succ, List.take_succ_cons, List.take_zero, List.drop_succ_cons, List.drop_zero]; rfl)) ?_
  refine rts _ rfl (opD_move (ls rfl (ls rfl (os rfl (os rfl oz))))) ?_
  refine rts _ rfl (opD_buildSlice (k := kI .u8) [_] Go.Proofs.Tryd.underlying23 sz5 zt5 (by decide) rfl (parts_cons (cells1 lz (by first | exact one_pl rfl | exact one_sl _ _ _ _ | exact one_ptr _ _ | exact one_ifc _ _)) parts_nil) rfl rfl) ?_
  refine rts _ rfl ((by first | exact opD_appendX Go.Proofs.Tryd.underlying23 el5 (ls rfl (ls rfl lz)) lz rfl (by first | omega | (simp only [List.length_cons, List.length_nil, List.length_append]; omega)) (by first | omega | (simp only [List.length_cons, List.length_nil, List.length_append]; omega)) (by first | (with_reducible exact List.nil_append _) | exact rfl) (by simp only [List.nil_append, List.cons_append, List.map_cons, List.map_nil, List.set_cons_zero, List.set_cons_succ, List.take_succ_cons, List.take_zero, List.drop_succ_cons, List.drop_zero]; rfl) | exact opD_appendN (k := kI .u8) Go.Proofs.Tryd.underlying23 el5 (ls rfl (ls rfl lz)) lz (by first | omega | (simp only [List.length_cons, List.length_nil, List.length_append]; omega)) (by first | omega | (simp only [List.length_cons, List.length_nil, List.length_append]; omega)) (by first | exact List.length_nil | (simp only [List.length_cons, List.length_nil, Nat.zero_add, Nat.reduceAdd]; rfl)) (by simp only [List.nil_append, List.cons_append, List.map_cons, List.map_nil, List.set_cons_zero, List.set_cons_succ, List.take_succ_cons, List.take_zero, List.drop_succ_cons, List.drop_zero]; rfl))) ?_
  refine rts _ rfl (opD_assign lz) ?_
  refine .nil ?_
  refine aw_keep [(4, _), (0, _), (1, _)] ⟨lg lz, lg (ls rfl (ls rfl (ls rfl (ls rfl (ls rfl (ls rfl (os rfl oz))))))), lg (ls rfl (ls rfl (ls rfl (ls rfl (ls rfl (ls rfl (os rfl (os rfl oz)))))))), trivial⟩ ?_
  refine aw_ret ?_
  exact done_own (.inr rfl) (res_1 rfl (eg oz)) rfl (kI_bnd _ _ _ _)

set_option maxRecDepth 100000 in
set_option maxHeartbeats 1000000 in
theorem pk_num {l : List Int} {n : Nat} (hl : l.length + 10 ≤ 140737488355328) (hn : n < 18446744073709551616) : Own1 Go.Proofs.Tryd.prog 21 [sl (kI .u8) none none l, pl (.int .u64 (n : Int))] (kI .u8) 5 none (l ++ vb n) := by
  intro s
  refine ac_of_aw s.boxes.length (s.fr.length + 1) Go.Proofs.Tryd.func21 rfl (by simp [Go.Proofs.Tryd.ntmps21]) ?_
  refine aw_ext0 ?_
  refine aw_keep [(0, _), (1, _)] ⟨lg ez, lg (es ez), trivial⟩ ?_
  refine aw_seq ?_
  refine aw_region (by decide) ?_
  refine rts _ rfl (opD_assign (ev_const _ _)) ?_
  refine .nil ?_
  refine aw_keep [(4, _), (0, _), (1, _)] ⟨lg lz, lg (ls rfl oz), lg (ls rfl (os rfl oz)), trivial⟩ ?_
  refine aw_seq ?_
  refine aw_region (by decide) ?_
  refine rts _ rfl (opD_move (os rfl oz)) ?_
  refine rts _ rfl (opD_move (ls rfl (os rfl (os rfl oz)))) ?_
  refine rts _ rfl (opD_own1 ht87 (put hl hn) ⟨le_sl (ls rfl lz), le_of_eq lz, trivial⟩ (by first | exact List.length_nil | (simp only [List.length_cons, List.length_nil, Nat.zero_add, Nat.reduceAdd]; rfl)) (by simp only [List.nil_append, List.cons_append, List.map_cons, List.map_nil, List.set_cons_zero, List.set_cons_succ, List.take_succ_cons, List.take_zero, List.drop_succ_cons, List.drop_zero]; rfl)) ?_
  refine rts _ rfl (opD_assign lz) ?_
  refine .nil ?_
  refine aw_keep [(4, _), (0, _), (1, _)] ⟨lg lz, lg (ls rfl (ls rfl (ls rfl (ls rfl (os rfl oz))))), lg (ls rfl (ls rfl (ls rfl (ls rfl (os rfl (os rfl oz)))))), trivial⟩ ?_
  refine aw_ret ?_
  exact done_own (.inr rfl) (res_1 rfl (eg oz)) rfl (kI_bnd _ _ _ _)

set_option maxRecDepth 100000 in
set_option maxHeartbeats 1000000 in
theorem pk_bytes {l m : List Int} (hl : l.length + m.length + 10 ≤ 140737488355328) : Own1 Go.Proofs.Tryd.prog 20 [sl (kI .u8) none none l, sl (kI .u8) none none m] (kI .u8) 5 none (l ++ (vb m.length ++ m)) := by
  intro s
  have hv := vb_len10 (n := m.length) (by omega)
  refine ac_of_aw s.boxes.length (s.fr.length + 1) Go.Proofs.Tryd.func20 rfl (by simp [Go.Proofs.Tryd.ntmps20]) ?_
  refine aw_ext0 ?_
  refine aw_keep [(0, _), (1, _)] ⟨lg ez, lg (es ez), trivial⟩ ?_
  refine aw_seq ?_
  refine aw_region (by decide) ?_
  refine rts _ rfl (opD_assign (ev_const _ _)) ?_
  refine .nil ?_
  refine aw_keep [(4, _), (0, _), (1, _)] ⟨lg lz, lg (ls rfl oz), lg (ls rfl (os rfl oz)), trivial⟩ ?_
  refine aw_seq ?_
  refine aw_region (by decide) ?_
  refine rts _ rfl (opD_move (os rfl oz)) ?_
  refine rts _ rfl (opD_move (ls rfl (os rfl (os rfl oz)))) ?_
  refine rts _ rfl (opD_len_sl Go.Proofs.Tryd.underlying23 lz) ?_
  refine rts _ rfl (opD_conv_int Go.Proofs.Tryd.underlying3 Go.Proofs.Tryd.underlying22 lz (by first | exact IntWalk.u64_in _ (by omega) | exact rfl)) ?_
  refine rts _ rfl (opD_own1 ht87 (put (n0 := m.length) (by omega) (by omega)) ⟨le_sl (ls rfl (ls rfl (ls rfl lz))), le_of_eq lz, trivial⟩ (by first | exact List.length_nil | (simp only [List.length_cons, List.length_nil, Nat.zero_add, Nat.reduceAdd]; rfl)) (by simp only [List.nil_append, List.cons_append, List.map_cons, List.map_nil, List.set_cons_zero, List.set_cons_succ, List.take_succ_cons, List.take_zero, List.drop_succ_cons, List.drop_zero]; rfl)) ?_
  refine rts _ rfl (opD_move (ls rfl (ls rfl (ls rfl (ls rfl (ls rfl (os rfl (os rfl oz)))))))) ?_
  refine rts _ rfl ((by first | exact opD_appendX Go.Proofs.Tryd.underlying23 el5 (ls rfl lz) lz rfl (by first | omega | (simp only [List.length_cons, List.length_nil, List.length_append]; omega)) (by first | omega | (simp only [List.length_cons, List.length_nil, List.length_append]; omega)) (List.append_assoc _ _ _) (by simp only [List.nil_append, List.cons_append, List.map_cons, List.map_nil, List.set_cons_zero, List.set_cons_succ, List.take_succ_cons, List.take_zero, List.drop_succ_cons, List.drop_zero]; rfl) | exact opD_appendN (k := kI .u8) Go.Proofs.Tryd.underlying23 el5 (ls rfl lz) lz (by first | omega | (simp only [List.length_cons, List.length_nil, List.length_append]; omega)) (by first | omega | (simp only [List.length_cons, List.length_nil, List.length_append]; omega)) (by first | exact List.length_nil | (simp only [List.length_cons, List.length_nil, Nat.zero_add, Nat.reduceAdd]; rfl)) (by simp only [List.nil_append, List.cons_append, List.map_cons, List.map_nil, List.set_cons_zero, List.set_cons_succ, List.take_succ_cons, List.take_zero, List.drop_succ_cons, List.drop_zero]; rfl))) ?_
  refine rts _ rfl (opD_assign lz) ?_
  refine .nil ?_
  refine aw_keep [(4, _), (0, _), (1, _)] ⟨lg lz, lg (ls rfl (ls rfl (ls rfl (ls rfl (ls rfl (ls rfl (ls rfl (ls rfl (os rfl oz))))))))), lg (ls rfl (ls rfl (ls rfl (ls rfl (ls rfl (ls rfl (ls rfl (ls rfl (os rfl (os rfl oz)))))))))), trivial⟩ ?_
  refine aw_ret ?_
  exact done_own (.inr rfl) (res_1 rfl (eg oz)) rfl (kI_bnd _ _ _ _)

set_option maxRecDepth 100000 in
set_option maxHeartbeats 1000000 in
theorem rd_new {l : List Int} (hl : l.length + 10 ≤ 140737488355328) (s : St) : AC Go.Proofs.Tryd.prog 22 [sl (kI .u8) none none l] s (ptr s.boxes.length 0) (s.ext [RdB l false] []) := by
  refine ac_of_aw (s.boxes.length + 1) s.fr.length Go.Proofs.Tryd.func22 rfl (by simp [Go.Proofs.Tryd.ntmps22]) ?_
  refine aw_ext0 ?_
  refine aw_keep [(0, _)] ⟨lg ez, trivial⟩ ?_
  refine aw_seq ?_
  refine aw_region (by decide) ?_
  refine rts _ rfl (opD_assign (ev_const _ _)) ?_
  refine .nil ?_
  refine aw_keep [(2, _), (0, _)] ⟨lg lz, lg (ls rfl oz), trivial⟩ ?_
  refine aw_seq ?_
  refine aw_region (by decide) ?_
  refine rts _ rfl (opD_move (os rfl oz)) ?_
  refine rts _ rfl (opD_own1 ht86 (clone_b (by omega) (by omega)) ⟨le_sl lz, trivial⟩ (by first | exact List.length_nil | (simp only [List.length_cons, List.length_nil, Nat.zero_add, Nat.reduceAdd]; rfl)) (by simp only [List.nil_append, List.cons_append, List.map_cons, List.map_nil, List.set_cons_zero, List.set_cons_succ, List.take_succ_cons, List.take_zero, List.drop_succ_cons, List.drop_zero]; rfl)) ?_
  refine rts _ rfl (opD_build_struct (rs := (RdB l false).cs) Go.Proofs.Tryd.underlying164 pt164 zt164 (parts_cons (cellsS lz) parts_nil) rfl) ?_
  refine rts _ rfl (opD_boxA lz (rdB_bnd _ _ _ _) (by first | exact List.length_nil | (simp only [List.length_cons, List.length_nil, Nat.zero_add, Nat.reduceAdd]; rfl)) (by simp only [List.nil_append, List.cons_append, List.map_cons, List.map_nil, List.set_cons_zero, List.set_cons_succ, List.take_succ_cons, List.take_zero, List.drop_succ_cons, List.drop_zero]; rfl)) ?_
  refine rts _ rfl (opD_assign lz) ?_
  refine .nil ?_
  refine aw_keep [(2, _), (0, _)] ⟨lg lz, lg (ls rfl (ls rfl (ls rfl (ls rfl (ls rfl (os rfl oz)))))), trivial⟩ ?_
  refine aw_ret ?_
  exact done_new (B := RdB l false) (.inr rfl) (res_1 rfl (eg oz)) (rdB_bnd _ _ _ _)

set_option maxRecDepth 100000 in
set_option maxHeartbeats 1000000 in
theorem nil_byte : Pure Go.Proofs.Tryd.prog 25 [pl (.pointer none)] (pl (.int .u8 0)) := by
  intro s
  refine ac_of_aw s.boxes.length s.fr.length Go.Proofs.Tryd.func25 rfl (by simp [Go.Proofs.Tryd.ntmps25]) ?_
  refine aw_ext0 ?_
  refine aw_keep [(0, _)] ⟨lg ez, trivial⟩ ?_
  refine aw_seq ?_
  refine aw_region (by decide) ?_
  refine rts _ rfl (opD_assign (ev_const _ _)) ?_
  refine .nil ?_
  refine aw_keep [(2, _), (0, _)] ⟨lg lz, lg (ls rfl oz), trivial⟩ ?_
  refine aw_seq ?_
  refine aw_seq ?_
  refine aw_region (by decide) ?_
  refine rts _ rfl (opD_move (os rfl oz)) ?_
  refine rts _ rfl ((by first | exact opD_ptr_eqnil Go.Proofs.Tryd.underlying28 lz | exact opD_nilp_eqnil Go.Proofs.Tryd.underlying28 lz)) ?_
  refine .nil ?_
  refine aw_keep [(5, _), (2, _), (0, _)] ⟨lg lz, lg (ls rfl (ls rfl oz)), lg (ls rfl (ls rfl (os rfl oz))), trivial⟩ ?_
  refine aw_cond _ oz (fun hc => ?_) (fun hc => ?_)
  · skip
    refine aw_seq ?_
    refine aw_region (by decide) ?_
    refine rts _ rfl (opD_assign (ev_const _ _)) ?_
    refine .nil ?_
    refine aw_keep [(2, _), (5, _), (0, _)] ⟨lg lz, lg (ls rfl oz), lg (ls rfl (os rfl (os rfl oz))), trivial⟩ ?_
    refine aw_ret ?_
    exact done_ext (.inr rfl) (res_1 rfl (eg oz)) (pl_bnd _ _ _)
  · skip
    exfalso; revert hc; simp

set_option maxRecDepth 100000 in
set_option maxHeartbeats 1000000 in
theorem nil_left : Pure Go.Proofs.Tryd.prog 28 [pl (.pointer none)] (pl (.int .i64 0)) := by
  intro s
  refine ac_of_aw s.boxes.length s.fr.length Go.Proofs.Tryd.func28 rfl (by simp [Go.Proofs.Tryd.ntmps28]) ?_
  refine aw_ext0 ?_
  refine aw_keep [(0, _)] ⟨lg ez, trivial⟩ ?_
  refine aw_seq ?_
  refine aw_region (by decide) ?_
  refine rts _ rfl (opD_assign (ev_const _ _)) ?_
  refine .nil ?_
  refine aw_keep [(2, _), (0, _)] ⟨lg lz, lg (ls rfl oz), trivial⟩ ?_
  refine aw_seq ?_
  refine aw_seq ?_
  refine aw_region (by decide) ?_
  refine rts _ rfl (opD_move (os rfl oz)) ?_
  refine rts _ rfl ((by first | exact opD_ptr_eqnil Go.Proofs.Tryd.underlying28 lz | exact opD_nilp_eqnil Go.Proofs.Tryd.underlying28 lz)) ?_
  refine .nil ?_
  refine aw_keep [(4, _), (2, _), (0, _)] ⟨lg lz, lg (ls rfl (ls rfl oz)), lg (ls rfl (ls rfl (os rfl oz))), trivial⟩ ?_
  refine aw_cond _ oz (fun hc => ?_) (fun hc => ?_)
  · skip
    refine aw_seq ?_
    refine aw_region (by decide) ?_
    refine rts _ rfl (opD_assign (ev_const _ _)) ?_
    refine .nil ?_
    refine aw_keep [(2, _), (4, _), (0, _)] ⟨lg lz, lg (ls rfl oz), lg (ls rfl (os rfl (os rfl oz))), trivial⟩ ?_
    refine aw_ret ?_
    exact done_ext (.inr rfl) (res_1 rfl (eg oz)) (pl_bnd _ _ _)
  · skip
    exfalso; revert hc; simp

set_option maxRecDepth 100000 in
set_option maxHeartbeats 1000000 in
theorem nil_num {n : Int} : Pure Go.Proofs.Tryd.prog 23 [pl (.pointer none), pl (.int .u64 n)] (pl (.int .u64 0)) := by
  intro s
  refine ac_of_aw s.boxes.length s.fr.length Go.Proofs.Tryd.func23 rfl (by simp [Go.Proofs.Tryd.ntmps23]) ?_
  refine aw_ext0 ?_
  refine aw_keep [(0, _), (1, _)] ⟨lg ez, lg (es ez), trivial⟩ ?_
  refine aw_seq ?_
  refine aw_region (by decide) ?_
  refine rts _ rfl (opD_assign (ev_const _ _)) ?_
  refine .nil ?_
  refine aw_keep [(4, _), (0, _), (1, _)] ⟨lg lz, lg (ls rfl oz), lg (ls rfl (os rfl oz)), trivial⟩ ?_
  refine aw_seq ?_
  refine aw_seq ?_
  refine aw_region (by decide) ?_
  refine rts _ rfl (opD_move (os rfl oz)) ?_
  refine rts _ rfl ((by first | exact opD_ptr_eqnil Go.Proofs.Tryd.underlying28 lz | exact opD_nilp_eqnil Go.Proofs.Tryd.underlying28 lz)) ?_
  refine .nil ?_
  refine aw_keep [(9, _), (4, _), (0, _), (1, _)] ⟨lg lz, lg (ls rfl (ls rfl oz)), lg (ls rfl (ls rfl (os rfl oz))), lg (ls rfl (ls rfl (os rfl (os rfl oz)))), trivial⟩ ?_
  refine aw_cond _ oz (fun hc => ?_) (fun hc => ?_)
  · skip
    refine aw_seq ?_
    refine aw_region (by decide) ?_
    refine rts _ rfl (opD_assign (ev_const _ _)) ?_
    refine .nil ?_
    refine aw_keep [(4, _), (9, _), (0, _), (1, _)] ⟨lg lz, lg (ls rfl oz), lg (ls rfl (os rfl (os rfl oz))), lg (ls rfl (os rfl (os rfl (os rfl oz)))), trivial⟩ ?_
    refine aw_ret ?_
    exact done_ext (.inr rfl) (res_1 rfl (eg oz)) (pl_bnd _ _ _)
  · skip
    exfalso; revert hc; simp

set_option maxRecDepth 100000 in
set_option maxHeartbeats 1000000 in
theorem nil_bytes {n : Int} (h : 0 ≤ n ∧ n < 9223372036854775808) : Pure Go.Proofs.Tryd.prog 24 [pl (.pointer none), pl (.int .i64 n)] (sl (kI .u8) none none []) := by
  intro s
  refine ac_of_aw s.boxes.length s.fr.length Go.Proofs.Tryd.func24 rfl (by simp [Go.Proofs.Tryd.ntmps24]) ?_
  refine aw_ext0 ?_
  refine aw_keep [(0, _), (1, _)] ⟨lg ez, lg (es ez), trivial⟩ ?_
  refine aw_seq ?_
  refine aw_region (by decide) ?_
  refine rts _ rfl (opD_assign (ev_const _ _)) ?_
  refine .nil ?_
  refine aw_keep [(4, _), (0, _), (1, _)] ⟨lg lz, lg (ls rfl oz), lg (ls rfl (os rfl oz)), trivial⟩ ?_
  refine aw_seq ?_
  refine aw_region (by decide) ?_
  refine rts _ rfl (opD_move (os rfl oz)) ?_
  refine rts _ rfl (opD_move (ls rfl (os rfl (os rfl oz)))) ?_
  refine rts _ rfl (opD_max (r := n) (ev_const _ _) lz (by split <;> omega)) ?_
  refine rts _ rfl (opD_conv_int Go.Proofs.Tryd.underlying3 Go.Proofs.Tryd.underlying22 lz (by first | exact IntWalk.u64_in _ (by omega) | exact rfl)) ?_
  refine rts _ rfl (opD_pure ht23 (nil_num) ⟨le_of_eq (ls rfl (ls rfl (ls rfl lz))), le_of_eq lz, trivial⟩) ?_
  refine rts _ rfl (opD_conv_int Go.Proofs.Tryd.underlying22 Go.Proofs.Tryd.underlying3 lz (by first | exact IntWalk.i64_in _ (by omega) | exact rfl)) ?_
  refine rts _ rfl (opD_assign lz) ?_
  refine .nil ?_
  refine aw_keep [(5, _), (4, _), (0, _), (1, _)] ⟨lg lz, lg (ls rfl (ls rfl (ls rfl (ls rfl (ls rfl (ls rfl (ls rfl oz))))))), lg (ls rfl (ls rfl (ls rfl (ls rfl (ls rfl (ls rfl (ls rfl (os rfl oz)))))))), lg (ls rfl (ls rfl (ls rfl (ls rfl (ls rfl (ls rfl (ls rfl (os rfl (os rfl oz))))))))), trivial⟩ ?_
  refine aw_seq ?_
  refine aw_seq ?_
  refine aw_region (by decide) ?_
  refine rts _ rfl (opD_move (os rfl (os rfl oz))) ?_
  refine rts _ rfl ((by first | exact opD_ptr_eqnil Go.Proofs.Tryd.underlying28 lz | exact opD_nilp_eqnil Go.Proofs.Tryd.underlying28 lz)) ?_
  refine .nil ?_
  refine aw_keep [(14, _), (5, _), (4, _), (0, _), (1, _)] ⟨lg lz, lg (ls rfl (ls rfl oz)), lg (ls rfl (ls rfl (os rfl oz))), lg (ls rfl (ls rfl (os rfl (os rfl oz)))), lg (ls rfl (ls rfl (os rfl (os rfl (os rfl oz))))), trivial⟩ ?_
  refine aw_cond _ oz (fun hc => ?_) (fun hc => ?_)
  · skip
    refine aw_seq ?_
    refine aw_region (by decide) ?_
    refine rts _ rfl (opD_assign (ev_const _ _)) ?_
    refine .nil ?_
    refine aw_keep [(4, _), (14, _), (5, _), (0, _), (1, _)] ⟨lg lz, lg (ls rfl oz), lg (ls rfl (os rfl oz)), lg (ls rfl (os rfl (os rfl (os rfl oz)))), lg (ls rfl (os rfl (os rfl (os rfl (os rfl oz))))), trivial⟩ ?_
    refine aw_ret ?_
    exact done_ext (.inr rfl) ((res_1 rfl (eg oz)).le (le_nil rfl)) (sl_bnd (kI_bnd _ _ _ _))
  · skip
    exfalso; revert hc; simp

set_option maxRecDepth 100000 in
set_option maxHeartbeats 1000000 in
theorem nil_done : Pure Go.Proofs.Tryd.prog 26 [pl (.pointer none)] (pl (errV (some 3))) := by
  intro s
  refine ac_of_aw s.boxes.length s.fr.length Go.Proofs.Tryd.func26 rfl (by simp [Go.Proofs.Tryd.ntmps26]) ?_
  refine aw_ext0 ?_
  refine aw_keep [(0, _)] ⟨lg ez, trivial⟩ ?_
  refine aw_seq ?_
  refine aw_region (by decide) ?_
  refine rts _ rfl (opD_assign (ev_const _ _)) ?_
  refine .nil ?_
  refine aw_keep [(2, _), (0, _)] ⟨lg lz, lg (ls rfl oz), trivial⟩ ?_
  refine aw_seq ?_
  refine aw_seq ?_
  refine aw_region (by decide) ?_
  refine rts _ rfl (opD_move (os rfl oz)) ?_
  refine rts _ rfl ((by first | exact opD_ptr_eqnil Go.Proofs.Tryd.underlying28 lz | exact opD_nilp_eqnil Go.Proofs.Tryd.underlying28 lz)) ?_
  refine rts _ rfl (opD_move lz) ?_
  refine rtk ⟨5, rfl, .inl ⟨_, eg lz, rfl⟩⟩ ?_
  refine rtk ⟨5, rfl, .inl ⟨_, eg (ls rfl lz), rfl⟩⟩ ?_
  refine rtk ⟨5, rfl, .inl ⟨_, eg (ls rfl (ls rfl lz)), rfl⟩⟩ ?_
  refine rtk ⟨5, rfl, .inl ⟨_, eg (ls rfl (ls rfl (ls rfl lz))), rfl⟩⟩ ?_
  refine rts _ rfl (opD_pick (ls rfl (ls rfl (ls rfl (ls rfl lz)))) (fun h => by first | exact (ev_const _ _) | cases h) (fun h => by first | exact lz | cases h)) ?_
  refine rts _ rfl (opD_move lz) ?_
  refine rtk ⟨11, rfl, .inl ⟨_, eg lz, rfl⟩⟩ ?_
  refine rtk ⟨11, rfl, .inl ⟨_, eg (ls rfl lz), rfl⟩⟩ ?_
  refine rtk ⟨11, rfl, .inl ⟨_, eg (ls rfl (ls rfl lz)), rfl⟩⟩ ?_
  refine rtk ⟨11, rfl, .inl ⟨_, eg (ls rfl (ls rfl (ls rfl lz))), rfl⟩⟩ ?_
  refine rtk ⟨11, rfl, .inl ⟨_, eg (ls rfl (ls rfl (ls rfl (ls rfl lz)))), rfl⟩⟩ ?_
  refine rtk ⟨11, rfl, .inl ⟨_, eg (ls rfl (ls rfl (ls rfl (ls rfl (ls rfl lz))))), rfl⟩⟩ ?_
  refine rts _ rfl (opD_pick (ls rfl (ls rfl (ls rfl (ls rfl (ls rfl (ls rfl lz)))))) (fun h => by first | exact (ev_const _ _) | cases h) (fun h => by first | exact lz | cases h)) ?_
  refine .nil ?_
  refine aw_keep [(18, _), (2, _), (0, _)] ⟨lg lz, lg (ls rfl (ls rfl (ls rfl (ls rfl (ls rfl (ls rfl (ls rfl (ls rfl (ls rfl (ls rfl (ls rfl (ls rfl (ls rfl (ls rfl (ls rfl (ls rfl oz)))))))))))))))), lg (ls rfl (ls rfl (ls rfl (ls rfl (ls rfl (ls rfl (ls rfl (ls rfl (ls rfl (ls rfl (ls rfl (ls rfl (ls rfl (ls rfl (ls rfl (ls rfl (os rfl oz))))))))))))))))), trivial⟩ ?_
  refine aw_cond _ oz (fun hc => ?_) (fun hc => ?_)
  · skip
    refine aw_seq ?_
    refine aw_region (by decide) ?_
    refine rts _ rfl ((by first | exact opD_makeInterface_pl cc107 (ev_const _ _) | exact opD_makeInterface cc107 (ev_const _ _))) ?_
    refine rts _ rfl (opD_assign lz) ?_
    refine .nil ?_
    refine aw_keep [(2, _), (18, _), (0, _)] ⟨lg lz, lg (ls rfl (ls rfl oz)), lg (ls rfl (ls rfl (os rfl (os rfl oz)))), trivial⟩ ?_
    refine aw_ret ?_
    exact done_ext (.inr rfl) (res_1 rfl (eg oz)) (pl_bnd _ _ _)
  · skip
    exfalso; revert hc; simp
end Go.Proofs.YtmnhfpcbfdgbcaaDoor.Eng.Pb

