/- TSu: what the functions of one package do, walked; used by the laws of this seat. -/
import Derived.Test.YtmnhfpcbfdgbcaaDoorTEr
namespace Go.Proofs.YtmnhfpcbfdgbcaaDoor.Eng.Su06
set_option linter.unusedVariables false
set_option linter.unusedSimpArgs false
open Go.RowKit Go.Proofs.YtmnhfpcbfdgbcaaDoor.Plain Go.Proofs.YtmnhfpcbfdgbcaaDoor.Eng

theorem ht22 : hasText Go.Proofs.Tryd.prog 22 = true := by kernel_rfl
theorem ht19 : hasText Go.Proofs.Tryd.prog 19 = true := by kernel_rfl
theorem sz5 : sizeT Go.Proofs.Tryd.prog 5 = some 1 := by kernel_rfl
theorem zt5 : zeroT Go.Proofs.Tryd.prog 5 = some [.int .u8 0] := by kernel_rfl
theorem ht20 : hasText Go.Proofs.Tryd.prog 20 = true := by kernel_rfl
theorem ht21 : hasText Go.Proofs.Tryd.prog 21 = true := by kernel_rfl
theorem ht25 : hasText Go.Proofs.Tryd.prog 25 = true := by kernel_rfl
theorem ht24 : hasText Go.Proofs.Tryd.prog 24 = true := by kernel_rfl
theorem ht23 : hasText Go.Proofs.Tryd.prog 23 = true := by kernel_rfl
theorem ht26 : hasText Go.Proofs.Tryd.prog 26 = true := by kernel_rfl
theorem ht27 : hasText Go.Proofs.Tryd.prog 27 = true := by kernel_rfl

open Go.Proofs.YtmnhfpcbfdgbcaaDoor.Eng.Pk Go.Proofs.YtmnhfpcbfdgbcaaDoor.Eng.Rd Go.Proofs.YtmnhfpcbfdgbcaaDoor.Eng.Pb Go.Proofs.YtmnhfpcbfdgbcaaDoor.Eng.Er
theorem s_byte {s : St} {g : Nat} (hG : s.boxes[g]? = some (RdB [9, 2, 97, 98, 172, 2] false)) : AC Go.Proofs.Tryd.prog 25 [ptr g 0] s (pl (.int .u8 9)) (s.upd g (RdB [2, 97, 98, 172, 2] false)) := rd_byte hG
theorem s_bytes {s : St} {g : Nat} (hG : s.boxes[g]? = some (RdB [2, 97, 98, 172, 2] false)) : AC Go.Proofs.Tryd.prog 24 [ptr g 0, pl (.int .i64 2)] s (sl (kI .u8) none none [97, 98]) (s.upd g (RdB [172, 2] false)) := by
  have h := rd_bytes (most := 2) hG (by unfold Bts; decide) (by decide) (by decide)
  rw [rdBytesB, show rdBytes 2 [2, 97, 98, 172, 2] false = ([97, 98], [172, 2], false) from by decide +kernel] at h
  exact h
theorem s_num {s : St} {g : Nat} (hG : s.boxes[g]? = some (RdB [172, 2] false)) : AC Go.Proofs.Tryd.prog 23 [ptr g 0, pl (.int .u64 300)] s (pl (.int .u64 300)) (s.upd g (RdB [] false)) := by
  have h := rd_num (most := 300) hG (by unfold Bts; decide) (by decide) (by decide)
  rw [rdNumB, show rdNum 300 [172, 2] false = (300, [], false) from by decide +kernel] at h
  exact h
theorem s_done {s : St} {g : Nat} (hG : s.boxes[g]? = some (RdB [] false)) : AC Go.Proofs.Tryd.prog 26 [ptr g 0] s (pl .nilIface) (s.upd g (RdB [] false)) := by
  rw [upd_self hG]; exact rd_done hG
theorem s_byte2 {s : St} {g : Nat} (hG : s.boxes[g]? = some (RdB [] false)) : AC Go.Proofs.Tryd.prog 25 [ptr g 0] s (pl (.int .u8 0)) (s.upd g (RdB [] true)) := rd_byte hG
theorem s_done2 {s : St} {g : Nat} (hG : s.boxes[g]? = some (RdB [] true)) : AC Go.Proofs.Tryd.prog 26 [ptr g 0] s (pl (errV (some 3))) (s.upd g (RdB [] true)) := by
  rw [upd_self hG]; exact rd_done hG
theorem s_list : ([] ++ [(9 : Int)]) ++ (vb ([97, 98] : List Int).length ++ [97, 98]) ++ vb 300 = [9, 2, 97, 98, 172, 2] := by
  rw [vb_small (n := ([97, 98] : List Int).length) (by decide), vb_big (n := 300) (by decide), vb_small (n := 300 / 128) (by decide)]; decide

set_option maxRecDepth 100000 in
set_option maxHeartbeats 1000000 in
theorem sure06 {s : St} (hst : StGV s) : AC Go.Proofs.Tryd.prog 18 [] s (pl (.bool true)) s := by
  refine ac_of_aw s.boxes.length s.fr.length Go.Proofs.Tryd.func18 rfl (by simp [Go.Proofs.Tryd.ntmps18]) ?_
  refine aw_ext0 ?_
  refine aw_keep [] trivial ?_
  refine aw_seq ?_
  refine aw_region (by decide) ?_
  refine rts _ rfl (opD_assign (ev_const _ _)) ?_
  refine .nil ?_
  refine aw_keep [(0, _)] ⟨lg lz, trivial⟩ ?_
  refine aw_seq ?_
  refine aw_region (by decide) ?_
  refine rts _ rfl (opD_pure ht19 (own1_pure (pk_byte (by decide)) (kI_bnd _ _ _ _)) ⟨le_nil (ev_const _ _), le_of_eq (ev_const _ _), trivial⟩) ?_
  refine rts _ rfl (opD_buildSliceF (k := kI .u8) [_, _] Go.Proofs.Tryd.underlying23 sz5 zt5 (by decide) rfl (parts_cons (cells1 (ev_const _ _) (by first | exact one_pl rfl | exact one_sl _ _ _ _ | exact one_ptr _ _ | exact one_ifc _ _)) (parts_cons (cells1 (ev_const _ _) (by first | exact one_pl rfl | exact one_sl _ _ _ _ | exact one_ptr _ _ | exact one_ifc _ _)) parts_nil)) rfl rfl) ?_
  refine rts _ rfl (opD_conv_same Go.Proofs.Tryd.underlying23 Go.Proofs.Tryd.underlying5 lz) ?_
  refine rts _ rfl (opD_pure ht20 (own1_pure (pk_bytes (by decide)) (kI_bnd _ _ _ _)) ⟨le_sl (ls rfl (ls rfl lz)), le_sl lz, trivial⟩) ?_
  refine rts _ rfl (opD_pure ht21 (own1_pure (pk_num (n := 300) (by have := vb_len10 (n := ([97, 98] : List Int).length) (by decide); simp only [List.length_append] at *; simp only [List.length_cons, List.length_nil] at *; omega) (by decide)) (kI_bnd _ _ _ _)) ⟨le_sl lz, le_of_eq (ev_const _ _), trivial⟩) ?_
  refine rts _ rfl (opD_callN ht22 (fun s => rd_new (l := [9, 2, 97, 98, 172, 2]) (by decide) s) ⟨(le_sl lz).trans (sl_to rfl s_list), trivial⟩ (by first | exact List.length_nil | (simp only [List.length_cons, List.length_nil, Nat.zero_add, Nat.reduceAdd]; rfl)) (by simp only [List.nil_append, List.cons_append, List.map_cons, List.map_nil, List.set_cons_zero, List.set_cons_succ, List.take_succ_cons, List.take_zero, List.drop_succ_cons, List.drop_zero]; rfl)) ?_
  refine rts _ rfl (opD_assign lz) ?_
  refine .nil ?_
  refine aw_keep [(1, _), (0, _)] ⟨lg lz, lg (ls rfl (ls rfl (ls rfl (ls rfl (ls rfl (ls rfl (ls rfl oz))))))), trivial⟩ ?_
  refine aw_seq ?_
  refine aw_region (by decide) ?_
  refine rts _ rfl (opD_move oz) ?_
  refine rts _ rfl (opD_callL ht25 (fun s g h => s_byte h) rfl ⟨le_of_eq lz, trivial⟩ (by simp only [List.nil_append, List.cons_append, List.map_cons, List.map_nil, List.set_cons_zero, List.set_cons_succ, List.take_succ_cons, List.take_zero, List.drop_succ_cons, List.drop_zero]; rfl)) ?_
  refine rts _ rfl (opD_move (ls rfl (ls rfl oz))) ?_
  refine rts _ rfl (opD_callL ht24 (fun s g h => s_bytes h) rfl ⟨le_of_eq lz, le_of_eq (ev_const _ _), trivial⟩ (by simp only [List.nil_append, List.cons_append, List.map_cons, List.map_nil, List.set_cons_zero, List.set_cons_succ, List.take_succ_cons, List.take_zero, List.drop_succ_cons, List.drop_zero]; rfl)) ?_
  refine rts _ rfl (opD_move (ls rfl (ls rfl (ls rfl (ls rfl oz))))) ?_
  refine rts _ rfl (opD_callL ht23 (fun s g h => s_num h) rfl ⟨le_of_eq lz, le_of_eq (ev_const _ _), trivial⟩ (by simp only [List.nil_append, List.cons_append, List.map_cons, List.map_nil, List.set_cons_zero, List.set_cons_succ, List.take_succ_cons, List.take_zero, List.drop_succ_cons, List.drop_zero]; rfl)) ?_
  refine rts _ rfl (opD_move (ls rfl (ls rfl (ls rfl (ls rfl (ls rfl (ls rfl oz))))))) ?_
  refine rts _ rfl (opD_callL ht26 (fun s g h => s_done h) rfl ⟨le_of_eq lz, trivial⟩ (by simp only [List.nil_append, List.cons_append, List.map_cons, List.map_nil, List.set_cons_zero, List.set_cons_succ, List.take_succ_cons, List.take_zero, List.drop_succ_cons, List.drop_zero]; rfl)) ?_
  refine rts _ rfl (opD_assign (ls rfl (ls rfl (ls rfl (ls rfl (ls rfl (ls rfl lz))))))) ?_
  refine rts _ rfl (opD_assign (ls rfl (ls rfl (ls rfl (ls rfl (ls rfl lz)))))) ?_
  refine rts _ rfl (opD_assign (ls rfl (ls rfl (ls rfl (ls rfl lz))))) ?_
  refine rts _ rfl (opD_assign (ls rfl (ls rfl (ls rfl lz)))) ?_
  refine .nil ?_
  refine aw_keep [(5, _), (4, _), (3, _), (2, _), (1, _), (0, _)] ⟨lg lz, lg (ls rfl lz), lg (ls rfl (ls rfl lz)), lg (ls rfl (ls rfl (ls rfl lz))), lg (ls rfl (ls rfl (ls rfl (ls rfl (ls rfl (ls rfl (ls rfl (ls rfl (ls rfl (ls rfl (ls rfl (ls rfl oz)))))))))))), lg (ls rfl (ls rfl (ls rfl (ls rfl (ls rfl (ls rfl (ls rfl (ls rfl (ls rfl (ls rfl (ls rfl (ls rfl (os rfl oz))))))))))))), trivial⟩ ?_
  refine aw_seq ?_
  refine aw_region (by decide) ?_
  refine rts _ rfl (opD_move (os rfl (os rfl (os rfl (os rfl oz))))) ?_
  refine rts _ rfl (opD_callL ht25 (fun s g h => s_byte2 h) rfl ⟨le_of_eq lz, trivial⟩ (by simp only [List.nil_append, List.cons_append, List.map_cons, List.map_nil, List.set_cons_zero, List.set_cons_succ, List.take_succ_cons, List.take_zero, List.drop_succ_cons, List.drop_zero]; rfl)) ?_
  refine rts _ rfl (opD_move (ls rfl (ls rfl (os rfl (os rfl (os rfl (os rfl oz))))))) ?_
  refine rts _ rfl (opD_callL ht26 (fun s g h => s_done2 h) rfl ⟨le_of_eq lz, trivial⟩ (by simp only [List.nil_append, List.cons_append, List.map_cons, List.map_nil, List.set_cons_zero, List.set_cons_succ, List.take_succ_cons, List.take_zero, List.drop_succ_cons, List.drop_zero]; rfl)) ?_
  refine rts _ rfl (opD_assign (ls rfl (ls rfl lz))) ?_
  refine rts _ rfl (opD_assign (ls rfl lz)) ?_
  refine .nil ?_
  refine aw_keep [(7, _), (6, _), (5, _), (4, _), (3, _), (2, _), (1, _), (0, _)] ⟨lg lz, lg (ls rfl lz), lg (ls rfl (ls rfl (ls rfl (ls rfl (ls rfl (ls rfl oz)))))), lg (ls rfl (ls rfl (ls rfl (ls rfl (ls rfl (ls rfl (os rfl oz))))))), lg (ls rfl (ls rfl (ls rfl (ls rfl (ls rfl (ls rfl (os rfl (os rfl oz)))))))), lg (ls rfl (ls rfl (ls rfl (ls rfl (ls rfl (ls rfl (os rfl (os rfl (os rfl oz))))))))), lg (ls rfl (ls rfl (ls rfl (ls rfl (ls rfl (ls rfl (os rfl (os rfl (os rfl (os rfl oz)))))))))), lg (ls rfl (ls rfl (ls rfl (ls rfl (ls rfl (ls rfl (os rfl (os rfl (os rfl (os rfl (os rfl oz))))))))))), trivial⟩ ?_
  refine aw_seq ?_
  refine aw_region (by decide) ?_
  refine rts _ rfl (opD_move (os rfl (os rfl (os rfl (os rfl (os rfl oz)))))) ?_
  refine rts _ rfl (opD_eql lz (ev_const _ _)) ?_
  refine rts _ rfl (opD_move lz) ?_
  refine rtg _ rfl lz (fun hg4_3 => by
      have hg4_3' := hg4_3
      try simp only [beq_iff_eq, decide_eq_true_eq, decide_eq_false_iff_not, Bool.and_eq_true, Bool.or_eq_true, Bool.or_eq_false_iff, Bool.and_eq_false_iff] at hg4_3'
      exact opD_move (ls rfl (ls rfl (ls rfl (os rfl (os rfl (os rfl (os rfl oz)))))))) ?_
  refine rtg _ rfl (ls rfl lz) (fun hg4_4 => by
      have hg4_4' := hg4_4
      try simp only [beq_iff_eq, decide_eq_true_eq, decide_eq_false_iff_not, Bool.and_eq_true, Bool.or_eq_true, Bool.or_eq_false_iff, Bool.and_eq_false_iff] at hg4_4'
      exact opD_bytes_str Go.Proofs.Tryd.underlying23 Go.Proofs.Tryd.underlying5 Go.Proofs.Tryd.underlying9 (lz.trans (pif_pos hg4_4))) ?_
  refine rtg _ rfl (ls rfl (ls rfl lz)) (fun hg4_5 => by
      have hg4_5' := hg4_5
      try simp only [beq_iff_eq, decide_eq_true_eq, decide_eq_false_iff_not, Bool.and_eq_true, Bool.or_eq_true, Bool.or_eq_false_iff, Bool.and_eq_false_iff] at hg4_5'
      exact opD_seql (lz.trans (pif_pos hg4_5)) (ev_const _ _)) ?_
  refine rts _ rfl (opD_and (ls rfl (ls rfl (ls rfl lz))) lz) ?_
  refine rts _ rfl (opD_move lz) ?_
  refine rtg _ rfl lz (fun hg4_8 => by
      have hg4_8' := hg4_8
      try simp only [beq_iff_eq, decide_eq_true_eq, decide_eq_false_iff_not, Bool.and_eq_true, Bool.or_eq_true, Bool.or_eq_false_iff, Bool.and_eq_false_iff] at hg4_8'
      exact opD_move (ls rfl (ls rfl (ls rfl (ls rfl (ls rfl (ls rfl (ls rfl (ls rfl (os rfl (os rfl (os rfl oz)))))))))))) ?_
  refine rtg _ rfl (ls rfl lz) (fun hg4_9 => by
      have hg4_9' := hg4_9
      try simp only [beq_iff_eq, decide_eq_true_eq, decide_eq_false_iff_not, Bool.and_eq_true, Bool.or_eq_true, Bool.or_eq_false_iff, Bool.and_eq_false_iff] at hg4_9'
      exact opD_eql (lz.trans (pif_pos hg4_9)) (ev_const _ _)) ?_
  refine rts _ rfl (opD_and (ls rfl (ls rfl lz)) lz) ?_
  refine rts _ rfl (opD_move lz) ?_
  refine rtg _ rfl lz (fun hg4_12 => by
      have hg4_12' := hg4_12
      try simp only [beq_iff_eq, decide_eq_true_eq, decide_eq_false_iff_not, Bool.and_eq_true, Bool.or_eq_true, Bool.or_eq_false_iff, Bool.and_eq_false_iff] at hg4_12'
      exact opD_move (ls rfl (ls rfl (ls rfl (ls rfl (ls rfl (ls rfl (ls rfl (ls rfl (ls rfl (ls rfl (ls rfl (ls rfl (os rfl (os rfl oz))))))))))))))) ?_
  refine rtg _ rfl (ls rfl lz) (fun hg4_13 => by
      have hg4_13' := hg4_13
      try simp only [beq_iff_eq, decide_eq_true_eq, decide_eq_false_iff_not, Bool.and_eq_true, Bool.or_eq_true, Bool.or_eq_false_iff, Bool.and_eq_false_iff] at hg4_13'
      exact opD_bin (r := .bool true) (lz.trans (pif_pos hg4_13)) (ev_const _ _) (fun w => by simp [go_sem]) (fun w => by simp [go_sem])) ?_
  refine rts _ rfl (opD_and (ls rfl (ls rfl lz)) lz) ?_
  refine rts _ rfl (opD_move lz) ?_
  refine rtg _ rfl lz (fun hg4_16 => by
      have hg4_16' := hg4_16
      try simp only [beq_iff_eq, decide_eq_true_eq, decide_eq_false_iff_not, Bool.and_eq_true, Bool.or_eq_true, Bool.or_eq_false_iff, Bool.and_eq_false_iff] at hg4_16'
      exact opD_move (ls rfl (ls rfl (ls rfl (ls rfl (ls rfl (ls rfl (ls rfl (ls rfl (ls rfl (ls rfl (ls rfl (ls rfl (ls rfl (ls rfl (ls rfl (ls rfl (os rfl oz)))))))))))))))))) ?_
  refine rtg _ rfl (ls rfl lz) (fun hg4_17 => by
      have hg4_17' := hg4_17
      try simp only [beq_iff_eq, decide_eq_true_eq, decide_eq_false_iff_not, Bool.and_eq_true, Bool.or_eq_true, Bool.or_eq_false_iff, Bool.and_eq_false_iff] at hg4_17'
      exact opD_eql (lz.trans (pif_pos hg4_17)) (ev_const _ _)) ?_
  refine rts _ rfl (opD_and (ls rfl (ls rfl lz)) lz) ?_
  refine rts _ rfl (opD_move lz) ?_
  refine rtg _ rfl lz (fun hg4_20 => by
      have hg4_20' := hg4_20
      try simp only [beq_iff_eq, decide_eq_true_eq, decide_eq_false_iff_not, Bool.and_eq_true, Bool.or_eq_true, Bool.or_eq_false_iff, Bool.and_eq_false_iff] at hg4_20'
      exact opD_move (ls rfl (ls rfl (ls rfl (ls rfl (ls rfl (ls rfl (ls rfl (ls rfl (ls rfl (ls rfl (ls rfl (ls rfl (ls rfl (ls rfl (ls rfl (ls rfl (ls rfl (ls rfl (ls rfl (ls rfl oz))))))))))))))))))))) ?_
  refine rtg _ rfl (ls rfl lz) (fun hg4_21 => by
      have hg4_21' := hg4_21
      try simp only [beq_iff_eq, decide_eq_true_eq, decide_eq_false_iff_not, Bool.and_eq_true, Bool.or_eq_true, Bool.or_eq_false_iff, Bool.and_eq_false_iff] at hg4_21'
      exact opD_call ht27 (num06 (o := some 3) hst) ⟨le_of_eq (lz.trans (pif_pos hg4_21)), trivial⟩) ?_
  refine rtg _ rfl (ls rfl (ls rfl lz)) (fun hg4_22 => by
      have hg4_22' := hg4_22
      try simp only [beq_iff_eq, decide_eq_true_eq, decide_eq_false_iff_not, Bool.and_eq_true, Bool.or_eq_true, Bool.or_eq_false_iff, Bool.and_eq_false_iff] at hg4_22'
      exact opD_eql (lz.trans (pif_pos hg4_22)) (ev_const _ _)) ?_
  refine rts _ rfl (opD_and (ls rfl (ls rfl (ls rfl lz))) lz) ?_
  refine rts _ rfl (opD_assign lz) ?_
  refine .nil ?_
  refine aw_keep [(0, _), (7, _), (6, _), (5, _), (4, _), (3, _), (2, _), (1, _)] ⟨lg lz, lg (ls rfl (ls rfl (ls rfl (ls rfl (ls rfl (ls rfl (ls rfl (ls rfl (ls rfl (ls rfl (ls rfl (ls rfl (ls rfl (ls rfl (ls rfl (ls rfl (ls rfl (ls rfl (ls rfl (ls rfl (ls rfl (ls rfl (ls rfl (ls rfl (ls rfl oz))))))))))))))))))))))))), lg (ls rfl (ls rfl (ls rfl (ls rfl (ls rfl (ls rfl (ls rfl (ls rfl (ls rfl (ls rfl (ls rfl (ls rfl (ls rfl (ls rfl (ls rfl (ls rfl (ls rfl (ls rfl (ls rfl (ls rfl (ls rfl (ls rfl (ls rfl (ls rfl (ls rfl (os rfl oz)))))))))))))))))))))))))), lg (ls rfl (ls rfl (ls rfl (ls rfl (ls rfl (ls rfl (ls rfl (ls rfl (ls rfl (ls rfl (ls rfl (ls rfl (ls rfl (ls rfl (ls rfl (ls rfl (ls rfl (ls rfl (ls rfl (ls rfl (ls rfl (ls rfl (ls rfl (ls rfl (ls rfl (os rfl (os rfl oz))))))))))))))))))))))))))), lg (ls rfl (ls rfl (ls rfl (ls rfl (ls rfl (ls rfl (ls rfl (ls rfl (ls rfl (ls rfl (ls rfl (ls rfl (ls rfl (ls rfl (ls rfl (ls rfl (ls rfl (ls rfl (ls rfl (ls rfl (ls rfl (ls rfl (ls rfl (ls rfl (ls rfl (os rfl (os rfl (os rfl oz)))))))))))))))))))))))))))), lg (ls rfl (ls rfl (ls rfl (ls rfl (ls rfl (ls rfl (ls rfl (ls rfl (ls rfl (ls rfl (ls rfl (ls rfl (ls rfl (ls rfl (ls rfl (ls rfl (ls rfl (ls rfl (ls rfl (ls rfl (ls rfl (ls rfl (ls rfl (ls rfl (ls rfl (os rfl (os rfl (os rfl (os rfl oz))))))))))))))))))))))))))))), lg (ls rfl (ls rfl (ls rfl (ls rfl (ls rfl (ls rfl (ls rfl (ls rfl (ls rfl (ls rfl (ls rfl (ls rfl (ls rfl (ls rfl (ls rfl (ls rfl (ls rfl (ls rfl (ls rfl (ls rfl (ls rfl (ls rfl (ls rfl (ls rfl (ls rfl (os rfl (os rfl (os rfl (os rfl (os rfl oz)))))))))))))))))))))))))))))), lg (ls rfl (ls rfl (ls rfl (ls rfl (ls rfl (ls rfl (ls rfl (ls rfl (ls rfl (ls rfl (ls rfl (ls rfl (ls rfl (ls rfl (ls rfl (ls rfl (ls rfl (ls rfl (ls rfl (ls rfl (ls rfl (ls rfl (ls rfl (ls rfl (ls rfl (os rfl (os rfl (os rfl (os rfl (os rfl (os rfl oz))))))))))))))))))))))))))))))), trivial⟩ ?_
  refine aw_ret ?_
  exact done_ext (.inr rfl) ((res_1 rfl (eg oz)).le (le_of_eq (congrArg (fun b => pl (.bool b)) (by decide +kernel)))) (pl_bnd _ _ _)
end Go.Proofs.YtmnhfpcbfdgbcaaDoor.Eng.Su06

