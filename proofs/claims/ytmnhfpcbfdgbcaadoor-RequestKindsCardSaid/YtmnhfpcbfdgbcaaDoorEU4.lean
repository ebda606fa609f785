/- EU4: what functions do, walked; used by the laws of this seat. -/
import Derived.Test.YtmnhfpcbfdgbcaaDoorEU3
import Derived.Test.YtmnhfpcbfdgbcaaDoorEW2
namespace Go.Proofs.YtmnhfpcbfdgbcaaDoor.Eng.A
set_option linter.unusedVariables false
set_option linter.unusedSimpArgs false
open Go.RowKit Go.Proofs.YtmnhfpcbfdgbcaaDoor.Plain Go.Proofs.YtmnhfpcbfdgbcaaDoor.Eng Go.Proofs.YtmnhfpcbfdgbcaaDoor.Eng.Pk Go.Proofs.YtmnhfpcbfdgbcaaDoor.Eng.Rd

theorem pt118_U5 : placesT Go.Proofs.Tryd.prog 118 10 = some [(0, 1), (1, 1), (2, 1), (3, 2), (5, 1), (6, 1), (7, 1), (8, 1), (9, 1), (10, 1)] := by kernel_rfl
theorem zt118_U5 : zeroT Go.Proofs.Tryd.prog 118 = some [.int .u8 0, .int .u64 0, .int .u64 0, .int .i64 0, .int .u64 0, .int .u64 0, .string ⟨#[]⟩, .string ⟨#[]⟩, .int .u8 0, .int .u64 0, .bool false] := by kernel_rfl
theorem ht63_U5 : hasText Go.Proofs.Tryd.prog 63 = true := by kernel_rfl
theorem ht66_U5 : hasText Go.Proofs.Tryd.prog 66 = true := by kernel_rfl
theorem sz118_U5 : sizeT Go.Proofs.Tryd.prog 118 = some 11 := by kernel_rfl
theorem fo118_1_U5 : fieldOff Go.Proofs.Tryd.prog 118 1 = some 1 := by kernel_rfl
theorem ag22_U5 : aggT Go.Proofs.Tryd.prog 22 = some false := by kernel_rfl
theorem fo118_9_U5 : fieldOff Go.Proofs.Tryd.prog 118 9 = some 10 := by kernel_rfl
theorem ag4_U5 : aggT Go.Proofs.Tryd.prog 4 = some false := by kernel_rfl
theorem ht68_U5 : hasText Go.Proofs.Tryd.prog 68 = true := by kernel_rfl
theorem ht69_U5 : hasText Go.Proofs.Tryd.prog 69 = true := by kernel_rfl
theorem fo114_5_U5 : fieldOff Go.Proofs.Tryd.prog 114 5 = some 6 := by kernel_rfl
theorem ag9_U5 : aggT Go.Proofs.Tryd.prog 9 = some false := by kernel_rfl
theorem fo114_6_U5 : fieldOff Go.Proofs.Tryd.prog 114 6 = some 7 := by kernel_rfl
theorem ht62_U5 : hasText Go.Proofs.Tryd.prog 62 = true := by kernel_rfl
theorem ag114_U5 : aggT Go.Proofs.Tryd.prog 114 = some true := by kernel_rfl
theorem sz114_U5 : sizeT Go.Proofs.Tryd.prog 114 = some 11 := by kernel_rfl
theorem ht64_U5 : hasText Go.Proofs.Tryd.prog 64 = true := by kernel_rfl
theorem ht65_U5 : hasText Go.Proofs.Tryd.prog 65 = true := by kernel_rfl
theorem ht67_U5 : hasText Go.Proofs.Tryd.prog 67 = true := by kernel_rfl
theorem zt114_U5 : zeroT Go.Proofs.Tryd.prog 114 = some [.int .u8 0, .int .u64 0, .int .u64 0, .int .i64 0, .int .u64 0, .int .u64 0, .string ⟨#[]⟩, .string ⟨#[]⟩, .int .u8 0, .int .u64 0, .bool false] := by kernel_rfl
theorem ag118_U5 : aggT Go.Proofs.Tryd.prog 118 = some true := by kernel_rfl
theorem ht70_U5 : hasText Go.Proofs.Tryd.prog 70 = true := by kernel_rfl
theorem ht71_U5 : hasText Go.Proofs.Tryd.prog 71 = true := by kernel_rfl
theorem ht72_U5 : hasText Go.Proofs.Tryd.prog 72 = true := by kernel_rfl
theorem mixed_U5 : Go.Proofs.Tryd.prog.follows .mixedOrders = true := by kernel_rfl

open Go.Proofs.YtmnhfpcbfdgbcaaDoor.Eng.Er Go.Proofs.YtmnhfpcbfdgbcaaDoor.Eng.Er2

def oNumE (o : Option Int) : Option Int := some (numV o)

theorem c_num35 {p0 : Option Int} {R : Int} {s : St} (h0 : oNumE p0 = some R) (hst : StGV s) : AC Go.Proofs.Tryd.prog 68 [pl (errV p0)] s (pl (.int .i64 R)) s := by obtain rfl := some_of h0; exact num35 hst

def F_sure35 (fl : Nat) : Option (Bool) :=
  bnd (F_qenc fl (⟨1, 7, 0, (⟨0, 0⟩ : Rf), 0, ⟨#[]⟩, ⟨#[]⟩, 0, 0, true⟩ : Rq)) fun x_1 => bnd (F_qdec fl x_1.1) fun x_2 => bnd (F_qdec fl []) fun x_3 => bnd (F_qenc fl (⟨7, 0, 0, (⟨0, 0⟩ : Rf), 0, ⟨#[97]⟩, ⟨#[]⟩, 0, 0, false⟩ : Rq)) fun x_4 => bnd (gif (((((x_1.2.isNone && x_2.2.isNone) && (decide ((strOf x_1.1) = ⟨#[1, 7, 1]⟩))) && (decide (x_2.1.Space = 7))) && x_2.1.Flag) == true) (oNumE x_3.2)) fun x_5 => bnd (gif ((((((x_1.2.isNone && x_2.2.isNone) && (decide ((strOf x_1.1) = ⟨#[1, 7, 1]⟩))) && (decide (x_2.1.Space = 7))) && x_2.1.Flag) && (decide (x_5 = 3))) == true) (oNumE x_4.2)) fun x_6 => bnd (gif (((((((x_1.2.isNone && x_2.2.isNone) && (decide ((strOf x_1.1) = ⟨#[1, 7, 1]⟩))) && (decide (x_2.1.Space = 7))) && x_2.1.Flag) && (decide (x_5 = 3))) && (decide (x_6 = 1))) == true) (F_qform 12)) fun x_7 => bnd (gif ((((((((x_1.2.isNone && x_2.2.isNone) && (decide ((strOf x_1.1) = ⟨#[1, 7, 1]⟩))) && (decide (x_2.1.Space = 7))) && x_2.1.Flag) && (decide (x_5 = 3))) && (decide (x_6 = 1))) && (decide (x_7 = ⟨#[115, 99, 109]⟩))) == true) (F_qform 13)) fun x_8 => some ((((((((x_1.2.isNone && x_2.2.isNone) && (decide ((strOf x_1.1) = ⟨#[1, 7, 1]⟩))) && (decide (x_2.1.Space = 7))) && x_2.1.Flag) && (decide (x_5 = 3))) && (decide (x_6 = 1))) && (decide (x_7 = ⟨#[115, 99, 109]⟩))) && (decide (x_8 = ⟨#[]⟩)))
set_option maxRecDepth 100000 in
set_option maxHeartbeats 2000000 in
theorem c_sure35 {fl : Nat} {R : Bool} {s : St} (h0 : F_sure35 fl = some R) (hst : StGV s) : AC Go.Proofs.Tryd.prog 62 [] s (pl (.bool R)) s := by
  unfold F_sure35 at h0
  refine ac_of_aw s.boxes.length s.fr.length Go.Proofs.Tryd.func62 rfl (by simp [Go.Proofs.Tryd.ntmps62]) ?_
  refine aw_ext0 ?_
  refine aw_keep [] trivial ?_
  refine aw_seq ?_
  refine aw_region (by decide) ?_
  refine rts _ rfl (opD_assign (ev_const _ _)) ?_
  refine .nil ?_
  refine aw_keep [] trivial ?_
  refine aw_seq ?_
  refine aw_region (by decide) ?_
  refine rts _ rfl (opD_build_struct (rs := [_, _, _, _, _, _, _, _, _, _, _]) Go.Proofs.Tryd.underlying118 pt118_U5 zt118_U5 (parts_cons (cells1 (ev_const _ _) (one_pl rfl)) (parts_cons (cells1 (ev_const _ _) (one_pl rfl)) (parts_cons (cells1 (ev_const _ _) (one_pl rfl)) parts_nil))) (fill_step rfl (by rfl) (by rfl) (by simp only [na, nb, nl, nc, nd, nh, ni, nj, nk, nm, Nat.reduceAdd] <;> rfl) (fill_step rfl (by rfl) (by rfl) (by simp only [na, nb, nl, nc, nd, nh, ni, nj, nk, nm, Nat.reduceAdd] <;> rfl) (fill_step rfl (by rfl) (by rfl) (by simp only [na, nb, nl, nc, nd, nh, ni, nj, nk, nm, Nat.reduceAdd] <;> rfl) fill_nil)))) ?_
  replace h0 := bnd_some h0
  obtain ⟨x_1, hx_1, h0⟩ := h0
  refine rts _ rfl (opD_pure ht63_U5 (c_qenc hx_1) ⟨(le_of_eq lz).trans (agg_le ⟨(Pd.le_refl _), (Pd.le_refl _), (Pd.le_refl _), (Pd.le_refl _), (Pd.le_refl _), (Pd.le_refl _), (Pd.le_refl _), (Pd.le_refl _), (Pd.le_refl _), (Pd.le_refl _), (Pd.le_refl _), trivial⟩), trivial⟩) ?_
  refine rts _ rfl (opD_move lz) ?_
  refine rts _ rfl (opD_extract lz rfl) ?_
  refine rts _ rfl (opD_extract (ls rfl lz) rfl) ?_
  refine rts _ rfl (opD_assign (ls rfl lz)) ?_
  refine rts _ rfl (opD_assign (ls rfl lz)) ?_
  refine .nil ?_
  refine aw_keep [(1, _), (2, _)] ⟨lg (ls rfl lz), lg lz, trivial⟩ ?_
  refine aw_seq ?_
  refine aw_region (by decide) ?_
  refine rts _ rfl (opD_move oz) ?_
  replace h0 := bnd_some h0
  obtain ⟨x_2, hx_2, h0⟩ := h0
  refine rts _ rfl (opD_pure ht66_U5 (c_qdec hx_2) ⟨le_of_eq lz, trivial⟩) ?_
  refine rts _ rfl (opD_move lz) ?_
  refine rts _ rfl (opD_extract lz rfl) ?_
  refine rts _ rfl (opD_extract (ls rfl lz) rfl) ?_
  refine rts _ rfl (allocN rfl zt118_U5 (by first | exact List.length_nil | (simp only [List.length_cons, List.length_nil, Nat.zero_add, Nat.reduceAdd] <;> rfl)) (by simp only [na, nb, nc, nd, nf, ng, nh, ni, nj, nk] <;> rfl)) ?_
  refine rts _ rfl (storeAN rfl sz118_U5 lz (ls rfl (ls rfl lz)) (ones_cons (one_pl rfl) (ones_cons (one_pl rfl) (ones_cons (one_pl rfl) (ones_cons (one_pl rfl) (ones_cons (one_pl rfl) (ones_cons (one_pl rfl) (ones_cons (one_pl rfl) (ones_cons (one_pl rfl) (ones_cons (one_pl rfl) (ones_cons (one_pl rfl) (ones_cons (one_pl rfl) ones_nil))))))))))) rfl rfl (Nat.le_of_ble_eq_true rfl) (List.cons_ne_nil _ _) (bnd_cons (pl_bnd _ _ _) (bnd_cons (pl_bnd _ _ _) (bnd_cons (pl_bnd _ _ _) (bnd_cons (pl_bnd _ _ _) (bnd_cons (pl_bnd _ _ _) (bnd_cons (pl_bnd _ _ _) (bnd_cons (pl_bnd _ _ _) (bnd_cons (pl_bnd _ _ _) (bnd_cons (pl_bnd _ _ _) (bnd_cons (pl_bnd _ _ _) (bnd_cons (pl_bnd _ _ _) bnd_nil))))))))))) (by simp only [na, nb, nc, nd, nf, ng, nh, ni, nj, nk] <;> rfl) (by simp only [na, nb, nc, nd, nf, ng, nh, ni, nj, nk] <;> rfl)) ?_
  refine rts _ rfl (opD_assign (lx (ls rfl lz))) ?_
  refine .nil ?_
  refine aw_keep [(1, _), (2, _), (3, _), (4, _)] ⟨lg (ls rfl (lx (ls rfl (ls rfl (ls rfl (ls rfl (ls rfl (ls rfl oz)))))))), lg (ls rfl (lx (ls rfl (ls rfl (ls rfl (ls rfl (ls rfl (ls rfl (os rfl oz))))))))), lg (ls rfl (lx lz)), lg lz, trivial⟩ ?_
  refine aw_seq ?_
  refine aw_region (by decide) ?_
  replace h0 := bnd_some h0
  obtain ⟨x_3, hx_3, h0⟩ := h0
  refine rts _ rfl (opD_pure ht66_U5 (c_qdec hx_3) ⟨(le_of_eq (ev_const _ _)).trans (le_nil rfl), trivial⟩) ?_
  refine rts _ rfl (opD_move lz) ?_
  refine rts _ rfl (opD_extract lz rfl) ?_
  refine rts _ rfl (opD_extract (ls rfl lz) rfl) ?_
  refine rts _ rfl (allocN rfl zt118_U5 (by first | exact List.length_nil | (simp only [List.length_cons, List.length_nil, Nat.zero_add, Nat.reduceAdd] <;> rfl)) (by simp only [na, nb, nc, nd, nf, ng, nh, ni, nj, nk] <;> rfl)) ?_
  refine rts _ rfl (storeAN rfl sz118_U5 lz (ls rfl (ls rfl lz)) (ones_cons (one_pl rfl) (ones_cons (one_pl rfl) (ones_cons (one_pl rfl) (ones_cons (one_pl rfl) (ones_cons (one_pl rfl) (ones_cons (one_pl rfl) (ones_cons (one_pl rfl) (ones_cons (one_pl rfl) (ones_cons (one_pl rfl) (ones_cons (one_pl rfl) (ones_cons (one_pl rfl) ones_nil))))))))))) rfl rfl (Nat.le_of_ble_eq_true rfl) (List.cons_ne_nil _ _) (bnd_cons (pl_bnd _ _ _) (bnd_cons (pl_bnd _ _ _) (bnd_cons (pl_bnd _ _ _) (bnd_cons (pl_bnd _ _ _) (bnd_cons (pl_bnd _ _ _) (bnd_cons (pl_bnd _ _ _) (bnd_cons (pl_bnd _ _ _) (bnd_cons (pl_bnd _ _ _) (bnd_cons (pl_bnd _ _ _) (bnd_cons (pl_bnd _ _ _) (bnd_cons (pl_bnd _ _ _) bnd_nil))))))))))) (by simp only [na, nb, nc, nd, nf, ng, nh, ni, nj, nk] <;> rfl) (by simp only [na, nb, nc, nd, nf, ng, nh, ni, nj, nk] <;> rfl)) ?_
  refine rts _ rfl (opD_assign (lx (ls rfl lz))) ?_
  refine .nil ?_
  refine aw_keep [(1, _), (2, _), (3, _), (4, _), (6, _)] ⟨lg (ls rfl (lx (ls rfl (ls rfl (ls rfl (ls rfl (ls rfl oz))))))), lg (ls rfl (lx (ls rfl (ls rfl (ls rfl (ls rfl (ls rfl (os rfl oz)))))))), lg (ls rfl (lx (ls rfl (ls rfl (ls rfl (ls rfl (ls rfl (os rfl (os rfl oz))))))))), lg (ls rfl (lx (ls rfl (ls rfl (ls rfl (ls rfl (ls rfl (os rfl (os rfl (os rfl oz)))))))))), lg lz, trivial⟩ ?_
  refine aw_seq ?_
  refine aw_region (by decide) ?_
  refine rts _ rfl (opD_build_struct (rs := [_, _, _, _, _, _, _, _, _, _, _]) Go.Proofs.Tryd.underlying118 pt118_U5 zt118_U5 (parts_cons (cells1 (ev_const _ _) (one_pl rfl)) (parts_cons (cells1 (ev_const _ _) (one_pl rfl)) parts_nil)) rfl) ?_
  replace h0 := bnd_some h0
  obtain ⟨x_4, hx_4, h0⟩ := h0
  refine rts _ rfl (opD_pure ht63_U5 (c_qenc hx_4) ⟨(le_of_eq lz).trans (agg_le ⟨(Pd.le_refl _), (Pd.le_refl _), (Pd.le_refl _), (Pd.le_refl _), (Pd.le_refl _), (Pd.le_refl _), (Pd.le_refl _), (Pd.le_refl _), (Pd.le_refl _), (Pd.le_refl _), (Pd.le_refl _), trivial⟩), trivial⟩) ?_
  refine rts _ rfl (opD_move lz) ?_
  refine rts _ rfl (opD_extract lz rfl) ?_
  refine rts _ rfl (opD_extract (ls rfl lz) rfl) ?_
  refine rts _ rfl (opD_assign (ls rfl lz)) ?_
  refine rts _ rfl (opD_assign (ls rfl lz)) ?_
  refine .nil ?_
  refine aw_keep [(1, _), (2, _), (3, _), (4, _), (6, _), (8, _)] ⟨lg (ls rfl (ls rfl (ls rfl (ls rfl (ls rfl (ls rfl (ls rfl oz))))))), lg (ls rfl (ls rfl (ls rfl (ls rfl (ls rfl (ls rfl (ls rfl (os rfl oz)))))))), lg (ls rfl (ls rfl (ls rfl (ls rfl (ls rfl (ls rfl (ls rfl (os rfl (os rfl oz))))))))), lg (ls rfl (ls rfl (ls rfl (ls rfl (ls rfl (ls rfl (ls rfl (os rfl (os rfl (os rfl oz)))))))))), lg (ls rfl (ls rfl (ls rfl (ls rfl (ls rfl (ls rfl (ls rfl (os rfl (os rfl (os rfl (os rfl oz))))))))))), lg lz, trivial⟩ ?_
  refine aw_seq ?_
  refine aw_region (by decide) ?_
  refine rts _ rfl (opD_move (os rfl oz)) ?_
  refine rts _ rfl (opD_bin lz (ev_const _ _) (fun w => errV_geql _ w _) (fun w => errV_eql _ w)) ?_
  refine rts _ rfl (opD_move lz) ?_
  refine rtg _ rfl lz (fun hg5_3_1 => opD_move (ls rfl (ls rfl (ls rfl (os rfl (os rfl (os rfl oz))))))) ?_
  refine rtg _ rfl (ls rfl lz) (fun hg5_4_2 => opD_bin (lz.trans (pif_pos hg5_4_2)) (ev_const _ _) (fun w => errV_geql _ w _) (fun w => errV_eql _ w)) ?_
  refine rts _ rfl (opD_and (ls rfl (ls rfl lz)) lz) ?_
  refine rts _ rfl (opD_move lz) ?_
  refine rtg _ rfl lz (fun hg5_7_3 => opD_move (ls rfl (ls rfl (ls rfl (ls rfl (ls rfl (ls rfl (ls rfl oz)))))))) ?_
  refine rtg _ rfl (ls rfl lz) (fun hg5_8_4 => opD_bytes_str Go.Proofs.Tryd.underlying23 Go.Proofs.Tryd.underlying5 Go.Proofs.Tryd.underlying9 (lz.trans (pif_pos hg5_8_4))) ?_
  refine rtg _ rfl (ls rfl (ls rfl lz)) (fun hg5_9_5 => opD_seql (lz.trans (pif_pos hg5_9_5)) (ev_const _ _)) ?_
  refine rts _ rfl (opD_and (ls rfl (ls rfl (ls rfl lz))) lz) ?_
  refine rts _ rfl (opD_move lz) ?_
  refine rtg _ rfl lz (fun hg5_12_6 => opD_fieldAddr fo118_1_U5 (ls rfl (ls rfl (ls rfl (ls rfl (ls rfl (ls rfl (ls rfl (ls rfl (ls rfl (ls rfl (ls rfl (ls rfl (os rfl (os rfl oz))))))))))))))) ?_
  refine rtg _ rfl (ls rfl lz) (fun hg5_13_7 => opD_load_one ag22_U5 (lz.trans (pif_pos hg5_13_7)) (loc_getN rfl rfl) rfl) ?_
  refine rtg _ rfl (ls rfl (ls rfl lz)) (fun hg5_14_8 => opD_eql (lz.trans (pif_pos hg5_14_8)) (ev_const _ _)) ?_
  refine rts _ rfl (opD_and (ls rfl (ls rfl (ls rfl lz))) lz) ?_
  refine rts _ rfl (opD_move lz) ?_
  refine rtg _ rfl lz (fun hg5_17_9 => opD_fieldAddr fo118_9_U5 (ls rfl (ls rfl (ls rfl (ls rfl (ls rfl (ls rfl (ls rfl (ls rfl (ls rfl (ls rfl (ls rfl (ls rfl (ls rfl (ls rfl (ls rfl (ls rfl (ls rfl (os rfl (os rfl oz)))))))))))))))))))) ?_
  refine rtg _ rfl (ls rfl lz) (fun hg5_18_10 => opD_load_one ag4_U5 (lz.trans (pif_pos hg5_18_10)) (loc_getN rfl rfl) rfl) ?_
  refine rts _ rfl (opD_and (ls rfl (ls rfl lz)) lz) ?_
  refine rts _ rfl (opD_move lz) ?_
  refine rtg _ rfl lz (fun hg5_21_11 => opD_move (ls rfl (ls rfl (ls rfl (ls rfl (ls rfl (ls rfl (ls rfl (ls rfl (ls rfl (ls rfl (ls rfl (ls rfl (ls rfl (ls rfl (ls rfl (ls rfl (ls rfl (ls rfl (ls rfl (ls rfl (ls rfl (os rfl (os rfl (os rfl (os rfl oz)))))))))))))))))))))))))) ?_
  replace h0 := bnd_some h0
  obtain ⟨x_5, hx_5, h0⟩ := h0
  refine rtg _ rfl (ls rfl lz) (fun hg5_22_12 => opD_call ht68_U5 (c_num35 (gif_some hx_5 hg5_22_12) hst) ⟨le_of_eq (lz.trans (pif_pos hg5_22_12)), trivial⟩) ?_
  refine rtg _ rfl (ls rfl (ls rfl lz)) (fun hg5_23_13 => opD_eql (lz.trans (pif_pos hg5_23_13)) (ev_const _ _)) ?_
  refine rts _ rfl (opD_and (ls rfl (ls rfl (ls rfl lz))) lz) ?_
  refine rts _ rfl (opD_move lz) ?_
  refine rtg _ rfl lz (fun hg5_26_14 => opD_move (ls rfl (ls rfl (ls rfl (ls rfl (ls rfl (ls rfl (ls rfl (ls rfl (ls rfl (ls rfl (ls rfl (ls rfl (ls rfl (ls rfl (ls rfl (ls rfl (ls rfl (ls rfl (ls rfl (ls rfl (ls rfl (ls rfl (ls rfl (ls rfl (ls rfl (ls rfl (os rfl (os rfl (os rfl (os rfl (os rfl oz)))))))))))))))))))))))))))))))) ?_
  replace h0 := bnd_some h0
  obtain ⟨x_6, hx_6, h0⟩ := h0
  refine rtg _ rfl (ls rfl lz) (fun hg5_27_15 => opD_call ht68_U5 (c_num35 (gif_some hx_6 hg5_27_15) hst) ⟨le_of_eq (lz.trans (pif_pos hg5_27_15)), trivial⟩) ?_
  refine rtg _ rfl (ls rfl (ls rfl lz)) (fun hg5_28_16 => opD_eql (lz.trans (pif_pos hg5_28_16)) (ev_const _ _)) ?_
  refine rts _ rfl (opD_and (ls rfl (ls rfl (ls rfl lz))) lz) ?_
  refine rts _ rfl (opD_move lz) ?_
  replace h0 := bnd_some h0
  obtain ⟨x_7, hx_7, h0⟩ := h0
  refine rtg _ rfl lz (fun hg5_31_17 => opD_pure ht69_U5 (c_qform (gif_some hx_7 hg5_31_17)) ⟨le_of_eq (ev_const _ _), trivial⟩) ?_
  refine rtg _ rfl (ls rfl lz) (fun hg5_32_18 => opD_seql (lz.trans (pif_pos hg5_32_18)) (ev_const _ _)) ?_
  refine rts _ rfl (opD_and (ls rfl (ls rfl lz)) lz) ?_
  refine rts _ rfl (opD_move lz) ?_
  replace h0 := bnd_some h0
  obtain ⟨x_8, hx_8, h0⟩ := h0
  refine rtg _ rfl lz (fun hg5_35_19 => opD_pure ht69_U5 (c_qform (gif_some hx_8 hg5_35_19)) ⟨le_of_eq (ev_const _ _), trivial⟩) ?_
  refine rtg _ rfl (ls rfl lz) (fun hg5_36_20 => opD_seql (lz.trans (pif_pos hg5_36_20)) (ev_const _ _)) ?_
  refine rts _ rfl (opD_and (ls rfl (ls rfl lz)) lz) ?_
  refine rts _ rfl (opD_assign lz) ?_
  refine .nil ?_
  refine aw_keep [(0, _)] ⟨lg lz, trivial⟩ ?_
  refine aw_ret ?_
  obtain rfl := some_of h0
  exact done_ext (.inr rfl) ((res_one rfl (it_tmp oz)).le (Pd.le_refl _)) (pl_bnd _ _ _)

def F_qForms (fl : Nat) (p0 : Rq) (p1 : (List Int)) (p2 : Int) : Option (Bool) :=
  ifb (((decide (100 < (p0.Key.size : Int))) || (decide (3000 < (p0.Value.size : Int)))) || (decide (3000 < (p1.length : Int)))) (bnd (F_sure35 fl) fun x_1 => some x_1) (bnd (F_qgive p0) fun x_2 => bnd (F_qenc fl x_2) fun x_3 => bnd (F_qenc2 fl p0) fun x_4 => bnd (F_qdec fl p1) fun x_5 => bnd (F_qdec2 fl p1) fun x_6 => bnd (gif ((decide ((strOf x_3.1) = (strOf x_4.1))) == true) (oNumE x_3.2)) fun x_7 => bnd (gif (((decide ((strOf x_3.1) = (strOf x_4.1))) && (decide (x_7 = x_4.2))) == true) (F_qgive x_6.1)) fun x_8 => bnd (gif ((((decide ((strOf x_3.1) = (strOf x_4.1))) && (decide (x_7 = x_4.2))) && (decide (x_5.1.Kind = x_8.Kind) && (decide (x_5.1.Space = x_8.Space) && (decide (x_5.1.Handle = x_8.Handle) && (decide (x_5.1.Ref.Slot = x_8.Ref.Slot) && (decide (x_5.1.Ref.Gen = x_8.Ref.Gen) && (decide (x_5.1.To = x_8.To) && (decide (x_5.1.Key = x_8.Key) && (decide (x_5.1.Value = x_8.Value) && (decide (x_5.1.Rights = x_8.Rights) && (decide (x_5.1.Most = x_8.Most) && (decide (x_5.1.Flag = x_8.Flag) && true)))))))))))) == true) (oNumE x_5.2)) fun x_9 => bnd (gif (((((decide ((strOf x_3.1) = (strOf x_4.1))) && (decide (x_7 = x_4.2))) && (decide (x_5.1.Kind = x_8.Kind) && (decide (x_5.1.Space = x_8.Space) && (decide (x_5.1.Handle = x_8.Handle) && (decide (x_5.1.Ref.Slot = x_8.Ref.Slot) && (decide (x_5.1.Ref.Gen = x_8.Ref.Gen) && (decide (x_5.1.To = x_8.To) && (decide (x_5.1.Key = x_8.Key) && (decide (x_5.1.Value = x_8.Value) && (decide (x_5.1.Rights = x_8.Rights) && (decide (x_5.1.Most = x_8.Most) && (decide (x_5.1.Flag = x_8.Flag) && true)))))))))))) && (decide (x_9 = x_6.2))) == true) (F_qform p2)) fun x_10 => bnd (gif (((((decide ((strOf x_3.1) = (strOf x_4.1))) && (decide (x_7 = x_4.2))) && (decide (x_5.1.Kind = x_8.Kind) && (decide (x_5.1.Space = x_8.Space) && (decide (x_5.1.Handle = x_8.Handle) && (decide (x_5.1.Ref.Slot = x_8.Ref.Slot) && (decide (x_5.1.Ref.Gen = x_8.Ref.Gen) && (decide (x_5.1.To = x_8.To) && (decide (x_5.1.Key = x_8.Key) && (decide (x_5.1.Value = x_8.Value) && (decide (x_5.1.Rights = x_8.Rights) && (decide (x_5.1.Most = x_8.Most) && (decide (x_5.1.Flag = x_8.Flag) && true)))))))))))) && (decide (x_9 = x_6.2))) == true) (F_qform2 p2)) fun x_11 => bnd (gif ((((((decide ((strOf x_3.1) = (strOf x_4.1))) && (decide (x_7 = x_4.2))) && (decide (x_5.1.Kind = x_8.Kind) && (decide (x_5.1.Space = x_8.Space) && (decide (x_5.1.Handle = x_8.Handle) && (decide (x_5.1.Ref.Slot = x_8.Ref.Slot) && (decide (x_5.1.Ref.Gen = x_8.Ref.Gen) && (decide (x_5.1.To = x_8.To) && (decide (x_5.1.Key = x_8.Key) && (decide (x_5.1.Value = x_8.Value) && (decide (x_5.1.Rights = x_8.Rights) && (decide (x_5.1.Most = x_8.Most) && (decide (x_5.1.Flag = x_8.Flag) && true)))))))))))) && (decide (x_9 = x_6.2))) && (decide (x_10 = x_11))) == true) (F_qgive p0)) fun x_12 => bnd (gif ((((((decide ((strOf x_3.1) = (strOf x_4.1))) && (decide (x_7 = x_4.2))) && (decide (x_5.1.Kind = x_8.Kind) && (decide (x_5.1.Space = x_8.Space) && (decide (x_5.1.Handle = x_8.Handle) && (decide (x_5.1.Ref.Slot = x_8.Ref.Slot) && (decide (x_5.1.Ref.Gen = x_8.Ref.Gen) && (decide (x_5.1.To = x_8.To) && (decide (x_5.1.Key = x_8.Key) && (decide (x_5.1.Value = x_8.Value) && (decide (x_5.1.Rights = x_8.Rights) && (decide (x_5.1.Most = x_8.Most) && (decide (x_5.1.Flag = x_8.Flag) && true)))))))))))) && (decide (x_9 = x_6.2))) && (decide (x_10 = x_11))) == true) (F_qcheck fl x_12)) fun x_13 => bnd (gif ((((((decide ((strOf x_3.1) = (strOf x_4.1))) && (decide (x_7 = x_4.2))) && (decide (x_5.1.Kind = x_8.Kind) && (decide (x_5.1.Space = x_8.Space) && (decide (x_5.1.Handle = x_8.Handle) && (decide (x_5.1.Ref.Slot = x_8.Ref.Slot) && (decide (x_5.1.Ref.Gen = x_8.Ref.Gen) && (decide (x_5.1.To = x_8.To) && (decide (x_5.1.Key = x_8.Key) && (decide (x_5.1.Value = x_8.Value) && (decide (x_5.1.Rights = x_8.Rights) && (decide (x_5.1.Most = x_8.Most) && (decide (x_5.1.Flag = x_8.Flag) && true)))))))))))) && (decide (x_9 = x_6.2))) && (decide (x_10 = x_11))) == true) (F_qmay2 fl p0)) fun x_14 => bnd (gif (((((((decide ((strOf x_3.1) = (strOf x_4.1))) && (decide (x_7 = x_4.2))) && (decide (x_5.1.Kind = x_8.Kind) && (decide (x_5.1.Space = x_8.Space) && (decide (x_5.1.Handle = x_8.Handle) && (decide (x_5.1.Ref.Slot = x_8.Ref.Slot) && (decide (x_5.1.Ref.Gen = x_8.Ref.Gen) && (decide (x_5.1.To = x_8.To) && (decide (x_5.1.Key = x_8.Key) && (decide (x_5.1.Value = x_8.Value) && (decide (x_5.1.Rights = x_8.Rights) && (decide (x_5.1.Most = x_8.Most) && (decide (x_5.1.Flag = x_8.Flag) && true)))))))))))) && (decide (x_9 = x_6.2))) && (decide (x_10 = x_11))) && (x_13.isNone == x_14)) == true) (F_sure35 fl)) fun x_15 => some (((((((decide ((strOf x_3.1) = (strOf x_4.1))) && (decide (x_7 = x_4.2))) && (decide (x_5.1.Kind = x_8.Kind) && (decide (x_5.1.Space = x_8.Space) && (decide (x_5.1.Handle = x_8.Handle) && (decide (x_5.1.Ref.Slot = x_8.Ref.Slot) && (decide (x_5.1.Ref.Gen = x_8.Ref.Gen) && (decide (x_5.1.To = x_8.To) && (decide (x_5.1.Key = x_8.Key) && (decide (x_5.1.Value = x_8.Value) && (decide (x_5.1.Rights = x_8.Rights) && (decide (x_5.1.Most = x_8.Most) && (decide (x_5.1.Flag = x_8.Flag) && true)))))))))))) && (decide (x_9 = x_6.2))) && (decide (x_10 = x_11))) && (x_13.isNone == x_14)) && x_15))
set_option maxRecDepth 100000 in
set_option maxHeartbeats 2000000 in
theorem c_qForms {fl : Nat} {p0 : Rq} {p1 : (List Int)} {p2 : Int} {R : Bool} {s : St} (h0 : F_qForms fl p0 p1 p2 = some R) (hst : StGV s) : AC Go.Proofs.Tryd.prog 12 [agg [pl (.int .u8 p0.Kind), pl (.int .u64 p0.Space), pl (.int .u64 p0.Handle), pl (.int .i64 p0.Ref.Slot), pl (.int .u64 p0.Ref.Gen), pl (.int .u64 p0.To), pl (.string p0.Key), pl (.string p0.Value), pl (.int .u8 p0.Rights), pl (.int .u64 p0.Most), pl (.bool p0.Flag)], sl (kI .u8) none none p1, pl (.int .u8 p2)] s (pl (.bool R)) s := by
  unfold F_qForms at h0
  refine ac_of_aw s.boxes.length s.fr.length Go.Proofs.Tryd.func12 rfl (by simp [Go.Proofs.Tryd.ntmps12]) ?_
  refine aw_ext0 ?_
  refine aw_keep [(0, _), (1, _), (2, _)] ⟨lg ez, lg (es ez), lg (es (es ez)), trivial⟩ ?_
  refine aw_seq ?_
  refine aw_region (by decide) ?_
  refine rts _ rfl (boxAN rfl oz (bnd_cons (pl_bnd _ _ _) (bnd_cons (pl_bnd _ _ _) (bnd_cons (pl_bnd _ _ _) (bnd_cons (pl_bnd _ _ _) (bnd_cons (pl_bnd _ _ _) (bnd_cons (pl_bnd _ _ _) (bnd_cons (pl_bnd _ _ _) (bnd_cons (pl_bnd _ _ _) (bnd_cons (pl_bnd _ _ _) (bnd_cons (pl_bnd _ _ _) (bnd_cons (pl_bnd _ _ _) bnd_nil))))))))))) (by first | exact List.length_nil | (simp only [List.length_cons, List.length_nil, Nat.zero_add, Nat.reduceAdd] <;> rfl)) (by simp only [na, nb, nc, nd, nf, ng, nh, ni, nj, nk] <;> rfl)) ?_
  refine rts _ rfl (opD_assign (ev_const _ _)) ?_
  refine .nil ?_
  refine aw_keep [(1, _), (2, _), (3, _)] ⟨lg (ls rfl (ls rfl (os rfl oz))), lg (ls rfl (ls rfl (os rfl (os rfl oz)))), lg (ls rfl lz), trivial⟩ ?_
  refine aw_seq ?_
  refine aw_seq ?_
  refine aw_region (by decide) ?_
  refine rts _ rfl (opD_fieldAddr fo114_5_U5 (os rfl (os rfl oz))) ?_
  refine rts _ rfl (opD_load_one ag9_U5 lz (loc_getN rfl rfl) rfl) ?_
  refine rts _ rfl (opD_len_str Go.Proofs.Tryd.underlying9 lz) ?_
  refine rts _ rfl (opD_gtr lz (ev_const _ _)) ?_
  refine rts _ rfl (opD_move lz) ?_
  refine rtg _ rfl lz (fun hg1_5_1 => opD_fieldAddr fo114_6_U5 (ls rfl (ls rfl (ls rfl (ls rfl (ls rfl (os rfl (os rfl oz)))))))) ?_
  refine rtg _ rfl (ls rfl lz) (fun hg1_6_2 => opD_load_one ag9_U5 (lz.trans (pif_pos hg1_6_2)) (loc_getN rfl rfl) rfl) ?_
  refine rtg _ rfl (ls rfl (ls rfl lz)) (fun hg1_7_3 => opD_len_str Go.Proofs.Tryd.underlying9 (lz.trans (pif_pos hg1_7_3))) ?_
  refine rtg _ rfl (ls rfl (ls rfl (ls rfl lz))) (fun hg1_8_4 => opD_gtr (lz.trans (pif_pos hg1_8_4)) (ev_const _ _)) ?_
  refine rts _ rfl (opD_or (ls rfl (ls rfl (ls rfl (ls rfl lz)))) lz) ?_
  refine rts _ rfl (opD_move lz) ?_
  refine rtg _ rfl lz (fun hg1_11_5 => opD_move (ls rfl (ls rfl (ls rfl (ls rfl (ls rfl (ls rfl (ls rfl (ls rfl (ls rfl (ls rfl (ls rfl oz)))))))))))) ?_
  refine rtg _ rfl (ls rfl lz) (fun hg1_12_6 => opD_len_sl Go.Proofs.Tryd.underlying23 (lz.trans (pif_pos hg1_12_6))) ?_
  refine rtg _ rfl (ls rfl (ls rfl lz)) (fun hg1_13_7 => opD_gtr (lz.trans (pif_pos hg1_13_7)) (ev_const _ _)) ?_
  refine rts _ rfl (opD_or (ls rfl (ls rfl (ls rfl lz))) lz) ?_
  refine .nil ?_
  refine aw_keep [(1, _), (2, _), (3, _), (29, _)] ⟨lg (ls rfl (ls rfl (ls rfl (ls rfl (ls rfl (ls rfl (ls rfl (ls rfl (ls rfl (ls rfl (ls rfl (ls rfl (ls rfl (ls rfl (ls rfl oz))))))))))))))), lg (ls rfl (ls rfl (ls rfl (ls rfl (ls rfl (ls rfl (ls rfl (ls rfl (ls rfl (ls rfl (ls rfl (ls rfl (ls rfl (ls rfl (ls rfl (os rfl oz)))))))))))))))), lg (ls rfl (ls rfl (ls rfl (ls rfl (ls rfl (ls rfl (ls rfl (ls rfl (ls rfl (ls rfl (ls rfl (ls rfl (ls rfl (ls rfl (ls rfl (os rfl (os rfl oz))))))))))))))))), lg lz, trivial⟩ ?_
  refine aw_cond _ (os rfl (os rfl (os rfl oz))) (fun hc => ?_) (fun hc => ?_)
  · skip
    replace h0 := ifb_t h0 hc
    clear hc
    refine aw_seq ?_
    refine aw_region (by decide) ?_
    replace h0 := bnd_some h0
    obtain ⟨x_1, hx_1, h0⟩ := h0
    refine rts _ rfl (opD_call ht62_U5 (c_sure35 hx_1 hst) trivial) ?_
    refine rts _ rfl (opD_assign lz) ?_
    refine .nil ?_
    refine aw_keep [(6, _)] ⟨lg lz, trivial⟩ ?_
    refine aw_ret ?_
    obtain rfl := some_of h0
    exact done_ext (.inr rfl) ((res_one rfl (it_tmp oz)).le (Pd.le_refl _)) (pl_bnd _ _ _)
  · skip
    replace h0 := ifb_f h0 hc
    clear hc
    refine aw_skip ?_
    refine aw_keep [(1, _), (2, _), (3, _)] ⟨lg oz, lg (os rfl oz), lg (os rfl (os rfl oz)), trivial⟩ ?_
    refine aw_seq ?_
    refine aw_region (by decide) ?_
    refine rts _ rfl (opD_load_aggX (qs := [_, _, _, _, _, _, _, _, _, _, _]) ag114_U5 sz114_U5 (os rfl (os rfl oz)) (loc_getN rfl rfl) (Nat.le_of_ble_eq_true rfl) rfl) ?_
    replace h0 := bnd_some h0
    obtain ⟨x_2, hx_2, h0⟩ := h0
    refine rts _ rfl (opD_pure ht64_U5 (c_qgive hx_2) ⟨(le_of_eq lz).trans (agg_le ⟨(Pd.le_refl _), (Pd.le_refl _), (Pd.le_refl _), (Pd.le_refl _), (Pd.le_refl _), (Pd.le_refl _), (Pd.le_refl _), (Pd.le_refl _), (Pd.le_refl _), (Pd.le_refl _), (Pd.le_refl _), trivial⟩), trivial⟩) ?_
    replace h0 := bnd_some h0
    obtain ⟨x_3, hx_3, h0⟩ := h0
    refine rts _ rfl (opD_pure ht63_U5 (c_qenc hx_3) ⟨(le_of_eq lz).trans (agg_le ⟨(Pd.le_refl _), (Pd.le_refl _), (Pd.le_refl _), (Pd.le_refl _), (Pd.le_refl _), (Pd.le_refl _), (Pd.le_refl _), (Pd.le_refl _), (Pd.le_refl _), (Pd.le_refl _), (Pd.le_refl _), trivial⟩), trivial⟩) ?_
    refine rts _ rfl (opD_move lz) ?_
    refine rts _ rfl (opD_extract lz rfl) ?_
    refine rts _ rfl (opD_extract (ls rfl lz) rfl) ?_
    refine rts _ rfl (opD_assign (ls rfl lz)) ?_
    refine rts _ rfl (opD_assign (ls rfl lz)) ?_
    refine .nil ?_
    refine aw_keep [(1, _), (2, _), (3, _), (7, _), (8, _)] ⟨lg (ls rfl (ls rfl (ls rfl (ls rfl (ls rfl (ls rfl (ls rfl (ls rfl oz)))))))), lg (ls rfl (ls rfl (ls rfl (ls rfl (ls rfl (ls rfl (ls rfl (ls rfl (os rfl oz))))))))), lg (ls rfl (ls rfl (ls rfl (ls rfl (ls rfl (ls rfl (ls rfl (ls rfl (os rfl (os rfl oz)))))))))), lg (ls rfl lz), lg lz, trivial⟩ ?_
    refine aw_seq ?_
    refine aw_region (by decide) ?_
    refine rts _ rfl (opD_load_aggX (qs := [_, _, _, _, _, _, _, _, _, _, _]) ag114_U5 sz114_U5 (os rfl (os rfl oz)) (loc_getN rfl rfl) (Nat.le_of_ble_eq_true rfl) rfl) ?_
    replace h0 := bnd_some h0
    obtain ⟨x_4, hx_4, h0⟩ := h0
    refine rts _ rfl (opD_pure ht65_U5 (c_qenc2 hx_4) ⟨(le_of_eq lz).trans (agg_le ⟨(Pd.le_refl _), (Pd.le_refl _), (Pd.le_refl _), (Pd.le_refl _), (Pd.le_refl _), (Pd.le_refl _), (Pd.le_refl _), (Pd.le_refl _), (Pd.le_refl _), (Pd.le_refl _), (Pd.le_refl _), trivial⟩), trivial⟩) ?_
    refine rts _ rfl (opD_move lz) ?_
    refine rts _ rfl (opD_extract lz rfl) ?_
    refine rts _ rfl (opD_extract (ls rfl lz) rfl) ?_
    refine rts _ rfl (opD_assign (ls rfl lz)) ?_
    refine rts _ rfl (opD_assign (ls rfl lz)) ?_
    refine .nil ?_
    refine aw_keep [(1, _), (2, _), (3, _), (7, _), (8, _), (9, _), (10, _)] ⟨lg (ls rfl (ls rfl (ls rfl (ls rfl (ls rfl (ls rfl (ls rfl oz))))))), lg (ls rfl (ls rfl (ls rfl (ls rfl (ls rfl (ls rfl (ls rfl (os rfl oz)))))))), lg (ls rfl (ls rfl (ls rfl (ls rfl (ls rfl (ls rfl (ls rfl (os rfl (os rfl oz))))))))), lg (ls rfl (ls rfl (ls rfl (ls rfl (ls rfl (ls rfl (ls rfl (os rfl (os rfl (os rfl oz)))))))))), lg (ls rfl (ls rfl (ls rfl (ls rfl (ls rfl (ls rfl (ls rfl (os rfl (os rfl (os rfl (os rfl oz))))))))))), lg (ls rfl lz), lg lz, trivial⟩ ?_
    refine aw_seq ?_
    refine aw_region (by decide) ?_
    refine rts _ rfl (opD_move oz) ?_
    replace h0 := bnd_some h0
    obtain ⟨x_5, hx_5, h0⟩ := h0
    refine rts _ rfl (opD_pure ht66_U5 (c_qdec hx_5) ⟨le_of_eq lz, trivial⟩) ?_
    refine rts _ rfl (opD_move lz) ?_
    refine rts _ rfl (opD_extract lz rfl) ?_
    refine rts _ rfl (opD_extract (ls rfl lz) rfl) ?_
    refine rts _ rfl (allocN rfl zt118_U5 (by first | exact List.length_nil | (simp only [List.length_cons, List.length_nil, Nat.zero_add, Nat.reduceAdd] <;> rfl)) (by simp only [na, nb, nc, nd, nf, ng, nh, ni, nj, nk] <;> rfl)) ?_
    refine rts _ rfl (storeAN rfl sz118_U5 lz (ls rfl (ls rfl lz)) (ones_cons (one_pl rfl) (ones_cons (one_pl rfl) (ones_cons (one_pl rfl) (ones_cons (one_pl rfl) (ones_cons (one_pl rfl) (ones_cons (one_pl rfl) (ones_cons (one_pl rfl) (ones_cons (one_pl rfl) (ones_cons (one_pl rfl) (ones_cons (one_pl rfl) (ones_cons (one_pl rfl) ones_nil))))))))))) rfl rfl (Nat.le_of_ble_eq_true rfl) (List.cons_ne_nil _ _) (bnd_cons (pl_bnd _ _ _) (bnd_cons (pl_bnd _ _ _) (bnd_cons (pl_bnd _ _ _) (bnd_cons (pl_bnd _ _ _) (bnd_cons (pl_bnd _ _ _) (bnd_cons (pl_bnd _ _ _) (bnd_cons (pl_bnd _ _ _) (bnd_cons (pl_bnd _ _ _) (bnd_cons (pl_bnd _ _ _) (bnd_cons (pl_bnd _ _ _) (bnd_cons (pl_bnd _ _ _) bnd_nil))))))))))) (by simp only [na, nb, nc, nd, nf, ng, nh, ni, nj, nk] <;> rfl) (by simp only [na, nb, nc, nd, nf, ng, nh, ni, nj, nk] <;> rfl)) ?_
    refine rts _ rfl (opD_assign (lx (ls rfl lz))) ?_
    refine .nil ?_
    refine aw_keep [(1, _), (2, _), (3, _), (7, _), (8, _), (9, _), (10, _), (11, _), (12, _)] ⟨lg (ls rfl (lx (ls rfl (ls rfl (ls rfl (ls rfl (ls rfl (ls rfl oz)))))))), lg (ls rfl (lx (ls rfl (ls rfl (ls rfl (ls rfl (ls rfl (ls rfl (os rfl oz))))))))), lg (ls rfl (lx (ls rfl (ls rfl (ls rfl (ls rfl (ls rfl (ls rfl (os rfl (os rfl oz)))))))))), lg (ls rfl (lx (ls rfl (ls rfl (ls rfl (ls rfl (ls rfl (ls rfl (os rfl (os rfl (os rfl oz))))))))))), lg (ls rfl (lx (ls rfl (ls rfl (ls rfl (ls rfl (ls rfl (ls rfl (os rfl (os rfl (os rfl (os rfl oz)))))))))))), lg (ls rfl (lx (ls rfl (ls rfl (ls rfl (ls rfl (ls rfl (ls rfl (os rfl (os rfl (os rfl (os rfl (os rfl oz))))))))))))), lg (ls rfl (lx (ls rfl (ls rfl (ls rfl (ls rfl (ls rfl (ls rfl (os rfl (os rfl (os rfl (os rfl (os rfl (os rfl oz)))))))))))))), lg (ls rfl (lx lz)), lg lz, trivial⟩ ?_
    refine aw_seq ?_
    refine aw_region (by decide) ?_
    refine rts _ rfl (opD_move oz) ?_
    replace h0 := bnd_some h0
    obtain ⟨x_6, hx_6, h0⟩ := h0
    refine rts _ rfl (opD_pure ht67_U5 (c_qdec2 hx_6) ⟨le_of_eq lz, trivial⟩) ?_
    refine rts _ rfl (opD_move lz) ?_
    refine rts _ rfl (opD_extract lz rfl) ?_
    refine rts _ rfl (opD_extract (ls rfl lz) rfl) ?_
    refine rts _ rfl (allocN rfl zt114_U5 (by first | exact List.length_nil | (simp only [List.length_cons, List.length_nil, Nat.zero_add, Nat.reduceAdd] <;> rfl)) (by simp only [na, nb, nc, nd, nf, ng, nh, ni, nj, nk] <;> rfl)) ?_
    refine rts _ rfl (storeAN rfl sz114_U5 lz (ls rfl (ls rfl lz)) (ones_cons (one_pl rfl) (ones_cons (one_pl rfl) (ones_cons (one_pl rfl) (ones_cons (one_pl rfl) (ones_cons (one_pl rfl) (ones_cons (one_pl rfl) (ones_cons (one_pl rfl) (ones_cons (one_pl rfl) (ones_cons (one_pl rfl) (ones_cons (one_pl rfl) (ones_cons (one_pl rfl) ones_nil))))))))))) rfl rfl (Nat.le_of_ble_eq_true rfl) (List.cons_ne_nil _ _) (bnd_cons (pl_bnd _ _ _) (bnd_cons (pl_bnd _ _ _) (bnd_cons (pl_bnd _ _ _) (bnd_cons (pl_bnd _ _ _) (bnd_cons (pl_bnd _ _ _) (bnd_cons (pl_bnd _ _ _) (bnd_cons (pl_bnd _ _ _) (bnd_cons (pl_bnd _ _ _) (bnd_cons (pl_bnd _ _ _) (bnd_cons (pl_bnd _ _ _) (bnd_cons (pl_bnd _ _ _) bnd_nil))))))))))) (by simp only [na, nb, nc, nd, nf, ng, nh, ni, nj, nk] <;> rfl) (by simp only [na, nb, nc, nd, nf, ng, nh, ni, nj, nk] <;> rfl)) ?_
    refine rts _ rfl (opD_assign (lx (ls rfl lz))) ?_
    refine .nil ?_
    refine aw_keep [(2, _), (3, _), (7, _), (8, _), (9, _), (10, _), (11, _), (12, _), (13, _), (14, _)] ⟨lg (ls rfl (lx (ls rfl (ls rfl (ls rfl (ls rfl (ls rfl (ls rfl (os rfl oz))))))))), lg (ls rfl (lx (ls rfl (ls rfl (ls rfl (ls rfl (ls rfl (ls rfl (os rfl (os rfl oz)))))))))), lg (ls rfl (lx (ls rfl (ls rfl (ls rfl (ls rfl (ls rfl (ls rfl (os rfl (os rfl (os rfl oz))))))))))), lg (ls rfl (lx (ls rfl (ls rfl (ls rfl (ls rfl (ls rfl (ls rfl (os rfl (os rfl (os rfl (os rfl oz)))))))))))), lg (ls rfl (lx (ls rfl (ls rfl (ls rfl (ls rfl (ls rfl (ls rfl (os rfl (os rfl (os rfl (os rfl (os rfl oz))))))))))))), lg (ls rfl (lx (ls rfl (ls rfl (ls rfl (ls rfl (ls rfl (ls rfl (os rfl (os rfl (os rfl (os rfl (os rfl (os rfl oz)))))))))))))), lg (ls rfl (lx (ls rfl (ls rfl (ls rfl (ls rfl (ls rfl (ls rfl (os rfl (os rfl (os rfl (os rfl (os rfl (os rfl (os rfl oz))))))))))))))), lg (ls rfl (lx (ls rfl (ls rfl (ls rfl (ls rfl (ls rfl (ls rfl (os rfl (os rfl (os rfl (os rfl (os rfl (os rfl (os rfl (os rfl oz)))))))))))))))), lg (ls rfl (lx lz)), lg lz, trivial⟩ ?_
    refine aw_seq ?_
    refine aw_flat mixed_U5 (by decide +kernel) ?_
    refine zts _ rfl (opD_move (os rfl (os rfl oz))) ?_
    refine zts _ rfl (opD_bytes_str Go.Proofs.Tryd.underlying23 Go.Proofs.Tryd.underlying5 Go.Proofs.Tryd.underlying9 lz) ?_
    refine zts _ rfl (opD_move (ls rfl (ls rfl (os rfl (os rfl (os rfl (os rfl oz))))))) ?_
    refine zts _ rfl (opD_bytes_str Go.Proofs.Tryd.underlying23 Go.Proofs.Tryd.underlying5 Go.Proofs.Tryd.underlying9 lz) ?_
    refine zts _ rfl (opD_seql (ls rfl (ls rfl lz)) lz) ?_
    refine zts _ rfl (opD_move lz) ?_
    refine ztg _ rfl lz (fun hg7_6_33 => opD_move (ls rfl (ls rfl (ls rfl (ls rfl (ls rfl (ls rfl (os rfl (os rfl (os rfl oz)))))))))) ?_
    replace h0 := bnd_some h0
    obtain ⟨x_7, hx_7, h0⟩ := h0
    refine ztg _ rfl (ls rfl lz) (fun hg7_7_34 => opD_call ht68_U5 (c_num35 (gif_some hx_7 hg7_7_34) hst) ⟨le_of_eq (lz.trans (pif_pos hg7_7_34)), trivial⟩) ?_
    refine ztg _ rfl (ls rfl (ls rfl lz)) (fun hg7_8_35 => opD_move (ls rfl (ls rfl (ls rfl (ls rfl (ls rfl (ls rfl (ls rfl (ls rfl (os rfl (os rfl (os rfl (os rfl (os rfl oz)))))))))))))) ?_
    refine ztg _ rfl (ls rfl (ls rfl (ls rfl lz))) (fun hg7_9_36 => opD_eql ((ls rfl lz).trans (pif_pos hg7_9_36)) (lz.trans (pif_pos hg7_9_36))) ?_
    refine zts _ rfl (opD_and (ls rfl (ls rfl (ls rfl (ls rfl lz)))) lz) ?_
    refine zts _ rfl (opD_move lz) ?_
    refine ztg _ rfl lz (fun hg7_12_37 => opD_load_aggX (qs := [_, _, _, _, _, _, _, _, _, _, _]) ag118_U5 sz118_U5 (ls rfl (ls rfl (ls rfl (ls rfl (ls rfl (ls rfl (ls rfl (ls rfl (ls rfl (ls rfl (ls rfl (ls rfl (os rfl (os rfl (os rfl (os rfl (os rfl (os rfl oz)))))))))))))))))) (loc_getN rfl rfl) (Nat.le_of_ble_eq_true rfl) rfl) ?_
    refine ztg _ rfl (ls rfl lz) (fun hg7_13_38 => opD_load_aggX (qs := [_, _, _, _, _, _, _, _, _, _, _]) ag114_U5 sz114_U5 (ls rfl (ls rfl (ls rfl (ls rfl (ls rfl (ls rfl (ls rfl (ls rfl (ls rfl (ls rfl (ls rfl (ls rfl (ls rfl (os rfl (os rfl (os rfl (os rfl (os rfl (os rfl (os rfl (os rfl oz))))))))))))))))))))) (loc_getN rfl rfl) (Nat.le_of_ble_eq_true rfl) rfl) ?_
    replace h0 := bnd_some h0
    obtain ⟨x_8, hx_8, h0⟩ := h0
    refine ztg _ rfl (ls rfl (ls rfl lz)) (fun hg7_14_39 => opD_pure ht64_U5 (c_qgive (gif_some hx_8 hg7_14_39)) ⟨(le_of_eq (lz.trans (pif_pos hg7_14_39))).trans (agg_le ⟨(Pd.le_refl _), (Pd.le_refl _), (Pd.le_refl _), (Pd.le_refl _), (Pd.le_refl _), (Pd.le_refl _), (Pd.le_refl _), (Pd.le_refl _), (Pd.le_refl _), (Pd.le_refl _), (Pd.le_refl _), trivial⟩), trivial⟩) ?_
    refine ztg _ rfl (ls rfl (ls rfl (ls rfl lz))) (fun hg7_15_40 => opD_binA [.int .u8 x_5.1.Kind, .int .u64 x_5.1.Space, .int .u64 x_5.1.Handle, .int .i64 x_5.1.Ref.Slot, .int .u64 x_5.1.Ref.Gen, .int .u64 x_5.1.To, .string x_5.1.Key, .string x_5.1.Value, .int .u8 x_5.1.Rights, .int .u64 x_5.1.Most, .bool x_5.1.Flag] [.int .u8 x_8.Kind, .int .u64 x_8.Space, .int .u64 x_8.Handle, .int .i64 x_8.Ref.Slot, .int .u64 x_8.Ref.Gen, .int .u64 x_8.To, .string x_8.Key, .string x_8.Value, .int .u8 x_8.Rights, .int .u64 x_8.Most, .bool x_8.Flag] ((ls rfl (ls rfl lz)).trans (pif_pos hg7_15_40)) (lz.trans (pif_pos hg7_15_40)) (fun w => (eq_Rq_g _ _ _ _ _ w)) (fun w => (eq_Rq _ _ _ _ _ _ _ _ _ _ _ _ _ _ _ _ _ _ _ _ _ _ w).1)) ?_
    refine zts _ rfl (opD_and (ls rfl (ls rfl (ls rfl (ls rfl lz)))) lz) ?_
    refine zts _ rfl (opD_move lz) ?_
    refine ztg _ rfl lz (fun hg7_18_41 => opD_move (ls rfl (ls rfl (ls rfl (ls rfl (ls rfl (ls rfl (ls rfl (ls rfl (ls rfl (ls rfl (ls rfl (ls rfl (ls rfl (ls rfl (ls rfl (ls rfl (ls rfl (ls rfl (os rfl (os rfl (os rfl (os rfl (os rfl (os rfl (os rfl oz)))))))))))))))))))))))))) ?_
    replace h0 := bnd_some h0
    obtain ⟨x_9, hx_9, h0⟩ := h0
    refine ztg _ rfl (ls rfl lz) (fun hg7_19_42 => opD_call ht68_U5 (c_num35 (gif_some hx_9 hg7_19_42) hst) ⟨le_of_eq (lz.trans (pif_pos hg7_19_42)), trivial⟩) ?_
    refine ztg _ rfl (ls rfl (ls rfl lz)) (fun hg7_20_43 => opD_move (ls rfl (ls rfl (ls rfl (ls rfl (ls rfl (ls rfl (ls rfl (ls rfl (ls rfl (ls rfl (ls rfl (ls rfl (ls rfl (ls rfl (ls rfl (ls rfl (ls rfl (ls rfl (ls rfl (ls rfl (os rfl (os rfl (os rfl (os rfl (os rfl (os rfl (os rfl (os rfl (os rfl oz)))))))))))))))))))))))))))))) ?_
    refine ztg _ rfl (ls rfl (ls rfl (ls rfl lz))) (fun hg7_21_44 => opD_eql ((ls rfl lz).trans (pif_pos hg7_21_44)) (lz.trans (pif_pos hg7_21_44))) ?_
    refine zts _ rfl (opD_and (ls rfl (ls rfl (ls rfl (ls rfl lz)))) lz) ?_
    refine zts _ rfl (opD_move lz) ?_
    refine ztg _ rfl lz (fun hg7_24_45 => opD_move (ls rfl (ls rfl (ls rfl (ls rfl (ls rfl (ls rfl (ls rfl (ls rfl (ls rfl (ls rfl (ls rfl (ls rfl (ls rfl (ls rfl (ls rfl (ls rfl (ls rfl (ls rfl (ls rfl (ls rfl (ls rfl (ls rfl (ls rfl (ls rfl oz))))))))))))))))))))))))) ?_
    replace h0 := bnd_some h0
    obtain ⟨x_10, hx_10, h0⟩ := h0
    refine ztg _ rfl (ls rfl lz) (fun hg7_25_46 => opD_pure ht69_U5 (c_qform (gif_some hx_10 hg7_25_46)) ⟨le_of_eq (lz.trans (pif_pos hg7_25_46)), trivial⟩) ?_
    refine ztg _ rfl (ls rfl (ls rfl lz)) (fun hg7_26_47 => opD_move (ls rfl (ls rfl (ls rfl (ls rfl (ls rfl (ls rfl (ls rfl (ls rfl (ls rfl (ls rfl (ls rfl (ls rfl (ls rfl (ls rfl (ls rfl (ls rfl (ls rfl (ls rfl (ls rfl (ls rfl (ls rfl (ls rfl (ls rfl (ls rfl (ls rfl (ls rfl oz))))))))))))))))))))))))))) ?_
    replace h0 := bnd_some h0
    obtain ⟨x_11, hx_11, h0⟩ := h0
    refine ztg _ rfl (ls rfl (ls rfl (ls rfl lz))) (fun hg7_27_48 => opD_pure ht70_U5 (c_qform2 (gif_some hx_11 hg7_27_48)) ⟨le_of_eq (lz.trans (pif_pos hg7_27_48)), trivial⟩) ?_
    refine ztg _ rfl (ls rfl (ls rfl (ls rfl (ls rfl lz)))) (fun hg7_28_49 => opD_seql ((ls rfl (ls rfl lz)).trans (pif_pos hg7_28_49)) (lz.trans (pif_pos hg7_28_49))) ?_
    refine zts _ rfl (opD_and (ls rfl (ls rfl (ls rfl (ls rfl (ls rfl lz))))) lz) ?_
    refine zts _ rfl (opD_move lz) ?_
    refine ztg _ rfl lz (fun hg7_31_50 => opD_load_aggX (qs := [_, _, _, _, _, _, _, _, _, _, _]) ag114_U5 sz114_U5 (ls rfl (ls rfl (ls rfl (ls rfl (ls rfl (ls rfl (ls rfl (ls rfl (ls rfl (ls rfl (ls rfl (ls rfl (ls rfl (ls rfl (ls rfl (ls rfl (ls rfl (ls rfl (ls rfl (ls rfl (ls rfl (ls rfl (ls rfl (ls rfl (ls rfl (ls rfl (ls rfl (ls rfl (ls rfl (ls rfl (ls rfl (os rfl oz)))))))))))))))))))))))))))))))) (loc_getN rfl rfl) (Nat.le_of_ble_eq_true rfl) rfl) ?_
    replace h0 := bnd_some h0
    obtain ⟨x_12, hx_12, h0⟩ := h0
    refine ztg _ rfl (ls rfl lz) (fun hg7_32_51 => opD_pure ht64_U5 (c_qgive (gif_some hx_12 hg7_32_51)) ⟨(le_of_eq (lz.trans (pif_pos hg7_32_51))).trans (agg_le ⟨(Pd.le_refl _), (Pd.le_refl _), (Pd.le_refl _), (Pd.le_refl _), (Pd.le_refl _), (Pd.le_refl _), (Pd.le_refl _), (Pd.le_refl _), (Pd.le_refl _), (Pd.le_refl _), (Pd.le_refl _), trivial⟩), trivial⟩) ?_
    replace h0 := bnd_some h0
    obtain ⟨x_13, hx_13, h0⟩ := h0
    refine ztg _ rfl (ls rfl (ls rfl lz)) (fun hg7_33_52 => opD_pure ht71_U5 (c_qcheck (gif_some hx_13 hg7_33_52)) ⟨(le_of_eq (lz.trans (pif_pos hg7_33_52))).trans (agg_le ⟨(Pd.le_refl _), (Pd.le_refl _), (Pd.le_refl _), (Pd.le_refl _), (Pd.le_refl _), (Pd.le_refl _), (Pd.le_refl _), (Pd.le_refl _), (Pd.le_refl _), (Pd.le_refl _), (Pd.le_refl _), trivial⟩), trivial⟩) ?_
    refine ztg _ rfl (ls rfl (ls rfl (ls rfl lz))) (fun hg7_34_53 => opD_bin (lz.trans (pif_pos hg7_34_53)) (ev_const _ _) (fun w => errV_geql _ w _) (fun w => errV_eql _ w)) ?_
    refine ztg _ rfl (ls rfl (ls rfl (ls rfl (ls rfl lz)))) (fun hg7_35_54 => opD_load_aggX (qs := [_, _, _, _, _, _, _, _, _, _, _]) ag114_U5 sz114_U5 (ls rfl (ls rfl (ls rfl (ls rfl (ls rfl (ls rfl (ls rfl (ls rfl (ls rfl (ls rfl (ls rfl (ls rfl (ls rfl (ls rfl (ls rfl (ls rfl (ls rfl (ls rfl (ls rfl (ls rfl (ls rfl (ls rfl (ls rfl (ls rfl (ls rfl (ls rfl (ls rfl (ls rfl (ls rfl (ls rfl (ls rfl (ls rfl (ls rfl (ls rfl (ls rfl (os rfl oz)))))))))))))))))))))))))))))))))))) (loc_getN rfl rfl) (Nat.le_of_ble_eq_true rfl) rfl) ?_
    replace h0 := bnd_some h0
    obtain ⟨x_14, hx_14, h0⟩ := h0
    refine ztg _ rfl (ls rfl (ls rfl (ls rfl (ls rfl (ls rfl lz))))) (fun hg7_36_55 => opD_pure ht72_U5 (c_qmay2 (gif_some hx_14 hg7_36_55)) ⟨(le_of_eq (lz.trans (pif_pos hg7_36_55))).trans (agg_le ⟨(Pd.le_refl _), (Pd.le_refl _), (Pd.le_refl _), (Pd.le_refl _), (Pd.le_refl _), (Pd.le_refl _), (Pd.le_refl _), (Pd.le_refl _), (Pd.le_refl _), (Pd.le_refl _), (Pd.le_refl _), trivial⟩), trivial⟩) ?_
    refine ztg _ rfl (ls rfl (ls rfl (ls rfl (ls rfl (ls rfl (ls rfl lz)))))) (fun hg7_37_56 => opD_beql Go.Proofs.Tryd.underlying4 ((ls rfl (ls rfl lz)).trans (pif_pos hg7_37_56)) (lz.trans (pif_pos hg7_37_56))) ?_
    refine zts _ rfl (opD_and (ls rfl (ls rfl (ls rfl (ls rfl (ls rfl (ls rfl (ls rfl lz))))))) lz) ?_
    refine zts _ rfl (opD_move lz) ?_
    replace h0 := bnd_some h0
    obtain ⟨x_15, hx_15, h0⟩ := h0
    refine ztg _ rfl lz (fun hg7_40_57 => opD_call ht62_U5 (c_sure35 (gif_some hx_15 hg7_40_57) hst) trivial) ?_
    refine zts _ rfl (opD_and (ls rfl lz) lz) ?_
    refine zts _ rfl (opD_assign lz) ?_
    refine .nil ?_
    refine aw_keep [(6, _)] ⟨lg lz, trivial⟩ ?_
    refine aw_ret ?_
    obtain rfl := some_of h0
    exact done_ext (.inr rfl) ((res_one rfl (it_tmp oz)).le (Pd.le_refl _)) (pl_bnd _ _ _)
end Go.Proofs.YtmnhfpcbfdgbcaaDoor.Eng.A
