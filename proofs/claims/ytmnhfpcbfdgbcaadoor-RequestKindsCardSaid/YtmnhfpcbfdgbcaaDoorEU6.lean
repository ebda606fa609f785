/- EU6: what functions do, walked; used by the laws of this seat. -/
import Derived.Test.YtmnhfpcbfdgbcaaDoorEU5
namespace Go.Proofs.YtmnhfpcbfdgbcaaDoor.Eng.A
set_option linter.unusedVariables false
set_option linter.unusedSimpArgs false
open Go.RowKit Go.Proofs.YtmnhfpcbfdgbcaaDoor.Plain Go.Proofs.YtmnhfpcbfdgbcaaDoor.Eng Go.Proofs.YtmnhfpcbfdgbcaaDoor.Eng.Pk Go.Proofs.YtmnhfpcbfdgbcaaDoor.Eng.Rd

theorem pt118_U8 : placesT Go.Proofs.Tryd.prog 118 10 = some [(0, 1), (1, 1), (2, 1), (3, 2), (5, 1), (6, 1), (7, 1), (8, 1), (9, 1), (10, 1)] := by kernel_rfl
theorem zt118_U8 : zeroT Go.Proofs.Tryd.prog 118 = some [.int .u8 0, .int .u64 0, .int .u64 0, .int .i64 0, .int .u64 0, .int .u64 0, .string ⟨#[]⟩, .string ⟨#[]⟩, .int .u8 0, .int .u64 0, .bool false] := by kernel_rfl
theorem sz118_U8 : sizeT Go.Proofs.Tryd.prog 118 = some 11 := by kernel_rfl
theorem ag118_U8 : aggT Go.Proofs.Tryd.prog 118 = some true := by kernel_rfl
theorem ht63_U8 : hasText Go.Proofs.Tryd.prog 63 = true := by kernel_rfl
theorem sz5_U8 : sizeT Go.Proofs.Tryd.prog 5 = some 1 := by kernel_rfl
theorem ag5_U8 : aggT Go.Proofs.Tryd.prog 5 = some false := by kernel_rfl
theorem ht69_U8 : hasText Go.Proofs.Tryd.prog 69 = true := by kernel_rfl
theorem mixed_U8 : Go.Proofs.Tryd.prog.follows .mixedOrders = true := by kernel_rfl
theorem fo114_5_U8 : fieldOff Go.Proofs.Tryd.prog 114 5 = some 6 := by kernel_rfl
theorem ag9_U8 : aggT Go.Proofs.Tryd.prog 9 = some false := by kernel_rfl
theorem fo114_6_U8 : fieldOff Go.Proofs.Tryd.prog 114 6 = some 7 := by kernel_rfl
theorem ht62_U8 : hasText Go.Proofs.Tryd.prog 62 = true := by kernel_rfl
theorem fo118_9_U8 : fieldOff Go.Proofs.Tryd.prog 118 9 = some 10 := by kernel_rfl
theorem sz4_U8 : sizeT Go.Proofs.Tryd.prog 4 = some 1 := by kernel_rfl
theorem fo118_5_U8 : fieldOff Go.Proofs.Tryd.prog 118 5 = some 6 := by kernel_rfl
theorem sz9_U8 : sizeT Go.Proofs.Tryd.prog 9 = some 1 := by kernel_rfl
theorem ht71_U8 : hasText Go.Proofs.Tryd.prog 71 = true := by kernel_rfl

open Go.Proofs.YtmnhfpcbfdgbcaaDoor.Eng.Er Go.Proofs.YtmnhfpcbfdgbcaaDoor.Eng.Er2

def F_qKinds_b0 (x_4 : (ByteArray)) (t_6 : Bool × Bool × Int) : Option ((Bool × Bool × Int) ⊕ ((Bool × Bool))) :=
  ifb (decide (t_6.2.2 < (x_4.size : Int))) (grd ((t_6.1 == false) = true → Below t_6.2.2 x_4.size) <| grd ((t_6.2.1 == false) = true → Below t_6.2.2 x_4.size) <| some (.inl ((t_6.1 || (decide ((byteAt x_4 t_6.2.2) = 102))), (t_6.2.1 || (decide ((byteAt x_4 t_6.2.2) = 107))), IntKind.i64.wrap (t_6.2.2 + 1)))) (some (.inr (t_6.1, t_6.2.1)))
def F_qKinds (fl : Nat) (p0 : Int) (p1 : Rq) : Option (Bool) :=
  bnd (F_qenc fl (⟨p0, 0, 0, (⟨0, 0⟩ : Rf), 0, ⟨#[]⟩, ⟨#[]⟩, 0, 0, false⟩ : Rq)) fun x_1 => grd (((((x_1.2.isNone != ((decide (1 ≤ p0)) && (decide (p0 ≤ 12)))) == false) && (x_1.2.isNone == true)) && ((decide ((x_1.1.length : Int) < 2)) == false)) = true → Below 0 x_1.1.length) <| bnd (gif (((x_1.2.isNone != ((decide (1 ≤ p0)) && (decide (p0 ≤ 12)))) || (x_1.2.isNone && ((decide ((x_1.1.length : Int) < 2)) || (decide ((x_1.1.getD (0 : Int).toNat default) ≠ p0))))) == false) (F_qform p0)) fun x_2 => ifb (((x_1.2.isNone != ((decide (1 ≤ p0)) && (decide (p0 ≤ 12)))) || (x_1.2.isNone && ((decide ((x_1.1.length : Int) < 2)) || (decide ((x_1.1.getD (0 : Int).toNat default) ≠ p0))))) || ((decide (x_2 = ⟨#[]⟩)) != x_1.2.isSome)) (some false) (ifb (((decide (100 < (p1.Key.size : Int))) || (decide (3000 < (p1.Value.size : Int)))) || x_1.2.isSome) (bnd (F_sure35 fl) fun x_3 => some x_3) (bnd (F_qform p0) fun x_4 => bnd (lp (F_qKinds_b0 x_4) fl (false, false, 0)) fun z_5 => bnd (F_qcheck fl (⟨p0, 0, 0, (⟨0, 0⟩ : Rf), 0, ⟨#[]⟩, ⟨#[]⟩, 0, 0, true⟩ : Rq)) fun x_8 => bnd (gif ((x_8.isNone == z_5.1) == true) (F_qcheck fl (⟨p0, 0, 0, (⟨0, 0⟩ : Rf), 0, ⟨#[97]⟩, ⟨#[]⟩, 0, 0, false⟩ : Rq))) fun x_9 => bnd (gif (((x_8.isNone == z_5.1) && (x_9.isNone == z_5.2)) == true) (F_sure35 fl)) fun x_10 => some (((x_8.isNone == z_5.1) && (x_9.isNone == z_5.2)) && x_10)))
set_option maxRecDepth 100000 in
set_option maxHeartbeats 2000000 in
theorem c_qKinds {fl : Nat} {p0 : Int} {p1 : Rq} {R : Bool} {s : St} (h0 : F_qKinds fl p0 p1 = some R) (hst : StGV s) : AC Go.Proofs.Tryd.prog 14 [pl (.int .u8 p0), agg [pl (.int .u8 p1.Kind), pl (.int .u64 p1.Space), pl (.int .u64 p1.Handle), pl (.int .i64 p1.Ref.Slot), pl (.int .u64 p1.Ref.Gen), pl (.int .u64 p1.To), pl (.string p1.Key), pl (.string p1.Value), pl (.int .u8 p1.Rights), pl (.int .u64 p1.Most), pl (.bool p1.Flag)]] s (pl (.bool R)) s := by
  unfold F_qKinds at h0
  refine ac_of_aw s.boxes.length s.fr.length Go.Proofs.Tryd.func14 rfl (by simp [Go.Proofs.Tryd.ntmps14]) ?_
  refine aw_ext0 ?_
  refine aw_keep [(0, _), (1, _)] ⟨lg ez, lg (es ez), trivial⟩ ?_
  refine aw_seq ?_
  refine aw_region (by decide) ?_
  refine rts _ rfl (boxAN rfl (os rfl oz) (bnd_cons (pl_bnd _ _ _) (bnd_cons (pl_bnd _ _ _) (bnd_cons (pl_bnd _ _ _) (bnd_cons (pl_bnd _ _ _) (bnd_cons (pl_bnd _ _ _) (bnd_cons (pl_bnd _ _ _) (bnd_cons (pl_bnd _ _ _) (bnd_cons (pl_bnd _ _ _) (bnd_cons (pl_bnd _ _ _) (bnd_cons (pl_bnd _ _ _) (bnd_cons (pl_bnd _ _ _) bnd_nil))))))))))) (by first | exact List.length_nil | (simp only [List.length_cons, List.length_nil, Nat.zero_add, Nat.reduceAdd] <;> rfl)) (by simp only [na, nb, nc, nd, nf, ng, nh, ni, nj, nk] <;> rfl)) ?_
  refine rts _ rfl (opD_assign (ev_const _ _)) ?_
  refine .nil ?_
  refine aw_keep [(0, _), (3, _)] ⟨lg (ls rfl (ls rfl oz)), lg (ls rfl lz), trivial⟩ ?_
  refine aw_seq ?_
  refine aw_region (by decide) ?_
  refine rts _ rfl (opD_move oz) ?_
  refine rts _ rfl (opD_build_struct (rs := [_, _, _, _, _, _, _, _, _, _, _]) Go.Proofs.Tryd.underlying118 pt118_U8 zt118_U8 (parts_cons (cells1 lz (one_pl rfl)) parts_nil) rfl) ?_
  refine rts _ rfl (allocN rfl zt118_U8 (by first | exact List.length_nil | (simp only [List.length_cons, List.length_nil, Nat.zero_add, Nat.reduceAdd] <;> rfl)) (by simp only [na, nb, nc, nd, nf, ng, nh, ni, nj, nk] <;> rfl)) ?_
  refine rts _ rfl (storeAN rfl sz118_U8 lz (ls rfl lz) (ones_cons (one_pl rfl) (ones_cons (one_pl rfl) (ones_cons (one_pl rfl) (ones_cons (one_pl rfl) (ones_cons (one_pl rfl) (ones_cons (one_pl rfl) (ones_cons (one_pl rfl) (ones_cons (one_pl rfl) (ones_cons (one_pl rfl) (ones_cons (one_pl rfl) (ones_cons (one_pl rfl) ones_nil))))))))))) rfl rfl (Nat.le_of_ble_eq_true rfl) (List.cons_ne_nil _ _) (bnd_cons (pl_bnd _ _ _) (bnd_cons (pl_bnd _ _ _) (bnd_cons (pl_bnd _ _ _) (bnd_cons (pl_bnd _ _ _) (bnd_cons (pl_bnd _ _ _) (bnd_cons (pl_bnd _ _ _) (bnd_cons (pl_bnd _ _ _) (bnd_cons (pl_bnd _ _ _) (bnd_cons (pl_bnd _ _ _) (bnd_cons (pl_bnd _ _ _) (bnd_cons (pl_bnd _ _ _) bnd_nil))))))))))) (by simp only [na, nb, nc, nd, nf, ng, nh, ni, nj, nk] <;> rfl) (by simp only [na, nb, nc, nd, nf, ng, nh, ni, nj, nk] <;> rfl)) ?_
  refine .nil ?_
  refine aw_keep [(0, _), (3, _), (5, _)] ⟨lg (lx (ls rfl (ls rfl (ls rfl oz)))), lg (lx (ls rfl (ls rfl (ls rfl (os rfl oz))))), lg (lx lz), trivial⟩ ?_
  refine aw_seq ?_
  refine aw_region (by decide) ?_
  refine rts _ rfl (opD_load_aggX (qs := [_, _, _, _, _, _, _, _, _, _, _]) ag118_U8 sz118_U8 (os rfl (os rfl oz)) (loc_getN rfl rfl) (Nat.le_of_ble_eq_true rfl) rfl) ?_
  replace h0 := bnd_some h0
  obtain ⟨x_1, hx_1, h0⟩ := h0
  refine rts _ rfl (opD_pure ht63_U8 (c_qenc hx_1) ⟨(le_of_eq lz).trans (agg_le ⟨(Pd.le_refl _), (Pd.le_refl _), (Pd.le_refl _), (Pd.le_refl _), (Pd.le_refl _), (Pd.le_refl _), (Pd.le_refl _), (Pd.le_refl _), (Pd.le_refl _), (Pd.le_refl _), (Pd.le_refl _), trivial⟩), trivial⟩) ?_
  refine rts _ rfl (opD_move lz) ?_
  refine rts _ rfl (opD_extract lz rfl) ?_
  refine rts _ rfl (opD_extract (ls rfl lz) rfl) ?_
  refine rts _ rfl (opD_assign (ls rfl lz)) ?_
  refine rts _ rfl (opD_assign (ls rfl lz)) ?_
  refine .nil ?_
  refine aw_keep [(0, _), (3, _), (5, _), (6, _), (7, _)] ⟨lg (ls rfl (ls rfl (ls rfl (ls rfl (ls rfl (ls rfl (ls rfl oz))))))), lg (ls rfl (ls rfl (ls rfl (ls rfl (ls rfl (ls rfl (ls rfl (os rfl oz)))))))), lg (ls rfl (ls rfl (ls rfl (ls rfl (ls rfl (ls rfl (ls rfl (os rfl (os rfl oz))))))))), lg (ls rfl lz), lg lz, trivial⟩ ?_
  refine aw_seq ?_
  refine aw_seq ?_
  refine aw_flat mixed_U8 (by decide +kernel) ?_
  refine zts _ rfl (opD_move (os rfl (os rfl (os rfl (os rfl oz))))) ?_
  refine zts _ rfl (opD_bin lz (ev_const _ _) (fun w => errV_geql _ w _) (fun w => errV_eql _ w)) ?_
  refine zts _ rfl (opD_move (ls rfl (ls rfl oz))) ?_
  refine zts _ rfl (opD_geq lz (ev_const _ _)) ?_
  refine zts _ rfl (opD_move lz) ?_
  refine ztg _ rfl lz (fun hg3_5_24 => opD_move (ls rfl (ls rfl (ls rfl (ls rfl (ls rfl oz)))))) ?_
  refine ztg _ rfl (ls rfl lz) (fun hg3_6_25 => opD_leq (lz.trans (pif_pos hg3_6_25)) (ev_const _ _)) ?_
  refine zts _ rfl (opD_and (ls rfl (ls rfl lz)) lz) ?_
  refine zts _ rfl (opD_bneq Go.Proofs.Tryd.underlying4 (ls rfl (ls rfl (ls rfl (ls rfl (ls rfl (ls rfl lz)))))) lz) ?_
  refine zts _ rfl (opD_move lz) ?_
  refine ztg _ rfl lz (fun hg3_10_26 => opD_move (ls rfl (ls rfl (ls rfl (ls rfl (ls rfl (ls rfl (ls rfl (ls rfl (ls rfl (ls rfl (os rfl (os rfl (os rfl (os rfl oz))))))))))))))) ?_
  refine ztg _ rfl (ls rfl lz) (fun hg3_11_27 => opD_bin (lz.trans (pif_pos hg3_11_27)) (ev_const _ _) (fun w => errV_geql _ w _) (fun w => errV_eql _ w)) ?_
  refine ztg _ rfl (ls rfl (ls rfl lz)) (fun hg3_12_28 => opD_move (lz.trans (pif_pos hg3_12_28))) ?_
  refine ztg2 _ rfl lz (fun hg3_13_29 => opD_move (ls rfl (ls rfl (ls rfl (ls rfl (ls rfl (ls rfl (ls rfl (ls rfl (ls rfl (ls rfl (ls rfl (ls rfl (ls rfl (os rfl (os rfl (os rfl oz))))))))))))))))) ?_
  refine ztg2 _ rfl (ls rfl lz) (fun hg3_14_30 => opD_len_sl Go.Proofs.Tryd.underlying23 (lz.trans (pif_pos hg3_14_30))) ?_
  refine ztg2 _ rfl (ls rfl (ls rfl lz)) (fun hg3_15_31 => opD_lss (lz.trans (pif_pos hg3_15_31)) (ev_const _ _)) ?_
  refine ztg2 _ rfl (ls rfl (ls rfl (ls rfl lz))) (fun hg3_16_32 => opD_move (lz.trans (pif_pos hg3_16_32))) ?_
  refine ztg2 _ rfl lz (fun hg3_17_33 => opD_move (ls rfl (ls rfl (ls rfl (ls rfl (ls rfl (ls rfl (ls rfl (ls rfl (ls rfl (ls rfl (ls rfl (ls rfl (ls rfl (ls rfl (ls rfl (ls rfl (ls rfl (os rfl (os rfl (os rfl oz))))))))))))))))))))) ?_
  replace h0 := grd_some h0
  obtain ⟨hg_35, h0⟩ := h0
  refine ztg2 _ rfl (ls rfl lz) (fun hg3_18_34 => opD_indexAddr_sl (i := (0 : Int).toNat) Go.Proofs.Tryd.underlying23 sz5_U8 (lz.trans (pif_pos hg3_18_34)) (ev_const _ _) (hg_35 hg3_18_34).eq (hg_35 hg3_18_34).2) ?_
  refine ztg2 _ rfl (ls rfl (ls rfl lz)) (fun hg3_19_36 => opD_load_el_one ag5_U8 (lz.trans (pif_pos hg3_19_36)) (at_getD default (hg_35 hg3_19_36).2) rfl) ?_
  refine ztg2 _ rfl (ls rfl (ls rfl (ls rfl lz))) (fun hg3_20_37 => opD_move (ls rfl (ls rfl (ls rfl (ls rfl (ls rfl (ls rfl (ls rfl (ls rfl (ls rfl (ls rfl (ls rfl (ls rfl (ls rfl (ls rfl (ls rfl (ls rfl (ls rfl (ls rfl (ls rfl (ls rfl oz))))))))))))))))))))) ?_
  refine ztg2 _ rfl (ls rfl (ls rfl (ls rfl (ls rfl lz)))) (fun hg3_21_38 => opD_neq ((ls rfl lz).trans (pif_pos hg3_21_38)) (lz.trans (pif_pos hg3_21_38))) ?_
  refine ztg2 _ rfl (ls rfl (ls rfl (ls rfl (ls rfl (ls rfl (ls rfl (ls rfl (ls rfl (ls rfl lz))))))))) (fun hg3_22_39 => opD_or ((ls rfl (ls rfl (ls rfl (ls rfl (ls rfl lz))))).trans (pif_pos hg3_22_39)) (lz.trans (pif_and hg3_22_39))) ?_
  refine ztg _ rfl (ls rfl (ls rfl (ls rfl (ls rfl (ls rfl (ls rfl (ls rfl (ls rfl (ls rfl (ls rfl (ls rfl (ls rfl (ls rfl lz))))))))))))) (fun hg3_23_40 => opD_and ((ls rfl (ls rfl (ls rfl (ls rfl (ls rfl (ls rfl (ls rfl (ls rfl (ls rfl (ls rfl lz)))))))))).trans (pif_pos hg3_23_40)) (lz.trans (pif_and hg3_23_40))) ?_
  refine zts _ rfl (opD_or (ls rfl (ls rfl (ls rfl (ls rfl (ls rfl (ls rfl (ls rfl (ls rfl (ls rfl (ls rfl (ls rfl (ls rfl (ls rfl (ls rfl lz)))))))))))))) lz) ?_
  refine zts _ rfl (opD_move lz) ?_
  refine ztg _ rfl lz (fun hg3_26_41 => opD_move (ls rfl (ls rfl (ls rfl (ls rfl (ls rfl (ls rfl (ls rfl (ls rfl (ls rfl (ls rfl (ls rfl (ls rfl (ls rfl (ls rfl (ls rfl (ls rfl (ls rfl (ls rfl (ls rfl (ls rfl (ls rfl (ls rfl (ls rfl (ls rfl (ls rfl (ls rfl oz))))))))))))))))))))))))))) ?_
  replace h0 := bnd_some h0
  obtain ⟨x_2, hx_2, h0⟩ := h0
  refine ztg _ rfl (ls rfl lz) (fun hg3_27_42 => opD_pure ht69_U8 (c_qform (gif_some hx_2 hg3_27_42)) ⟨le_of_eq (lz.trans (pif_pos hg3_27_42)), trivial⟩) ?_
  refine ztg _ rfl (ls rfl (ls rfl lz)) (fun hg3_28_43 => opD_seql (lz.trans (pif_pos hg3_28_43)) (ev_const _ _)) ?_
  refine ztg _ rfl (ls rfl (ls rfl (ls rfl lz))) (fun hg3_29_44 => opD_move (ls rfl (ls rfl (ls rfl (ls rfl (ls rfl (ls rfl (ls rfl (ls rfl (ls rfl (ls rfl (ls rfl (ls rfl (ls rfl (ls rfl (ls rfl (ls rfl (ls rfl (ls rfl (ls rfl (ls rfl (ls rfl (ls rfl (ls rfl (ls rfl (ls rfl (ls rfl (ls rfl (ls rfl (ls rfl (os rfl (os rfl (os rfl (os rfl oz)))))))))))))))))))))))))))))))))) ?_
  refine ztg _ rfl (ls rfl (ls rfl (ls rfl (ls rfl lz)))) (fun hg3_30_45 => opD_bin (lz.trans (pif_pos hg3_30_45)) (ev_const _ _) (fun w => errV_guard _ w _) (fun w => errV_beq _ w)) ?_
  refine ztg _ rfl (ls rfl (ls rfl (ls rfl (ls rfl (ls rfl lz))))) (fun hg3_31_46 => opD_bneq Go.Proofs.Tryd.underlying4 ((ls rfl (ls rfl lz)).trans (pif_pos hg3_31_46)) (lz.trans (pif_pos hg3_31_46))) ?_
  refine zts _ rfl (opD_or (ls rfl (ls rfl (ls rfl (ls rfl (ls rfl (ls rfl lz)))))) lz) ?_
  refine .nil ?_
  refine aw_keep [(0, _), (3, _), (5, _), (7, _), (53, _)] ⟨lg (ls rfl (ls rfl (ls rfl (ls rfl (ls rfl (ls rfl (ls rfl (ls rfl (ls rfl (ls rfl (ls rfl (ls rfl (ls rfl (ls rfl (ls rfl (ls rfl (ls rfl (ls rfl (ls rfl (ls rfl (ls rfl (ls rfl (ls rfl (ls rfl (ls rfl (ls rfl (ls rfl (ls rfl (ls rfl (ls rfl (ls rfl (ls rfl (ls rfl oz))))))))))))))))))))))))))))))))), lg (ls rfl (ls rfl (ls rfl (ls rfl (ls rfl (ls rfl (ls rfl (ls rfl (ls rfl (ls rfl (ls rfl (ls rfl (ls rfl (ls rfl (ls rfl (ls rfl (ls rfl (ls rfl (ls rfl (ls rfl (ls rfl (ls rfl (ls rfl (ls rfl (ls rfl (ls rfl (ls rfl (ls rfl (ls rfl (ls rfl (ls rfl (ls rfl (ls rfl (os rfl oz)))))))))))))))))))))))))))))))))), lg (ls rfl (ls rfl (ls rfl (ls rfl (ls rfl (ls rfl (ls rfl (ls rfl (ls rfl (ls rfl (ls rfl (ls rfl (ls rfl (ls rfl (ls rfl (ls rfl (ls rfl (ls rfl (ls rfl (ls rfl (ls rfl (ls rfl (ls rfl (ls rfl (ls rfl (ls rfl (ls rfl (ls rfl (ls rfl (ls rfl (ls rfl (ls rfl (ls rfl (os rfl (os rfl oz))))))))))))))))))))))))))))))))))), lg (ls rfl (ls rfl (ls rfl (ls rfl (ls rfl (ls rfl (ls rfl (ls rfl (ls rfl (ls rfl (ls rfl (ls rfl (ls rfl (ls rfl (ls rfl (ls rfl (ls rfl (ls rfl (ls rfl (ls rfl (ls rfl (ls rfl (ls rfl (ls rfl (ls rfl (ls rfl (ls rfl (ls rfl (ls rfl (ls rfl (ls rfl (ls rfl (ls rfl (os rfl (os rfl (os rfl (os rfl oz))))))))))))))))))))))))))))))))))))), lg lz, trivial⟩ ?_
  refine aw_cond _ (os rfl (os rfl (os rfl (os rfl oz)))) (fun hc => ?_) (fun hc => ?_)
  · skip
    replace h0 := ifb_t h0 hc
    clear hc
    refine aw_seq ?_
    refine aw_region (by decide) ?_
    refine rts _ rfl (opD_assign (ev_const _ _)) ?_
    refine .nil ?_
    refine aw_keep [(4, _)] ⟨lg lz, trivial⟩ ?_
    refine aw_ret ?_
    obtain rfl := some_of h0
    exact done_ext (.inr rfl) ((res_one rfl (it_tmp oz)).le (Pd.le_refl _)) (pl_bnd _ _ _)
  · skip
    replace h0 := ifb_f h0 hc
    clear hc
    refine aw_skip ?_
    refine aw_keep [(0, _), (3, _), (5, _), (7, _)] ⟨lg oz, lg (os rfl oz), lg (os rfl (os rfl oz)), lg (os rfl (os rfl (os rfl oz))), trivial⟩ ?_
    refine aw_seq ?_
    refine aw_seq ?_
    refine aw_region (by decide) ?_
    refine rts _ rfl (opD_fieldAddr fo114_5_U8 (os rfl oz)) ?_
    refine rts _ rfl (opD_load_one ag9_U8 lz (loc_getN rfl rfl) rfl) ?_
    refine rts _ rfl (opD_len_str Go.Proofs.Tryd.underlying9 lz) ?_
    refine rts _ rfl (opD_gtr lz (ev_const _ _)) ?_
    refine rts _ rfl (opD_move lz) ?_
    refine rtg _ rfl lz (fun hg5_5_47 => opD_fieldAddr fo114_6_U8 (ls rfl (ls rfl (ls rfl (ls rfl (ls rfl (os rfl oz))))))) ?_
    refine rtg _ rfl (ls rfl lz) (fun hg5_6_48 => opD_load_one ag9_U8 (lz.trans (pif_pos hg5_6_48)) (loc_getN rfl rfl) rfl) ?_
    refine rtg _ rfl (ls rfl (ls rfl lz)) (fun hg5_7_49 => opD_len_str Go.Proofs.Tryd.underlying9 (lz.trans (pif_pos hg5_7_49))) ?_
    refine rtg _ rfl (ls rfl (ls rfl (ls rfl lz))) (fun hg5_8_50 => opD_gtr (lz.trans (pif_pos hg5_8_50)) (ev_const _ _)) ?_
    refine rts _ rfl (opD_or (ls rfl (ls rfl (ls rfl (ls rfl lz)))) lz) ?_
    refine rts _ rfl (opD_move lz) ?_
    refine rtg _ rfl lz (fun hg5_11_51 => opD_move (ls rfl (ls rfl (ls rfl (ls rfl (ls rfl (ls rfl (ls rfl (ls rfl (ls rfl (ls rfl (ls rfl (os rfl (os rfl (os rfl oz))))))))))))))) ?_
    refine rtg _ rfl (ls rfl lz) (fun hg5_12_52 => opD_bin (lz.trans (pif_pos hg5_12_52)) (ev_const _ _) (fun w => errV_guard _ w _) (fun w => errV_beq _ w)) ?_
    refine rts _ rfl (opD_or (ls rfl (ls rfl lz)) lz) ?_
    refine .nil ?_
    refine aw_keep [(0, _), (5, _), (67, _)] ⟨lg (ls rfl (ls rfl (ls rfl (ls rfl (ls rfl (ls rfl (ls rfl (ls rfl (ls rfl (ls rfl (ls rfl (ls rfl (ls rfl (ls rfl oz)))))))))))))), lg (ls rfl (ls rfl (ls rfl (ls rfl (ls rfl (ls rfl (ls rfl (ls rfl (ls rfl (ls rfl (ls rfl (ls rfl (ls rfl (ls rfl (os rfl (os rfl oz)))))))))))))))), lg lz, trivial⟩ ?_
    refine aw_cond _ (os rfl (os rfl oz)) (fun hc => ?_) (fun hc => ?_)
    · skip
      replace h0 := ifb_t h0 hc
      clear hc
      refine aw_seq ?_
      refine aw_region (by decide) ?_
      replace h0 := bnd_some h0
      obtain ⟨x_3, hx_3, h0⟩ := h0
      refine rts _ rfl (opD_call ht62_U8 (c_sure35 hx_3 hst) trivial) ?_
      refine rts _ rfl (opD_assign lz) ?_
      refine .nil ?_
      refine aw_keep [(4, _)] ⟨lg lz, trivial⟩ ?_
      refine aw_ret ?_
      obtain rfl := some_of h0
      exact done_ext (.inr rfl) ((res_one rfl (it_tmp oz)).le (Pd.le_refl _)) (pl_bnd _ _ _)
    · skip
      replace h0 := ifb_f h0 hc
      clear hc
      refine aw_skip ?_
      refine aw_keep [(0, _), (5, _)] ⟨lg oz, lg (os rfl oz), trivial⟩ ?_
      refine aw_seq ?_
      refine aw_region (by decide) ?_
      refine rts _ rfl (opD_move oz) ?_
      replace h0 := bnd_some h0
      obtain ⟨x_4, hx_4, h0⟩ := h0
      refine rts _ rfl (opD_pure ht69_U8 (c_qform hx_4) ⟨le_of_eq lz, trivial⟩) ?_
      refine rts _ rfl (opD_assign lz) ?_
      refine .nil ?_
      refine aw_keep [(5, _), (8, _)] ⟨lg (ls rfl (ls rfl (ls rfl (os rfl oz)))), lg lz, trivial⟩ ?_
      refine aw_seq ?_
      refine aw_region (by decide) ?_
      refine rts _ rfl (opD_assign (ev_const _ _)) ?_
      refine rts _ rfl (opD_assign (ev_const _ _)) ?_
      refine .nil ?_
      refine aw_keep [(5, _), (8, _), (9, _), (10, _)] ⟨lg (ls rfl (ls rfl oz)), lg (ls rfl (ls rfl (os rfl oz))), lg (ls rfl lz), lg lz, trivial⟩ ?_
      refine aw_seq ?_
      refine aw_seq ?_
      refine aw_region (by decide) ?_
      refine rts _ rfl (opD_assign (ev_const _ _)) ?_
      refine .nil ?_
      refine aw_keep [(5, _), (8, _), (9, _), (10, _), (11, _)] ⟨lg (ls rfl oz), lg (ls rfl (os rfl oz)), lg (ls rfl (os rfl (os rfl oz))), lg (ls rfl (os rfl (os rfl (os rfl oz)))), lg lz, trivial⟩ ?_
      replace h0 := bnd_some h0
      obtain ⟨z_5, hz_5, h0⟩ := h0
      refine aw_mid (fun e st => ∃ v : Bool × Bool, Holds e [(5, ptr (s.boxes.length + 1) 0), (9, pl (.bool v.1)), (10, pl (.bool v.2))] ∧ st = s.ext [⟨114, [pl (.int .u8 p1.Kind), pl (.int .u64 p1.Space), pl (.int .u64 p1.Handle), pl (.int .i64 p1.Ref.Slot), pl (.int .u64 p1.Ref.Gen), pl (.int .u64 p1.To), pl (.string p1.Key), pl (.string p1.Value), pl (.int .u8 p1.Rights), pl (.int .u64 p1.Most), pl (.bool p1.Flag)]⟩, ⟨118, [pl (.int .u8 p0), pl (.int .u64 0), pl (.int .u64 0), pl (.int .i64 0), pl (.int .u64 0), pl (.int .u64 0), pl (.string ⟨#[]⟩), pl (.string ⟨#[]⟩), pl (.int .u8 0), pl (.int .u64 0), pl (.bool false)]⟩] [] ∧ v = z_5) ?_ ?_
      · skip
        refine aw_wkN rfl 2 0 rfl rfl ?_
        refine aw_block ?_
        refine aw_loop (fun n e st => ∃ v : Bool × Bool × Int, Holds e [(5, ptr (s.boxes.length + 1) 0), (8, pl (.string x_4)), (9, pl (.bool v.1)), (10, pl (.bool v.2.1)), (11, pl (.int .i64 v.2.2))] ∧ st = s.ext [⟨114, [pl (.int .u8 p1.Kind), pl (.int .u64 p1.Space), pl (.int .u64 p1.Handle), pl (.int .i64 p1.Ref.Slot), pl (.int .u64 p1.Ref.Gen), pl (.int .u64 p1.To), pl (.string p1.Key), pl (.string p1.Value), pl (.int .u8 p1.Rights), pl (.int .u64 p1.Most), pl (.bool p1.Flag)]⟩, ⟨118, [pl (.int .u8 p0), pl (.int .u64 0), pl (.int .u64 0), pl (.int .i64 0), pl (.int .u64 0), pl (.int .u64 0), pl (.string ⟨#[]⟩), pl (.string ⟨#[]⟩), pl (.int .u8 0), pl (.int .u64 0), pl (.bool false)]⟩] [] ∧ lp (F_qKinds_b0 x_4) n v = some z_5) fl ⟨(false, false, 0), ⟨le_of_eq (eg oz), le_of_eq (eg (os rfl oz)), le_of_eq (eg (os rfl (os rfl oz))), le_of_eq (eg (os rfl (os rfl (os rfl oz)))), le_of_eq (eg (os rfl (os rfl (os rfl (os rfl oz))))), trivial⟩, rfl, hz_5⟩ ?_
        rintro n e st ⟨t_6, hH, rfl, hz_5⟩
        replace hz_5 := lp_some hz_5
        obtain ⟨m_z_7, z_7, rfl, hz_7, hz_5⟩ := hz_5
        unfold F_qKinds_b0 at hz_7
        refine aw_keep _ hH ?_
        refine aw_wkN rfl 2 0 rfl rfl ?_
        refine aw_seq ?_
        refine aw_seq ?_
        refine aw_region (by decide) ?_
        refine rts _ rfl (opD_move (os rfl (os rfl (os rfl (os rfl oz))))) ?_
        refine rts _ rfl (opD_move (ls rfl (os rfl oz))) ?_
        refine rts _ rfl (opD_len_str Go.Proofs.Tryd.underlying9 lz) ?_
        refine rts _ rfl (opD_lss (ls rfl (ls rfl lz)) lz) ?_
        refine .nil ?_
        refine aw_keep [(5, _), (8, _), (9, _), (10, _), (11, _), (74, _)] ⟨lg (ls rfl (ls rfl (ls rfl (ls rfl oz)))), lg (ls rfl (ls rfl (ls rfl (ls rfl (os rfl oz))))), lg (ls rfl (ls rfl (ls rfl (ls rfl (os rfl (os rfl oz)))))), lg (ls rfl (ls rfl (ls rfl (ls rfl (os rfl (os rfl (os rfl oz))))))), lg (ls rfl (ls rfl (ls rfl (ls rfl (os rfl (os rfl (os rfl (os rfl oz)))))))), lg lz, trivial⟩ ?_
        refine aw_cond _ (os rfl (os rfl (os rfl (os rfl (os rfl oz))))) (fun hc => ?_) (fun hc => ?_)
        · skip
          replace hz_7 := ifb_t hz_7 hc
          clear hc
          refine aw_skip ?_
          refine aw_keep [(5, _), (8, _), (9, _), (10, _), (11, _)] ⟨lg oz, lg (os rfl oz), lg (os rfl (os rfl oz)), lg (os rfl (os rfl (os rfl oz))), lg (os rfl (os rfl (os rfl (os rfl oz)))), trivial⟩ ?_
          refine aw_seq ?_
          refine aw_block ?_
          refine aw_seq ?_
          refine aw_region (by decide) ?_
          refine rts _ rfl (opD_move (os rfl (os rfl oz))) ?_
          refine rts _ rfl (opD_move lz) ?_
          refine rtg _ rfl lz (fun hg12_2_83 => opD_move (ls rfl (ls rfl (os rfl oz)))) ?_
          refine rtg _ rfl (ls rfl lz) (fun hg12_3_84 => opD_move (ls rfl (ls rfl (ls rfl (os rfl (os rfl (os rfl (os rfl oz)))))))) ?_
          replace hz_7 := grd_some hz_7
          obtain ⟨hg_86, hz_7⟩ := hz_7
          refine rtg _ rfl (ls rfl (ls rfl lz)) (fun hg12_4_85 => opD_index_str Go.Proofs.Tryd.underlying9 ((ls rfl lz).trans (pif_pos hg12_4_85)) (lz.trans (pif_pos hg12_4_85)) (hg_86 hg12_4_85)) ?_
          refine rtg _ rfl (ls rfl (ls rfl (ls rfl lz))) (fun hg12_5_87 => opD_eql (lz.trans (pif_pos hg12_5_87)) (ev_const _ _)) ?_
          refine rts _ rfl (opD_or (ls rfl (ls rfl (ls rfl (ls rfl lz)))) lz) ?_
          refine rts _ rfl (opD_assign lz) ?_
          refine .nil ?_
          refine aw_keep [(5, _), (8, _), (9, _), (10, _), (11, _)] ⟨lg (ls rfl (ls rfl (ls rfl (ls rfl (ls rfl (ls rfl (ls rfl (ls rfl oz)))))))), lg (ls rfl (ls rfl (ls rfl (ls rfl (ls rfl (ls rfl (ls rfl (ls rfl (os rfl oz))))))))), lg lz, lg (ls rfl (ls rfl (ls rfl (ls rfl (ls rfl (ls rfl (ls rfl (ls rfl (os rfl (os rfl (os rfl oz))))))))))), lg (ls rfl (ls rfl (ls rfl (ls rfl (ls rfl (ls rfl (ls rfl (ls rfl (os rfl (os rfl (os rfl (os rfl oz)))))))))))), trivial⟩ ?_
          refine aw_region (by decide) ?_
          refine rts _ rfl (opD_move (os rfl (os rfl (os rfl oz)))) ?_
          refine rts _ rfl (opD_move lz) ?_
          refine rtg _ rfl lz (fun hg13_2_88 => opD_move (ls rfl (ls rfl (os rfl oz)))) ?_
          refine rtg _ rfl (ls rfl lz) (fun hg13_3_89 => opD_move (ls rfl (ls rfl (ls rfl (os rfl (os rfl (os rfl (os rfl oz)))))))) ?_
          replace hz_7 := grd_some hz_7
          obtain ⟨hg_91, hz_7⟩ := hz_7
          refine rtg _ rfl (ls rfl (ls rfl lz)) (fun hg13_4_90 => opD_index_str Go.Proofs.Tryd.underlying9 ((ls rfl lz).trans (pif_pos hg13_4_90)) (lz.trans (pif_pos hg13_4_90)) (hg_91 hg13_4_90)) ?_
          refine rtg _ rfl (ls rfl (ls rfl (ls rfl lz))) (fun hg13_5_92 => opD_eql (lz.trans (pif_pos hg13_5_92)) (ev_const _ _)) ?_
          refine rts _ rfl (opD_or (ls rfl (ls rfl (ls rfl (ls rfl lz)))) lz) ?_
          refine rts _ rfl (opD_assign lz) ?_
          refine .nil ?_
          refine aw_keep [(5, _), (8, _), (9, _), (10, _), (11, _)] ⟨lg (ls rfl (ls rfl (ls rfl (ls rfl (ls rfl (ls rfl (ls rfl (ls rfl oz)))))))), lg (ls rfl (ls rfl (ls rfl (ls rfl (ls rfl (ls rfl (ls rfl (ls rfl (os rfl oz))))))))), lg (ls rfl (ls rfl (ls rfl (ls rfl (ls rfl (ls rfl (ls rfl (ls rfl (os rfl (os rfl oz)))))))))), lg lz, lg (ls rfl (ls rfl (ls rfl (ls rfl (ls rfl (ls rfl (ls rfl (ls rfl (os rfl (os rfl (os rfl (os rfl oz)))))))))))), trivial⟩ ?_
          refine aw_region (by decide) ?_
          refine rts _ rfl (opD_move (os rfl (os rfl (os rfl (os rfl oz))))) ?_
          refine rts _ rfl (opD_add lz (ev_const _ _) rfl) ?_
          refine rts _ rfl (opD_assign lz) ?_
          refine .nil ?_
          obtain rfl := some_of hz_7
          replace hz_5 := ocs_l hz_5
          refine wk_yesN rfl (l := [(5, ptr (s.boxes.length + 1) 0), (8, pl (.string x_4)), (9, pl (.bool (t_6.1 || (decide ((byteAt x_4 t_6.2.2) = 102))))), (10, pl (.bool (t_6.2.1 || (decide ((byteAt x_4 t_6.2.2) = 107))))), (11, pl (.int .i64 (IntKind.i64.wrap (t_6.2.2 + 1))))]) (bs' := [⟨114, [pl (.int .u8 p1.Kind), pl (.int .u64 p1.Space), pl (.int .u64 p1.Handle), pl (.int .i64 p1.Ref.Slot), pl (.int .u64 p1.Ref.Gen), pl (.int .u64 p1.To), pl (.string p1.Key), pl (.string p1.Value), pl (.int .u8 p1.Rights), pl (.int .u64 p1.Most), pl (.bool p1.Flag)]⟩, ⟨118, [pl (.int .u8 p0), pl (.int .u64 0), pl (.int .u64 0), pl (.int .i64 0), pl (.int .u64 0), pl (.int .u64 0), pl (.string ⟨#[]⟩), pl (.string ⟨#[]⟩), pl (.int .u8 0), pl (.int .u64 0), pl (.bool false)]⟩]) ⟨le_of_eq (eg (ls rfl (ls rfl (ls rfl oz)))), le_of_eq (eg (ls rfl (ls rfl (ls rfl (os rfl oz))))), le_of_eq (eg (ls rfl (ls rfl (ls rfl (os rfl (os rfl oz)))))), le_of_eq (eg (ls rfl (ls rfl (ls rfl (os rfl (os rfl (os rfl oz))))))), le_of_eq (eg lz), trivial⟩ (bnd_cons (ptr_bnd _ (by first | omega | (simp only [List.length_append, List.length_cons, List.length_nil]; omega))) (bnd_cons (pl_bnd _ _ _) (bnd_cons (pl_bnd _ _ _) (bnd_cons (pl_bnd _ _ _) (bnd_cons (pl_bnd _ _ _) bnd_nil))))) (Nat.le_of_ble_eq_true rfl) (by simp only [na, nb, nc, nd, nf, ng, nh, ni, nj, nk] <;> rfl) (bxle_same (bxle_same bxle_nil)) rfl (by simp only [na, nb, nc, nd, nf, ng, nh, ni, nj, nk] <;> rfl) (bl_cons (bnd_cons (pl_bnd _ _ _) (bnd_cons (pl_bnd _ _ _) (bnd_cons (pl_bnd _ _ _) (bnd_cons (pl_bnd _ _ _) (bnd_cons (pl_bnd _ _ _) (bnd_cons (pl_bnd _ _ _) (bnd_cons (pl_bnd _ _ _) (bnd_cons (pl_bnd _ _ _) (bnd_cons (pl_bnd _ _ _) (bnd_cons (pl_bnd _ _ _) (bnd_cons (pl_bnd _ _ _) bnd_nil))))))))))) (bl_cons (bnd_cons (pl_bnd _ _ _) (bnd_cons (pl_bnd _ _ _) (bnd_cons (pl_bnd _ _ _) (bnd_cons (pl_bnd _ _ _) (bnd_cons (pl_bnd _ _ _) (bnd_cons (pl_bnd _ _ _) (bnd_cons (pl_bnd _ _ _) (bnd_cons (pl_bnd _ _ _) (bnd_cons (pl_bnd _ _ _) (bnd_cons (pl_bnd _ _ _) (bnd_cons (pl_bnd _ _ _) bnd_nil))))))))))) bl_nil)) ?_
          exact ⟨m_z_7, Nat.lt_succ_self _, ((t_6.1 || (decide ((byteAt x_4 t_6.2.2) = 102))), (t_6.2.1 || (decide ((byteAt x_4 t_6.2.2) = 107))), IntKind.i64.wrap (t_6.2.2 + 1)), ⟨le_of_eq (eg oz), le_of_eq (eg (os rfl oz)), le_of_eq (eg (os rfl (os rfl oz))), le_of_eq (eg (os rfl (os rfl (os rfl oz)))), le_of_eq (eg (os rfl (os rfl (os rfl (os rfl oz))))), trivial⟩, rfl, hz_5⟩
        · skip
          replace hz_7 := ifb_f hz_7 hc
          clear hc
          refine aw_exit ?_
          obtain rfl := some_of hz_7
          replace hz_5 := ocs_r hz_5
          refine wk_no ?_
          refine wk_yesN rfl (l := [(5, ptr (s.boxes.length + 1) 0), (9, pl (.bool t_6.1)), (10, pl (.bool t_6.2.1))]) (bs' := [⟨114, [pl (.int .u8 p1.Kind), pl (.int .u64 p1.Space), pl (.int .u64 p1.Handle), pl (.int .i64 p1.Ref.Slot), pl (.int .u64 p1.Ref.Gen), pl (.int .u64 p1.To), pl (.string p1.Key), pl (.string p1.Value), pl (.int .u8 p1.Rights), pl (.int .u64 p1.Most), pl (.bool p1.Flag)]⟩, ⟨118, [pl (.int .u8 p0), pl (.int .u64 0), pl (.int .u64 0), pl (.int .i64 0), pl (.int .u64 0), pl (.int .u64 0), pl (.string ⟨#[]⟩), pl (.string ⟨#[]⟩), pl (.int .u8 0), pl (.int .u64 0), pl (.bool false)]⟩]) ⟨le_of_eq (eg oz), le_of_eq (eg (os rfl (os rfl oz))), le_of_eq (eg (os rfl (os rfl (os rfl oz)))), trivial⟩ (bnd_cons (ptr_bnd _ (by first | omega | (simp only [List.length_append, List.length_cons, List.length_nil]; omega))) (bnd_cons (pl_bnd _ _ _) (bnd_cons (pl_bnd _ _ _) bnd_nil))) (Nat.le_of_ble_eq_true rfl) (by simp only [na, nb, nc, nd, nf, ng, nh, ni, nj, nk] <;> rfl) (bxle_same (bxle_same bxle_nil)) rfl (by simp only [na, nb, nc, nd, nf, ng, nh, ni, nj, nk] <;> rfl) (bl_cons (bnd_cons (pl_bnd _ _ _) (bnd_cons (pl_bnd _ _ _) (bnd_cons (pl_bnd _ _ _) (bnd_cons (pl_bnd _ _ _) (bnd_cons (pl_bnd _ _ _) (bnd_cons (pl_bnd _ _ _) (bnd_cons (pl_bnd _ _ _) (bnd_cons (pl_bnd _ _ _) (bnd_cons (pl_bnd _ _ _) (bnd_cons (pl_bnd _ _ _) (bnd_cons (pl_bnd _ _ _) bnd_nil))))))))))) (bl_cons (bnd_cons (pl_bnd _ _ _) (bnd_cons (pl_bnd _ _ _) (bnd_cons (pl_bnd _ _ _) (bnd_cons (pl_bnd _ _ _) (bnd_cons (pl_bnd _ _ _) (bnd_cons (pl_bnd _ _ _) (bnd_cons (pl_bnd _ _ _) (bnd_cons (pl_bnd _ _ _) (bnd_cons (pl_bnd _ _ _) (bnd_cons (pl_bnd _ _ _) (bnd_cons (pl_bnd _ _ _) bnd_nil))))))))))) bl_nil)) ?_
          exact ⟨(t_6.1, t_6.2.1), ⟨le_of_eq (eg oz), le_of_eq (eg (os rfl oz)), le_of_eq (eg (os rfl (os rfl oz))), trivial⟩, rfl, some_of hz_5⟩
      · rintro e st ⟨vz_5, hH, rfl, rfl⟩
        refine aw_keep _ hH ?_
        refine aw_keep [(5, _), (9, _), (10, _)] ⟨lg oz, lg (os rfl oz), lg (os rfl (os rfl oz)), trivial⟩ ?_
        refine aw_seq ?_
        refine aw_mid (fun e st => (Holds e [(9, pl (.bool vz_5.1)), (10, pl (.bool vz_5.2)), (12, ptr (s.boxes.length + 2) 0), (13, ptr (s.boxes.length + 3) 0)] ∧ st = s.ext [⟨114, [pl (.int .u8 p1.Kind), pl (.int .u64 p1.Space), pl (.int .u64 p1.Handle), pl (.int .i64 p1.Ref.Slot), pl (.int .u64 p1.Ref.Gen), pl (.int .u64 p1.To), pl (.string p1.Key), pl (.string p1.Value), pl (.int .u8 p1.Rights), pl (.int .u64 p1.Most), pl (.bool p1.Flag)]⟩, ⟨118, [pl (.int .u8 p0), pl (.int .u64 0), pl (.int .u64 0), pl (.int .i64 0), pl (.int .u64 0), pl (.int .u64 0), pl (.string ⟨#[]⟩), pl (.string ⟨#[]⟩), pl (.int .u8 0), pl (.int .u64 0), pl (.bool false)]⟩, ⟨118, [pl (.int .u8 p0), pl (.int .u64 0), pl (.int .u64 0), pl (.int .i64 0), pl (.int .u64 0), pl (.int .u64 0), pl (.string ⟨#[]⟩), pl (.string ⟨#[]⟩), pl (.int .u8 0), pl (.int .u64 0), pl (.bool false)]⟩, ⟨118, [pl (.int .u8 p0), pl (.int .u64 0), pl (.int .u64 0), pl (.int .i64 0), pl (.int .u64 0), pl (.int .u64 0), pl (.string ⟨#[]⟩), pl (.string ⟨#[]⟩), pl (.int .u8 0), pl (.int .u64 0), pl (.bool false)]⟩] []) ∨ (Holds e [(9, pl (.bool vz_5.1)), (10, pl (.bool vz_5.2)), (12, ptr (s.boxes.length + 3) 0), (13, ptr (s.boxes.length + 2) 0)] ∧ st = s.ext [⟨114, [pl (.int .u8 p1.Kind), pl (.int .u64 p1.Space), pl (.int .u64 p1.Handle), pl (.int .i64 p1.Ref.Slot), pl (.int .u64 p1.Ref.Gen), pl (.int .u64 p1.To), pl (.string p1.Key), pl (.string p1.Value), pl (.int .u8 p1.Rights), pl (.int .u64 p1.Most), pl (.bool p1.Flag)]⟩, ⟨118, [pl (.int .u8 p0), pl (.int .u64 0), pl (.int .u64 0), pl (.int .i64 0), pl (.int .u64 0), pl (.int .u64 0), pl (.string ⟨#[]⟩), pl (.string ⟨#[]⟩), pl (.int .u8 0), pl (.int .u64 0), pl (.bool false)]⟩, ⟨118, [pl (.int .u8 p0), pl (.int .u64 0), pl (.int .u64 0), pl (.int .i64 0), pl (.int .u64 0), pl (.int .u64 0), pl (.string ⟨#[]⟩), pl (.string ⟨#[]⟩), pl (.int .u8 0), pl (.int .u64 0), pl (.bool false)]⟩, ⟨118, [pl (.int .u8 p0), pl (.int .u64 0), pl (.int .u64 0), pl (.int .i64 0), pl (.int .u64 0), pl (.int .u64 0), pl (.string ⟨#[]⟩), pl (.string ⟨#[]⟩), pl (.int .u8 0), pl (.int .u64 0), pl (.bool false)]⟩] [])) ?_ ?_
        · skip
          refine aw_of_ay mixed_U8 ?_
          refine ay_split 2 3 rfl ?_ ?_
          · skip
            refine ay_drawn [false, false, true, true, true, true] [[0, 1, 2], [0, 1, 2, 3], [0, 1], [1, 2], [2, 3], [3, 4]] (by decide +kernel) ?_
            refine dtlGA (qs := [_, _, _, _, _, _, _, _, _, _, _]) ag118_U8 sz118_U8 oz (loc_getN rfl rfl) (Nat.le_of_ble_eq_true rfl) rfl rfl ?_
            refine dtlGA (qs := [_, _, _, _, _, _, _, _, _, _, _]) ag118_U8 sz118_U8 (ls rfl oz) (loc_getN rfl rfl) (Nat.le_of_ble_eq_true rfl) rfl rfl ?_
            refine dta _ rfl (allocN rfl zt118_U8 (by first | exact List.length_nil | (simp only [List.length_cons, List.length_nil, Nat.zero_add, Nat.reduceAdd] <;> rfl)) (by simp only [na, nb, nc, nd, nf, ng, nh, ni, nj, nk] <;> rfl)) ?_
            refine dta _ rfl (allocN rfl zt118_U8 (by first | exact List.length_nil | (simp only [List.length_cons, List.length_nil, Nat.zero_add, Nat.reduceAdd] <;> rfl)) (by simp only [na, nb, nc, nd, nf, ng, nh, ni, nj, nk] <;> rfl)) ?_
            refine dta _ rfl (storeAN rfl sz118_U8 (ls rfl lz) (ls rfl (ls rfl (ls rfl lz))) (ones_cons (one_pl rfl) (ones_cons (one_pl rfl) (ones_cons (one_pl rfl) (ones_cons (one_pl rfl) (ones_cons (one_pl rfl) (ones_cons (one_pl rfl) (ones_cons (one_pl rfl) (ones_cons (one_pl rfl) (ones_cons (one_pl rfl) (ones_cons (one_pl rfl) (ones_cons (one_pl rfl) ones_nil))))))))))) rfl rfl (Nat.le_of_ble_eq_true rfl) (List.cons_ne_nil _ _) (bnd_cons (pl_bnd _ _ _) (bnd_cons (pl_bnd _ _ _) (bnd_cons (pl_bnd _ _ _) (bnd_cons (pl_bnd _ _ _) (bnd_cons (pl_bnd _ _ _) (bnd_cons (pl_bnd _ _ _) (bnd_cons (pl_bnd _ _ _) (bnd_cons (pl_bnd _ _ _) (bnd_cons (pl_bnd _ _ _) (bnd_cons (pl_bnd _ _ _) (bnd_cons (pl_bnd _ _ _) bnd_nil))))))))))) (by simp only [na, nb, nc, nd, nf, ng, nh, ni, nj, nk] <;> rfl) (by simp only [na, nb, nc, nd, nf, ng, nh, ni, nj, nk] <;> rfl)) ?_
            refine dta _ rfl (storeAN rfl sz118_U8 (lx lz) (lx (ls rfl (ls rfl lz))) (ones_cons (one_pl rfl) (ones_cons (one_pl rfl) (ones_cons (one_pl rfl) (ones_cons (one_pl rfl) (ones_cons (one_pl rfl) (ones_cons (one_pl rfl) (ones_cons (one_pl rfl) (ones_cons (one_pl rfl) (ones_cons (one_pl rfl) (ones_cons (one_pl rfl) (ones_cons (one_pl rfl) ones_nil))))))))))) rfl rfl (Nat.le_of_ble_eq_true rfl) (List.cons_ne_nil _ _) (bnd_cons (pl_bnd _ _ _) (bnd_cons (pl_bnd _ _ _) (bnd_cons (pl_bnd _ _ _) (bnd_cons (pl_bnd _ _ _) (bnd_cons (pl_bnd _ _ _) (bnd_cons (pl_bnd _ _ _) (bnd_cons (pl_bnd _ _ _) (bnd_cons (pl_bnd _ _ _) (bnd_cons (pl_bnd _ _ _) (bnd_cons (pl_bnd _ _ _) (bnd_cons (pl_bnd _ _ _) bnd_nil))))))))))) (by simp only [na, nb, nc, nd, nf, ng, nh, ni, nj, nk] <;> rfl) (by simp only [na, nb, nc, nd, nf, ng, nh, ni, nj, nk] <;> rfl)) ?_
            refine .nil ?_
            dsimp only [List.nil_append, List.cons_append]
            refine ⟨rfl, ⟨⟨(by first | exact loc_getN rfl rfl | exact updx_get hlt | exact upd2_g hgh hlt | exact upd2_h hlt2), (by first | exact loc_getN rfl rfl | exact updx_get hlt | exact upd2_g hgh hlt | exact upd2_h hlt2), (by first | exact loc_getN rfl rfl | exact updx_get hlt | exact upd2_g hgh hlt | exact upd2_h hlt2), trivial⟩, ⟨(by first | exact loc_getN rfl rfl | exact updx_get hlt | exact upd2_g hgh hlt | exact upd2_h hlt2), (by first | exact loc_getN rfl rfl | exact updx_get hlt | exact upd2_g hgh hlt | exact upd2_h hlt2), (by first | exact loc_getN rfl rfl | exact updx_get hlt | exact upd2_g hgh hlt | exact upd2_h hlt2), (by first | exact loc_getN rfl rfl | exact updx_get hlt | exact upd2_g hgh hlt | exact upd2_h hlt2), trivial⟩, trivial, trivial, trivial, trivial, trivial⟩, ?_⟩
            exact .inl ⟨⟨le_of_eq (eg (lx (lx (ls rfl (ls rfl (ls rfl (ls rfl (os rfl oz)))))))), le_of_eq (eg (lx (lx (ls rfl (ls rfl (ls rfl (ls rfl (os rfl (os rfl oz))))))))), le_of_eq (eg (lx (lx (ls rfl lz)))), le_of_eq (eg (lx (lx lz))), trivial⟩, rfl⟩
          · skip
            refine ay_swap 2 rfl ?_
            refine ay_drawn [false, false, true, true, true, true] [[0, 1, 2], [0, 1, 2, 3], [0, 1], [1, 2], [2, 3], [3, 4]] (by decide +kernel) ?_
            refine dtlGA (qs := [_, _, _, _, _, _, _, _, _, _, _]) ag118_U8 sz118_U8 oz (loc_getN rfl rfl) (Nat.le_of_ble_eq_true rfl) rfl rfl ?_
            refine dtlGA (qs := [_, _, _, _, _, _, _, _, _, _, _]) ag118_U8 sz118_U8 (ls rfl oz) (loc_getN rfl rfl) (Nat.le_of_ble_eq_true rfl) rfl rfl ?_
            refine dta _ rfl (allocN rfl zt118_U8 (by first | exact List.length_nil | (simp only [List.length_cons, List.length_nil, Nat.zero_add, Nat.reduceAdd] <;> rfl)) (by simp only [na, nb, nc, nd, nf, ng, nh, ni, nj, nk] <;> rfl)) ?_
            refine dta _ rfl (allocN rfl zt118_U8 (by first | exact List.length_nil | (simp only [List.length_cons, List.length_nil, Nat.zero_add, Nat.reduceAdd] <;> rfl)) (by simp only [na, nb, nc, nd, nf, ng, nh, ni, nj, nk] <;> rfl)) ?_
            refine dta _ rfl (storeAN rfl sz118_U8 lz (ls rfl (ls rfl (ls rfl lz))) (ones_cons (one_pl rfl) (ones_cons (one_pl rfl) (ones_cons (one_pl rfl) (ones_cons (one_pl rfl) (ones_cons (one_pl rfl) (ones_cons (one_pl rfl) (ones_cons (one_pl rfl) (ones_cons (one_pl rfl) (ones_cons (one_pl rfl) (ones_cons (one_pl rfl) (ones_cons (one_pl rfl) ones_nil))))))))))) rfl rfl (Nat.le_of_ble_eq_true rfl) (List.cons_ne_nil _ _) (bnd_cons (pl_bnd _ _ _) (bnd_cons (pl_bnd _ _ _) (bnd_cons (pl_bnd _ _ _) (bnd_cons (pl_bnd _ _ _) (bnd_cons (pl_bnd _ _ _) (bnd_cons (pl_bnd _ _ _) (bnd_cons (pl_bnd _ _ _) (bnd_cons (pl_bnd _ _ _) (bnd_cons (pl_bnd _ _ _) (bnd_cons (pl_bnd _ _ _) (bnd_cons (pl_bnd _ _ _) bnd_nil))))))))))) (by simp only [na, nb, nc, nd, nf, ng, nh, ni, nj, nk] <;> rfl) (by simp only [na, nb, nc, nd, nf, ng, nh, ni, nj, nk] <;> rfl)) ?_
            refine dta _ rfl (storeAN rfl sz118_U8 (lx (ls rfl lz)) (lx (ls rfl (ls rfl lz))) (ones_cons (one_pl rfl) (ones_cons (one_pl rfl) (ones_cons (one_pl rfl) (ones_cons (one_pl rfl) (ones_cons (one_pl rfl) (ones_cons (one_pl rfl) (ones_cons (one_pl rfl) (ones_cons (one_pl rfl) (ones_cons (one_pl rfl) (ones_cons (one_pl rfl) (ones_cons (one_pl rfl) ones_nil))))))))))) rfl rfl (Nat.le_of_ble_eq_true rfl) (List.cons_ne_nil _ _) (bnd_cons (pl_bnd _ _ _) (bnd_cons (pl_bnd _ _ _) (bnd_cons (pl_bnd _ _ _) (bnd_cons (pl_bnd _ _ _) (bnd_cons (pl_bnd _ _ _) (bnd_cons (pl_bnd _ _ _) (bnd_cons (pl_bnd _ _ _) (bnd_cons (pl_bnd _ _ _) (bnd_cons (pl_bnd _ _ _) (bnd_cons (pl_bnd _ _ _) (bnd_cons (pl_bnd _ _ _) bnd_nil))))))))))) (by simp only [na, nb, nc, nd, nf, ng, nh, ni, nj, nk] <;> rfl) (by simp only [na, nb, nc, nd, nf, ng, nh, ni, nj, nk] <;> rfl)) ?_
            refine .nil ?_
            dsimp only [List.nil_append, List.cons_append]
            refine ⟨rfl, ⟨⟨(by first | exact loc_getN rfl rfl | exact updx_get hlt | exact upd2_g hgh hlt | exact upd2_h hlt2), (by first | exact loc_getN rfl rfl | exact updx_get hlt | exact upd2_g hgh hlt | exact upd2_h hlt2), (by first | exact loc_getN rfl rfl | exact updx_get hlt | exact upd2_g hgh hlt | exact upd2_h hlt2), trivial⟩, ⟨(by first | exact loc_getN rfl rfl | exact updx_get hlt | exact upd2_g hgh hlt | exact upd2_h hlt2), (by first | exact loc_getN rfl rfl | exact updx_get hlt | exact upd2_g hgh hlt | exact upd2_h hlt2), (by first | exact loc_getN rfl rfl | exact updx_get hlt | exact upd2_g hgh hlt | exact upd2_h hlt2), (by first | exact loc_getN rfl rfl | exact updx_get hlt | exact upd2_g hgh hlt | exact upd2_h hlt2), trivial⟩, trivial, trivial, trivial, trivial, trivial⟩, ?_⟩
            exact (.inr ⟨⟨le_of_eq (eg (lx (lx (ls rfl (ls rfl (ls rfl (ls rfl (os rfl oz)))))))), le_of_eq (eg (lx (lx (ls rfl (ls rfl (ls rfl (ls rfl (os rfl (os rfl oz))))))))), le_of_eq (eg (lx (lx lz))), le_of_eq (eg (lx (lx (ls rfl lz)))), trivial⟩, rfl⟩)
        · rintro e st (⟨hH, rfl⟩ | ⟨hH, rfl⟩)
          · skip
            refine aw_keep _ hH ?_
            refine aw_keep [(9, _), (10, _), (12, _), (13, _)] ⟨lg oz, lg (os rfl oz), lg (os rfl (os rfl oz)), lg (os rfl (os rfl (os rfl oz))), trivial⟩ ?_
            refine aw_seq ?_
            refine aw_region (by decide) ?_
            refine rts _ rfl (opD_fieldAddr fo118_9_U8 (os rfl (os rfl oz))) ?_
            refine rts _ rfl (storeON rfl sz4_U8 lz (le_of_eq (ev_const _ _)) (one_pl rfl) rfl (Nat.le_of_ble_eq_true rfl) (pl_bnd _ _ _) (by simp only [na, nb, nc, nd, nf, ng, nh, ni, nj, nk] <;> rfl) (by simp only [na, nb, nc, nd, nf, ng, nh, ni, nj, nk] <;> rfl)) ?_
            refine .nil ?_
            refine aw_keep [(9, _), (10, _), (12, _), (13, _)] ⟨lg (lx (ls rfl oz)), lg (lx (ls rfl (os rfl oz))), lg (lx (ls rfl (os rfl (os rfl oz)))), lg (lx (ls rfl (os rfl (os rfl (os rfl oz))))), trivial⟩ ?_
            refine aw_seq ?_
            refine aw_region (by decide) ?_
            refine rts _ rfl (opD_fieldAddr fo118_5_U8 (os rfl (os rfl (os rfl oz)))) ?_
            refine rts _ rfl (storeON rfl sz9_U8 lz (le_of_eq (ev_const _ _)) (one_pl rfl) rfl (Nat.le_of_ble_eq_true rfl) (pl_bnd _ _ _) (by simp only [na, nb, nc, nd, nf, ng, nh, ni, nj, nk] <;> rfl) (by simp only [na, nb, nc, nd, nf, ng, nh, ni, nj, nk] <;> rfl)) ?_
            refine .nil ?_
            refine aw_keep [(9, _), (10, _), (12, _), (13, _)] ⟨lg (lx (ls rfl oz)), lg (lx (ls rfl (os rfl oz))), lg (lx (ls rfl (os rfl (os rfl oz)))), lg (lx (ls rfl (os rfl (os rfl (os rfl oz))))), trivial⟩ ?_
            refine aw_seq ?_
            refine aw_region (by decide) ?_
            refine rts _ rfl (opD_load_aggX (qs := [_, _, _, _, _, _, _, _, _, _, _]) ag118_U8 sz118_U8 (os rfl (os rfl oz)) (loc_getN rfl rfl) (Nat.le_of_ble_eq_true rfl) rfl) ?_
            replace h0 := bnd_some h0
            obtain ⟨x_8, hx_8, h0⟩ := h0
            refine rts _ rfl (opD_pure ht71_U8 (c_qcheck hx_8) ⟨(le_of_eq lz).trans (agg_le ⟨(Pd.le_refl _), (Pd.le_refl _), (Pd.le_refl _), (Pd.le_refl _), (Pd.le_refl _), (Pd.le_refl _), (Pd.le_refl _), (Pd.le_refl _), (Pd.le_refl _), (Pd.le_refl _), (Pd.le_refl _), trivial⟩), trivial⟩) ?_
            refine rts _ rfl (opD_bin lz (ev_const _ _) (fun w => errV_geql _ w _) (fun w => errV_eql _ w)) ?_
            refine rts _ rfl (opD_move (ls rfl (ls rfl (ls rfl oz)))) ?_
            refine rts _ rfl (opD_beql Go.Proofs.Tryd.underlying4 (ls rfl lz) lz) ?_
            refine rts _ rfl (opD_move lz) ?_
            refine rtg _ rfl lz (fun hg17_6_93 => opD_load_aggX (qs := [_, _, _, _, _, _, _, _, _, _, _]) ag118_U8 sz118_U8 (ls rfl (ls rfl (ls rfl (ls rfl (ls rfl (ls rfl (os rfl (os rfl (os rfl oz))))))))) (loc_getN rfl rfl) (Nat.le_of_ble_eq_true rfl) rfl) ?_
            replace h0 := bnd_some h0
            obtain ⟨x_9, hx_9, h0⟩ := h0
            refine rtg _ rfl (ls rfl lz) (fun hg17_7_94 => opD_pure ht71_U8 (c_qcheck (gif_some hx_9 hg17_7_94)) ⟨(le_of_eq (lz.trans (pif_pos hg17_7_94))).trans (agg_le ⟨(Pd.le_refl _), (Pd.le_refl _), (Pd.le_refl _), (Pd.le_refl _), (Pd.le_refl _), (Pd.le_refl _), (Pd.le_refl _), (Pd.le_refl _), (Pd.le_refl _), (Pd.le_refl _), (Pd.le_refl _), trivial⟩), trivial⟩) ?_
            refine rtg _ rfl (ls rfl (ls rfl lz)) (fun hg17_8_95 => opD_bin (lz.trans (pif_pos hg17_8_95)) (ev_const _ _) (fun w => errV_geql _ w _) (fun w => errV_eql _ w)) ?_
            refine rtg _ rfl (ls rfl (ls rfl (ls rfl lz))) (fun hg17_9_96 => opD_move (ls rfl (ls rfl (ls rfl (ls rfl (ls rfl (ls rfl (ls rfl (ls rfl (ls rfl (os rfl oz))))))))))) ?_
            refine rtg _ rfl (ls rfl (ls rfl (ls rfl (ls rfl lz)))) (fun hg17_10_97 => opD_beql Go.Proofs.Tryd.underlying4 ((ls rfl lz).trans (pif_pos hg17_10_97)) (lz.trans (pif_pos hg17_10_97))) ?_
            refine rts _ rfl (opD_and (ls rfl (ls rfl (ls rfl (ls rfl (ls rfl lz))))) lz) ?_
            refine rts _ rfl (opD_move lz) ?_
            replace h0 := bnd_some h0
            obtain ⟨x_10, hx_10, h0⟩ := h0
            refine rtg _ rfl lz (fun hg17_13_98 => opD_call ht62_U8 (c_sure35 (gif_some hx_10 hg17_13_98) hst) trivial) ?_
            refine rts _ rfl (opD_and (ls rfl lz) lz) ?_
            refine rts _ rfl (opD_assign lz) ?_
            refine .nil ?_
            refine aw_keep [(4, _)] ⟨lg lz, trivial⟩ ?_
            refine aw_ret ?_
            obtain rfl := some_of h0
            exact done_ext (.inr rfl) ((res_one rfl (it_tmp oz)).le (Pd.le_refl _)) (pl_bnd _ _ _)
          · skip
            refine aw_keep _ hH ?_
            refine aw_keep [(9, _), (10, _), (12, _), (13, _)] ⟨lg oz, lg (os rfl oz), lg (os rfl (os rfl oz)), lg (os rfl (os rfl (os rfl oz))), trivial⟩ ?_
            refine aw_seq ?_
            refine aw_region (by decide) ?_
            refine rts _ rfl (opD_fieldAddr fo118_9_U8 (os rfl (os rfl oz))) ?_
            refine rts _ rfl (storeON rfl sz4_U8 lz (le_of_eq (ev_const _ _)) (one_pl rfl) rfl (Nat.le_of_ble_eq_true rfl) (pl_bnd _ _ _) (by simp only [na, nb, nc, nd, nf, ng, nh, ni, nj, nk] <;> rfl) (by simp only [na, nb, nc, nd, nf, ng, nh, ni, nj, nk] <;> rfl)) ?_
            refine .nil ?_
            refine aw_keep [(9, _), (10, _), (12, _), (13, _)] ⟨lg (lx (ls rfl oz)), lg (lx (ls rfl (os rfl oz))), lg (lx (ls rfl (os rfl (os rfl oz)))), lg (lx (ls rfl (os rfl (os rfl (os rfl oz))))), trivial⟩ ?_
            refine aw_seq ?_
            refine aw_region (by decide) ?_
            refine rts _ rfl (opD_fieldAddr fo118_5_U8 (os rfl (os rfl (os rfl oz)))) ?_
            refine rts _ rfl (storeON rfl sz9_U8 lz (le_of_eq (ev_const _ _)) (one_pl rfl) rfl (Nat.le_of_ble_eq_true rfl) (pl_bnd _ _ _) (by simp only [na, nb, nc, nd, nf, ng, nh, ni, nj, nk] <;> rfl) (by simp only [na, nb, nc, nd, nf, ng, nh, ni, nj, nk] <;> rfl)) ?_
            refine .nil ?_
            refine aw_keep [(9, _), (10, _), (12, _), (13, _)] ⟨lg (lx (ls rfl oz)), lg (lx (ls rfl (os rfl oz))), lg (lx (ls rfl (os rfl (os rfl oz)))), lg (lx (ls rfl (os rfl (os rfl (os rfl oz))))), trivial⟩ ?_
            refine aw_seq ?_
            refine aw_region (by decide) ?_
            refine rts _ rfl (opD_load_aggX (qs := [_, _, _, _, _, _, _, _, _, _, _]) ag118_U8 sz118_U8 (os rfl (os rfl oz)) (loc_getN rfl rfl) (Nat.le_of_ble_eq_true rfl) rfl) ?_
            replace h0 := bnd_some h0
            obtain ⟨x_8, hx_8, h0⟩ := h0
            refine rts _ rfl (opD_pure ht71_U8 (c_qcheck hx_8) ⟨(le_of_eq lz).trans (agg_le ⟨(Pd.le_refl _), (Pd.le_refl _), (Pd.le_refl _), (Pd.le_refl _), (Pd.le_refl _), (Pd.le_refl _), (Pd.le_refl _), (Pd.le_refl _), (Pd.le_refl _), (Pd.le_refl _), (Pd.le_refl _), trivial⟩), trivial⟩) ?_
            refine rts _ rfl (opD_bin lz (ev_const _ _) (fun w => errV_geql _ w _) (fun w => errV_eql _ w)) ?_
            refine rts _ rfl (opD_move (ls rfl (ls rfl (ls rfl oz)))) ?_
            refine rts _ rfl (opD_beql Go.Proofs.Tryd.underlying4 (ls rfl lz) lz) ?_
            refine rts _ rfl (opD_move lz) ?_
            refine rtg _ rfl lz (fun hg17_6_99 => opD_load_aggX (qs := [_, _, _, _, _, _, _, _, _, _, _]) ag118_U8 sz118_U8 (ls rfl (ls rfl (ls rfl (ls rfl (ls rfl (ls rfl (os rfl (os rfl (os rfl oz))))))))) (loc_getN rfl rfl) (Nat.le_of_ble_eq_true rfl) rfl) ?_
            replace h0 := bnd_some h0
            obtain ⟨x_9, hx_9, h0⟩ := h0
            refine rtg _ rfl (ls rfl lz) (fun hg17_7_100 => opD_pure ht71_U8 (c_qcheck (gif_some hx_9 hg17_7_100)) ⟨(le_of_eq (lz.trans (pif_pos hg17_7_100))).trans (agg_le ⟨(Pd.le_refl _), (Pd.le_refl _), (Pd.le_refl _), (Pd.le_refl _), (Pd.le_refl _), (Pd.le_refl _), (Pd.le_refl _), (Pd.le_refl _), (Pd.le_refl _), (Pd.le_refl _), (Pd.le_refl _), trivial⟩), trivial⟩) ?_
            refine rtg _ rfl (ls rfl (ls rfl lz)) (fun hg17_8_101 => opD_bin (lz.trans (pif_pos hg17_8_101)) (ev_const _ _) (fun w => errV_geql _ w _) (fun w => errV_eql _ w)) ?_
            refine rtg _ rfl (ls rfl (ls rfl (ls rfl lz))) (fun hg17_9_102 => opD_move (ls rfl (ls rfl (ls rfl (ls rfl (ls rfl (ls rfl (ls rfl (ls rfl (ls rfl (os rfl oz))))))))))) ?_
            refine rtg _ rfl (ls rfl (ls rfl (ls rfl (ls rfl lz)))) (fun hg17_10_103 => opD_beql Go.Proofs.Tryd.underlying4 ((ls rfl lz).trans (pif_pos hg17_10_103)) (lz.trans (pif_pos hg17_10_103))) ?_
            refine rts _ rfl (opD_and (ls rfl (ls rfl (ls rfl (ls rfl (ls rfl lz))))) lz) ?_
            refine rts _ rfl (opD_move lz) ?_
            replace h0 := bnd_some h0
            obtain ⟨x_10, hx_10, h0⟩ := h0
            refine rtg _ rfl lz (fun hg17_13_104 => opD_call ht62_U8 (c_sure35 (gif_some hx_10 hg17_13_104) hst) trivial) ?_
            refine rts _ rfl (opD_and (ls rfl lz) lz) ?_
            refine rts _ rfl (opD_assign lz) ?_
            refine .nil ?_
            refine aw_keep [(4, _)] ⟨lg lz, trivial⟩ ?_
            refine aw_ret ?_
            obtain rfl := some_of h0
            exact done_ext (.inr rfl) ((res_one rfl (it_tmp oz)).le (Pd.le_refl _)) (pl_bnd _ _ _)
end Go.Proofs.YtmnhfpcbfdgbcaaDoor.Eng.A
