/- EL3: what functions do, walked; used by the laws of this seat. -/
import Derived.Test.YtmnhfpcbfdgbcaaDoorEL2
namespace Go.Proofs.YtmnhfpcbfdgbcaaDoor.Eng.A
set_option linter.unusedVariables false
set_option linter.unusedSimpArgs false
open Go.RowKit Go.Proofs.YtmnhfpcbfdgbcaaDoor.Plain Go.Proofs.YtmnhfpcbfdgbcaaDoor.Eng Go.Proofs.YtmnhfpcbfdgbcaaDoor.Eng.Pk Go.Proofs.YtmnhfpcbfdgbcaaDoor.Eng.Rd

theorem fo60_1_u9b : fieldOff Go.Proofs.Tryd.prog 60 1 = some 1 := by kernel_rfl
theorem ag22_u9b : aggT Go.Proofs.Tryd.prog 22 = some false := by kernel_rfl
theorem fo60_4_u9b : fieldOff Go.Proofs.Tryd.prog 60 4 = some 4 := by kernel_rfl
theorem ag9_u9b : aggT Go.Proofs.Tryd.prog 9 = some false := by kernel_rfl
theorem fo70_1_u9b : fieldOff Go.Proofs.Tryd.prog 70 1 = some 1 := by kernel_rfl
theorem ag54_u9b : aggT Go.Proofs.Tryd.prog 54 = some false := by kernel_rfl
theorem sz60_u9b : sizeT Go.Proofs.Tryd.prog 60 = some 5 := by kernel_rfl
theorem ag60_u9b : aggT Go.Proofs.Tryd.prog 60 = some true := by kernel_rfl
theorem ht95_u9b : hasText Go.Proofs.Tryd.prog 95 = true := by kernel_rfl
theorem fo60_0_u9b : fieldOff Go.Proofs.Tryd.prog 60 0 = some 0 := by kernel_rfl
theorem fo70_0_u9b : fieldOff Go.Proofs.Tryd.prog 70 0 = some 0 := by kernel_rfl
theorem mixed_u9b : Go.Proofs.Tryd.prog.follows .mixedOrders = true := by kernel_rfl
theorem zt70_u9b : zeroT Go.Proofs.Tryd.prog 70 = some [.int .u64 0, .slice none 0 0] := by kernel_rfl
theorem ag70_u9b : aggT Go.Proofs.Tryd.prog 70 = some true := by kernel_rfl
theorem sz70_u9b : sizeT Go.Proofs.Tryd.prog 70 = some 2 := by kernel_rfl
theorem ht48_u9b : hasText Go.Proofs.Tryd.prog 48 = true := by kernel_rfl
theorem pt70_u9b : placesT Go.Proofs.Tryd.prog 70 2 = some [(0, 1), (1, 1)] := by kernel_rfl
theorem sz22_u9b : sizeT Go.Proofs.Tryd.prog 22 = some 1 := by kernel_rfl
theorem el60_u9b : elT Go.Proofs.Tryd.prog 60 = some (5, 40) := by kernel_rfl
theorem zt60_u9b : zeroT Go.Proofs.Tryd.prog 60 = some [.int .u64 0, .int .u64 0, .int .u8 0, .int .u16 0, .string ⟨#[]⟩] := by kernel_rfl
theorem ht29_u9b : hasText Go.Proofs.Tryd.prog 29 = true := by kernel_rfl
theorem fo60_2_u9b : fieldOff Go.Proofs.Tryd.prog 60 2 = some 2 := by kernel_rfl
theorem ag5_u9b : aggT Go.Proofs.Tryd.prog 5 = some false := by kernel_rfl
theorem sz5_u9b : sizeT Go.Proofs.Tryd.prog 5 = some 1 := by kernel_rfl
theorem zt5_u9b : zeroT Go.Proofs.Tryd.prog 5 = some [.int .u8 0] := by kernel_rfl
theorem el5_u9b : elT Go.Proofs.Tryd.prog 5 = some (1, 1) := by kernel_rfl
theorem fo60_3_u9b : fieldOff Go.Proofs.Tryd.prog 60 3 = some 3 := by kernel_rfl
theorem ag58_u9b : aggT Go.Proofs.Tryd.prog 58 = some false := by kernel_rfl
theorem ht30_u9b : hasText Go.Proofs.Tryd.prog 30 = true := by kernel_rfl
theorem pt41_u9b : placesT Go.Proofs.Tryd.prog 41 2 = some [(0, 1), (1, 1)] := by kernel_rfl
theorem zt41_u9b : zeroT Go.Proofs.Tryd.prog 41 = some [.slice none 0 0, .bool false] := by kernel_rfl
theorem ht32_u9b : hasText Go.Proofs.Tryd.prog 32 = true := by kernel_rfl
theorem sz41_u9b : sizeT Go.Proofs.Tryd.prog 41 = some 2 := by kernel_rfl
theorem ag41_u9b : aggT Go.Proofs.Tryd.prog 41 = some true := by kernel_rfl
theorem fo41_1_u9b : fieldOff Go.Proofs.Tryd.prog 41 1 = some 1 := by kernel_rfl
theorem ag4_u9b : aggT Go.Proofs.Tryd.prog 4 = some false := by kernel_rfl
theorem ht31_u9b : hasText Go.Proofs.Tryd.prog 31 = true := by kernel_rfl
theorem ht33_u9b : hasText Go.Proofs.Tryd.prog 33 = true := by kernel_rfl
theorem pt60_u9b : placesT Go.Proofs.Tryd.prog 60 5 = some [(0, 1), (1, 1), (2, 1), (3, 1), (4, 1)] := by kernel_rfl
theorem sz54_u9b : sizeT Go.Proofs.Tryd.prog 54 = some 1 := by kernel_rfl
theorem ht34_u9b : hasText Go.Proofs.Tryd.prog 34 = true := by kernel_rfl

def F_lone2 (p0 : Lin) : Option (Bool) :=
  some ((decide (p0.Who ≤ 4611686018427387904)) && (decide ((p0.Key.size : Int) ≤ 40)))
set_option maxRecDepth 100000 in
set_option maxHeartbeats 2000000 in
theorem c_lone2 {p0 : Lin} {R : Bool} (h0 : F_lone2 p0 = some R) : Pure Go.Proofs.Tryd.prog 95 [agg [pl (.int .u64 p0.Seq), pl (.int .u64 p0.Who), pl (.int .u8 p0.What), pl (.int .u16 p0.Code), pl (.string p0.Key)]] (pl (.bool R)) := by
  intro s
  unfold F_lone2 at h0
  refine ac_of_aw s.boxes.length s.fr.length Go.Proofs.Tryd.func95 rfl (by simp [Go.Proofs.Tryd.ntmps95]) ?_
  refine aw_ext0 ?_
  refine aw_keep [(0, _)] ⟨lg ez, trivial⟩ ?_
  refine aw_seq ?_
  refine aw_region (by decide) ?_
  refine rts _ rfl (boxAN rfl oz (bnd_cons (pl_bnd _ _ _) (bnd_cons (pl_bnd _ _ _) (bnd_cons (pl_bnd _ _ _) (bnd_cons (pl_bnd _ _ _) (bnd_cons (pl_bnd _ _ _) bnd_nil))))) (by first | exact List.length_nil | (simp only [List.length_cons, List.length_nil, Nat.zero_add, Nat.reduceAdd] <;> rfl)) (by simp only [na, nb, nc, nd, nf, ng, nh, ni, nj, nk] <;> rfl)) ?_
  refine rts _ rfl (opD_assign (ev_const _ _)) ?_
  refine .nil ?_
  refine aw_keep [(1, _)] ⟨lg (ls rfl lz), trivial⟩ ?_
  refine aw_seq ?_
  refine aw_region (by decide) ?_
  refine rts _ rfl (opD_fieldAddr fo60_1_u9b oz) ?_
  refine rts _ rfl (opD_load_one ag22_u9b lz (loc_getN rfl rfl) rfl) ?_
  refine rts _ rfl (opD_leq lz (ev_const _ _)) ?_
  refine rts _ rfl (opD_move lz) ?_
  refine rtg _ rfl lz (fun hg1_4_1 => opD_fieldAddr fo60_4_u9b (ls rfl (ls rfl (ls rfl (ls rfl oz))))) ?_
  refine rtg _ rfl (ls rfl lz) (fun hg1_5_2 => opD_load_one ag9_u9b (lz.trans (pif_pos hg1_5_2)) (loc_getN rfl rfl) rfl) ?_
  refine rtg _ rfl (ls rfl (ls rfl lz)) (fun hg1_6_3 => opD_len_str Go.Proofs.Tryd.underlying9 (lz.trans (pif_pos hg1_6_3))) ?_
  refine rtg _ rfl (ls rfl (ls rfl (ls rfl lz))) (fun hg1_7_4 => opD_leq (lz.trans (pif_pos hg1_7_4)) (ev_const _ _)) ?_
  refine rts _ rfl (opD_and (ls rfl (ls rfl (ls rfl (ls rfl lz)))) lz) ?_
  refine rts _ rfl (opD_assign lz) ?_
  refine .nil ?_
  refine aw_keep [(2, _)] ⟨lg lz, trivial⟩ ?_
  refine aw_ret ?_
  obtain rfl := some_of h0
  exact done_ext (.inr rfl) ((res_one rfl (it_tmp oz)).le (Pd.le_refl _)) (pl_bnd _ _ _)

def F_lmay2_b0 (p0 : Lgr) (t_2 : Int) : Option ((Int) ⊕ ((Bool) ⊕ (Unit))) :=
  ifb (decide (t_2 < (p0.L.length : Int))) (ixb p0.L t_2 fun x_4 => bnd (F_lone2 x_4) fun x_5 => grd (((!x_5) == false) = true → Below t_2 p0.L.length) <| ifb ((!x_5) || (decide ((IntKind.u64.wrap (((p0.L.getD t_2.toNat default).Seq) - (IntKind.u64.wrap (t_2)))) ≠ (IntKind.u64.wrap (p0.Dropped + 1))))) (some (.inr (.inl false))) (some (.inl (IntKind.i64.wrap (t_2 + 1))))) (some (.inr (.inr ())))
def F_lmay2 (fl : Nat) (p0 : Lgr) : Option (Bool) :=
  bnd (lp (F_lmay2_b0 p0) fl 0) fun z_1 => ocs z_1 (fun qz_1_0 => some qz_1_0) fun z_1_0 => some ((decide (p0.Dropped ≤ 4611686018427387904)) && ((decide ((p0.L.length : Int) = 32)) || ((decide ((p0.L.length : Int) < 32)) && (decide (p0.Dropped = 0)))))
set_option maxRecDepth 100000 in
set_option maxHeartbeats 2000000 in
theorem c_lmay2 {fl : Nat} {p0 : Lgr} {R : Bool} (h0 : F_lmay2 fl p0 = some R) : Pure Go.Proofs.Tryd.prog 48 [agg [pl (.int .u64 p0.Dropped), sl kLin none none p0.L]] (pl (.bool R)) := by
  intro s
  unfold F_lmay2 at h0
  refine ac_of_aw s.boxes.length s.fr.length Go.Proofs.Tryd.func48 rfl (by simp [Go.Proofs.Tryd.ntmps48]) ?_
  refine aw_ext0 ?_
  refine aw_keep [(0, _)] ⟨lg ez, trivial⟩ ?_
  refine aw_seq ?_
  refine aw_region (by decide) ?_
  refine rts _ rfl (boxAN rfl oz (bnd_cons (pl_bnd _ _ _) (bnd_cons (sl_b kb_Lin) bnd_nil)) (by first | exact List.length_nil | (simp only [List.length_cons, List.length_nil, Nat.zero_add, Nat.reduceAdd] <;> rfl)) (by simp only [na, nb, nc, nd, nf, ng, nh, ni, nj, nk] <;> rfl)) ?_
  refine rts _ rfl (opD_assign (ev_const _ _)) ?_
  refine .nil ?_
  refine aw_keep [(1, _)] ⟨lg (ls rfl lz), trivial⟩ ?_
  refine aw_seq ?_
  refine aw_seq ?_
  refine aw_region (by decide) ?_
  refine rts _ rfl (opD_assign (ev_const _ _)) ?_
  refine .nil ?_
  refine aw_keep [(1, _), (3, _)] ⟨lg (ls rfl oz), lg lz, trivial⟩ ?_
  replace h0 := bnd_some h0
  obtain ⟨z_1, hz_1, h0⟩ := h0
  refine aw_mid (fun e st => ∃ v : Unit, Holds e [(1, ptr (s.boxes.length + 0) 0)] ∧ st = s.ext [⟨70, [pl (.int .u64 p0.Dropped), sl kLin none none p0.L]⟩] [] ∧ (.inr v) = z_1) ?_ ?_
  · skip
    refine aw_wkN rfl 1 0 rfl rfl ?_
    refine aw_block ?_
    refine aw_loop (fun n e st => ∃ v : Int, Holds e [(1, ptr (s.boxes.length + 0) 0), (3, pl (.int .i64 v))] ∧ st = s.ext [⟨70, [pl (.int .u64 p0.Dropped), sl kLin none none p0.L]⟩] [] ∧ lp (F_lmay2_b0 p0) n v = some z_1) fl ⟨0, ⟨le_of_eq (eg oz), le_of_eq (eg (os rfl oz)), trivial⟩, rfl, hz_1⟩ ?_
    rintro n e st ⟨t_2, hH, rfl, hz_1⟩
    replace hz_1 := lp_some hz_1
    obtain ⟨m_z_3, z_3, rfl, hz_3, hz_1⟩ := hz_1
    unfold F_lmay2_b0 at hz_3
    refine aw_keep _ hH ?_
    refine aw_wkN rfl 1 0 rfl rfl ?_
    refine aw_seq ?_
    refine aw_seq ?_
    refine aw_region (by decide) ?_
    refine rts _ rfl (opD_move (os rfl oz)) ?_
    refine rts _ rfl (opD_fieldAddr fo70_1_u9b (ls rfl oz)) ?_
    refine rts _ rfl (opD_load_one ag54_u9b lz (loc_getN rfl rfl) rfl) ?_
    refine rts _ rfl (opD_len_sl Go.Proofs.Tryd.underlying54 lz) ?_
    refine rts _ rfl (opD_lss (ls rfl (ls rfl (ls rfl lz))) lz) ?_
    refine .nil ?_
    refine aw_keep [(1, _), (3, _), (8, _)] ⟨lg (ls rfl (ls rfl (ls rfl (ls rfl (ls rfl oz))))), lg (ls rfl (ls rfl (ls rfl (ls rfl (ls rfl (os rfl oz)))))), lg lz, trivial⟩ ?_
    refine aw_cond _ (os rfl (os rfl oz)) (fun hc => ?_) (fun hc => ?_)
    · skip
      replace hz_3 := ifb_t hz_3 hc
      clear hc
      refine aw_skip ?_
      refine aw_keep [(1, _), (3, _)] ⟨lg oz, lg (os rfl oz), trivial⟩ ?_
      refine aw_seq ?_
      refine aw_block ?_
      refine aw_seq ?_
      refine aw_flat mixed_u9b (by decide +kernel) ?_
      refine zts _ rfl (opD_fieldAddr fo70_1_u9b oz) ?_
      refine zts _ rfl (opD_load_one ag54_u9b lz (loc_getN rfl rfl) rfl) ?_
      refine zts _ rfl (opD_move (ls rfl (ls rfl (os rfl oz)))) ?_
      replace hz_3 := ixb_some hz_3
      obtain ⟨x_4, hx_4, hbx_4, hz_3⟩ := hz_3
      refine zts _ rfl (opD_indexAddr_sl (i := t_2.toNat) Go.Proofs.Tryd.underlying54 sz60_u9b (ls rfl lz) lz hbx_4.2.2 hbx_4.2.1) ?_
      refine zts _ rfl (opD_load_el_aggX (qs := [_, _, _, _, _]) ag60_u9b sz60_u9b lz hx_4 (Nat.le_of_ble_eq_true rfl) rfl) ?_
      replace hz_3 := bnd_some hz_3
      obtain ⟨x_5, hx_5, hz_3⟩ := hz_3
      refine zts _ rfl (opD_pure ht95_u9b (c_lone2 hx_5) ⟨(le_of_eq lz).trans (agg_le ⟨(Pd.le_refl _), (Pd.le_refl _), (Pd.le_refl _), (Pd.le_refl _), (Pd.le_refl _), trivial⟩), trivial⟩) ?_
      refine zts _ rfl (opD_not lz) ?_
      refine zts _ rfl (opD_move lz) ?_
      refine ztg _ rfl lz (fun hg4_8_99 => opD_fieldAddr fo70_1_u9b (ls rfl (ls rfl (ls rfl (ls rfl (ls rfl (ls rfl (ls rfl (ls rfl oz))))))))) ?_
      refine ztg _ rfl (ls rfl lz) (fun hg4_9_100 => opD_load_one ag54_u9b (lz.trans (pif_pos hg4_9_100)) (loc_getN rfl rfl) rfl) ?_
      refine ztg _ rfl (ls rfl (ls rfl lz)) (fun hg4_10_101 => opD_move (ls rfl (ls rfl (ls rfl (ls rfl (ls rfl (ls rfl (ls rfl (ls rfl (ls rfl (ls rfl (os rfl oz)))))))))))) ?_
      replace hz_3 := grd_some hz_3
      obtain ⟨hg_103, hz_3⟩ := hz_3
      refine ztg _ rfl (ls rfl (ls rfl (ls rfl lz))) (fun hg4_11_102 => opD_indexAddr_sl (i := t_2.toNat) Go.Proofs.Tryd.underlying54 sz60_u9b ((ls rfl lz).trans (pif_pos hg4_11_102)) (lz.trans (pif_pos hg4_11_102)) (hg_103 hg4_11_102).eq (hg_103 hg4_11_102).2) ?_
      refine ztg _ rfl (ls rfl (ls rfl (ls rfl (ls rfl lz)))) (fun hg4_12_104 => opD_fieldAddr_el fo60_0_u9b (lz.trans (pif_pos hg4_12_104))) ?_
      refine ztg _ rfl (ls rfl (ls rfl (ls rfl (ls rfl (ls rfl lz))))) (fun hg4_13_105 => opD_load_el_one ag22_u9b (lz.trans (pif_pos hg4_13_105)) (at_getD default (hg_103 hg4_13_105).2) rfl) ?_
      refine ztg _ rfl (ls rfl (ls rfl (ls rfl (ls rfl (ls rfl (ls rfl lz)))))) (fun hg4_14_106 => opD_move (ls rfl (ls rfl (ls rfl (ls rfl (ls rfl (ls rfl (ls rfl (ls rfl (ls rfl (ls rfl (ls rfl (ls rfl (ls rfl (ls rfl (os rfl oz)))))))))))))))) ?_
      refine ztg _ rfl (ls rfl (ls rfl (ls rfl (ls rfl (ls rfl (ls rfl (ls rfl lz))))))) (fun hg4_15_107 => opD_conv_int Go.Proofs.Tryd.underlying3 Go.Proofs.Tryd.underlying22 (lz.trans (pif_pos hg4_15_107)) rfl) ?_
      refine ztg _ rfl (ls rfl (ls rfl (ls rfl (ls rfl (ls rfl (ls rfl (ls rfl (ls rfl lz)))))))) (fun hg4_16_108 => opD_sub ((ls rfl (ls rfl lz)).trans (pif_pos hg4_16_108)) (lz.trans (pif_pos hg4_16_108)) rfl) ?_
      refine ztg _ rfl (ls rfl (ls rfl (ls rfl (ls rfl (ls rfl (ls rfl (ls rfl (ls rfl (ls rfl lz))))))))) (fun hg4_17_109 => opD_fieldAddr fo70_0_u9b (ls rfl (ls rfl (ls rfl (ls rfl (ls rfl (ls rfl (ls rfl (ls rfl (ls rfl (ls rfl (ls rfl (ls rfl (ls rfl (ls rfl (ls rfl (ls rfl (ls rfl oz)))))))))))))))))) ?_
      refine ztg _ rfl (ls rfl (ls rfl (ls rfl (ls rfl (ls rfl (ls rfl (ls rfl (ls rfl (ls rfl (ls rfl lz)))))))))) (fun hg4_18_110 => opD_load_one ag22_u9b (lz.trans (pif_pos hg4_18_110)) (loc_getN rfl rfl) rfl) ?_
      refine ztg _ rfl (ls rfl (ls rfl (ls rfl (ls rfl (ls rfl (ls rfl (ls rfl (ls rfl (ls rfl (ls rfl (ls rfl lz))))))))))) (fun hg4_19_111 => opD_add (lz.trans (pif_pos hg4_19_111)) (ev_const _ _) rfl) ?_
      refine ztg _ rfl (ls rfl (ls rfl (ls rfl (ls rfl (ls rfl (ls rfl (ls rfl (ls rfl (ls rfl (ls rfl (ls rfl (ls rfl lz)))))))))))) (fun hg4_20_112 => opD_neq ((ls rfl (ls rfl (ls rfl lz))).trans (pif_pos hg4_20_112)) (lz.trans (pif_pos hg4_20_112))) ?_
      refine zts _ rfl (opD_or (ls rfl (ls rfl (ls rfl (ls rfl (ls rfl (ls rfl (ls rfl (ls rfl (ls rfl (ls rfl (ls rfl (ls rfl (ls rfl lz))))))))))))) lz) ?_
      refine .nil ?_
      refine aw_keep [(1, _), (3, _), (32, _)] ⟨lg (ls rfl (ls rfl (ls rfl (ls rfl (ls rfl (ls rfl (ls rfl (ls rfl (ls rfl (ls rfl (ls rfl (ls rfl (ls rfl (ls rfl (ls rfl (ls rfl (ls rfl (ls rfl (ls rfl (ls rfl (ls rfl (ls rfl oz)))))))))))))))))))))), lg (ls rfl (ls rfl (ls rfl (ls rfl (ls rfl (ls rfl (ls rfl (ls rfl (ls rfl (ls rfl (ls rfl (ls rfl (ls rfl (ls rfl (ls rfl (ls rfl (ls rfl (ls rfl (ls rfl (ls rfl (ls rfl (ls rfl (os rfl oz))))))))))))))))))))))), lg lz, trivial⟩ ?_
      refine aw_cond _ (os rfl (os rfl oz)) (fun hc => ?_) (fun hc => ?_)
      · skip
        replace hz_3 := ifb_t hz_3 hc
        clear hc
        refine aw_seq ?_
        refine aw_region (by decide) ?_
        refine rts _ rfl (opD_assign (ev_const _ _)) ?_
        refine .nil ?_
        refine aw_keep [(2, _)] ⟨lg lz, trivial⟩ ?_
        refine aw_ret ?_
        obtain rfl := some_of hz_3
        replace hz_1 := ocs_r hz_1
        obtain rfl := some_of hz_1
        replace h0 := ocs_l h0
        refine wk_no ?_
        refine wk_no ?_
        obtain rfl := some_of h0
        exact done_ext (.inr rfl) ((res_one rfl (it_tmp oz)).le (Pd.le_refl _)) (pl_bnd _ _ _)
      · skip
        replace hz_3 := ifb_f hz_3 hc
        clear hc
        refine aw_skip ?_
        refine aw_keep [(1, _), (3, _)] ⟨lg oz, lg (os rfl oz), trivial⟩ ?_
        refine aw_region (by decide) ?_
        refine rts _ rfl (opD_move (os rfl oz)) ?_
        refine rts _ rfl (opD_add lz (ev_const _ _) rfl) ?_
        refine rts _ rfl (opD_assign lz) ?_
        refine .nil ?_
        obtain rfl := some_of hz_3
        replace hz_1 := ocs_l hz_1
        refine wk_yesN rfl (l := [(1, ptr (s.boxes.length + 0) 0), (3, pl (.int .i64 (IntKind.i64.wrap (t_2 + 1))))]) (bs' := [⟨70, [pl (.int .u64 p0.Dropped), sl kLin none none p0.L]⟩]) ⟨le_of_eq (eg (ls rfl (ls rfl (ls rfl oz)))), le_of_eq (eg lz), trivial⟩ (bnd_cons (ptr_bnd _ (by first | omega | (simp only [List.length_append, List.length_cons, List.length_nil]; omega))) (bnd_cons (pl_bnd _ _ _) bnd_nil)) (Nat.le_of_ble_eq_true rfl) (by simp only [na, nb, nc, nd, nf, ng, nh, ni, nj, nk] <;> rfl) (bxle_same bxle_nil) rfl (by simp only [na, nb, nc, nd, nf, ng, nh, ni, nj, nk] <;> rfl) (bl_cons (bnd_cons (pl_bnd _ _ _) (bnd_cons (sl_b kb_Lin) bnd_nil)) bl_nil) ?_
        exact ⟨m_z_3, Nat.lt_succ_self _, IntKind.i64.wrap (t_2 + 1), ⟨le_of_eq (eg oz), le_of_eq (eg (os rfl oz)), trivial⟩, rfl, hz_1⟩
    · skip
      replace hz_3 := ifb_f hz_3 hc
      clear hc
      refine aw_exit ?_
      obtain rfl := some_of hz_3
      replace hz_1 := ocs_r hz_1
      refine wk_no ?_
      refine wk_yesN rfl (l := [(1, ptr (s.boxes.length + 0) 0)]) (bs' := [⟨70, [pl (.int .u64 p0.Dropped), sl kLin none none p0.L]⟩]) ⟨le_of_eq (eg oz), trivial⟩ (bnd_cons (ptr_bnd _ (by first | omega | (simp only [List.length_append, List.length_cons, List.length_nil]; omega))) bnd_nil) (Nat.le_of_ble_eq_true rfl) (by simp only [na, nb, nc, nd, nf, ng, nh, ni, nj, nk] <;> rfl) (bxle_same bxle_nil) rfl (by simp only [na, nb, nc, nd, nf, ng, nh, ni, nj, nk] <;> rfl) (bl_cons (bnd_cons (pl_bnd _ _ _) (bnd_cons (sl_b kb_Lin) bnd_nil)) bl_nil) ?_
      exact ⟨(), ⟨le_of_eq (eg oz), trivial⟩, rfl, some_of hz_1⟩
  · rintro e st ⟨vz_1, hH, rfl, rfl⟩
    refine aw_keep _ hH ?_
    replace h0 := ocs_r h0
    refine aw_keep [(1, _)] ⟨lg oz, trivial⟩ ?_
    refine aw_seq ?_
    refine aw_region (by decide) ?_
    refine rts _ rfl (opD_fieldAddr fo70_0_u9b oz) ?_
    refine rts _ rfl (opD_load_one ag22_u9b lz (loc_getN rfl rfl) rfl) ?_
    refine rts _ rfl (opD_leq lz (ev_const _ _)) ?_
    refine rts _ rfl (opD_move lz) ?_
    refine rtg _ rfl lz (fun hg6_4_113 => opD_fieldAddr fo70_1_u9b (ls rfl (ls rfl (ls rfl (ls rfl oz))))) ?_
    refine rtg _ rfl (ls rfl lz) (fun hg6_5_114 => opD_load_one ag54_u9b (lz.trans (pif_pos hg6_5_114)) (loc_getN rfl rfl) rfl) ?_
    refine rtg _ rfl (ls rfl (ls rfl lz)) (fun hg6_6_115 => opD_len_sl Go.Proofs.Tryd.underlying54 (lz.trans (pif_pos hg6_6_115))) ?_
    refine rtg _ rfl (ls rfl (ls rfl (ls rfl lz))) (fun hg6_7_116 => opD_eql (lz.trans (pif_pos hg6_7_116)) (ev_const _ _)) ?_
    refine rtg _ rfl (ls rfl (ls rfl (ls rfl (ls rfl lz)))) (fun hg6_8_117 => opD_move (lz.trans (pif_pos hg6_8_117))) ?_
    refine rtg2 _ rfl lz (fun hg6_9_118 => opD_fieldAddr fo70_1_u9b (ls rfl (ls rfl (ls rfl (ls rfl (ls rfl (ls rfl (ls rfl (ls rfl (ls rfl oz)))))))))) ?_
    refine rtg2 _ rfl (ls rfl lz) (fun hg6_10_119 => opD_load_one ag54_u9b (lz.trans (pif_pos hg6_10_119)) (loc_getN rfl rfl) rfl) ?_
    refine rtg2 _ rfl (ls rfl (ls rfl lz)) (fun hg6_11_120 => opD_len_sl Go.Proofs.Tryd.underlying54 (lz.trans (pif_pos hg6_11_120))) ?_
    refine rtg2 _ rfl (ls rfl (ls rfl (ls rfl lz))) (fun hg6_12_121 => opD_lss (lz.trans (pif_pos hg6_12_121)) (ev_const _ _)) ?_
    refine rtg2 _ rfl (ls rfl (ls rfl (ls rfl (ls rfl lz)))) (fun hg6_13_122 => opD_move (lz.trans (pif_pos hg6_13_122))) ?_
    refine rtg2 _ rfl lz (fun hg6_14_123 => opD_fieldAddr fo70_0_u9b (ls rfl (ls rfl (ls rfl (ls rfl (ls rfl (ls rfl (ls rfl (ls rfl (ls rfl (ls rfl (ls rfl (ls rfl (ls rfl (ls rfl oz))))))))))))))) ?_
    refine rtg2 _ rfl (ls rfl lz) (fun hg6_15_124 => opD_load_one ag22_u9b (lz.trans (pif_pos hg6_15_124)) (loc_getN rfl rfl) rfl) ?_
    refine rtg2 _ rfl (ls rfl (ls rfl lz)) (fun hg6_16_125 => opD_eql (lz.trans (pif_pos hg6_16_125)) (ev_const _ _)) ?_
    refine rtg2 _ rfl (ls rfl (ls rfl (ls rfl (ls rfl (ls rfl (ls rfl (ls rfl (ls rfl lz)))))))) (fun hg6_17_126 => opD_and ((ls rfl (ls rfl (ls rfl lz))).trans (pif_pos hg6_17_126)) (lz.trans (pif_and hg6_17_126))) ?_
    refine rtg _ rfl (ls rfl (ls rfl (ls rfl (ls rfl (ls rfl (ls rfl (ls rfl (ls rfl (ls rfl (ls rfl (ls rfl (ls rfl (ls rfl (ls rfl lz)))))))))))))) (fun hg6_18_127 => opD_or ((ls rfl (ls rfl (ls rfl (ls rfl (ls rfl (ls rfl (ls rfl (ls rfl (ls rfl lz))))))))).trans (pif_pos hg6_18_127)) (lz.trans (pif_and hg6_18_127))) ?_
    refine rts _ rfl (opD_and (ls rfl (ls rfl (ls rfl (ls rfl (ls rfl (ls rfl (ls rfl (ls rfl (ls rfl (ls rfl (ls rfl (ls rfl (ls rfl (ls rfl (ls rfl lz))))))))))))))) lz) ?_
    refine rts _ rfl (opD_assign lz) ?_
    refine .nil ?_
    refine aw_keep [(2, _)] ⟨lg lz, trivial⟩ ?_
    refine aw_ret ?_
    obtain rfl := some_of h0
    exact done_ext (.inr rfl) ((res_one rfl (it_tmp oz)).le (Pd.le_refl _)) (pl_bnd _ _ _)

def F_ladd2 (fl : Nat) (p0 : Lgr) (p1 : Lin) : Option (Lgr × Int) :=
  bnd (F_lmay2 fl p0) fun x_1 => bnd (gif ((!x_1) == false) (F_lone2 p1)) fun x_2 => ifb ((!x_1) || (!x_2)) (some ((⟨0, []⟩ : Lgr), 1)) (ifb (decide (p0.Dropped = 4611686018427387904)) (some ((⟨0, []⟩ : Lgr), 7)) (ifb (decide ((p0.L.length : Int) = 32)) (grd (UpTo 1 p0.L.length) <| grd (Fits 40 (p0.L.drop ((1 : Int).toNat)).length) <| grd (Fits 40 ((p0.L.drop ((1 : Int).toNat)).length + ([(⟨IntKind.u64.wrap ((IntKind.u64.wrap (p0.Dropped + (IntKind.u64.wrap ((p0.L.length : Int))))) + 1), p1.Who, p1.What, p1.Code, p1.Key⟩ : Lin)] : (List Lin)).length)) <| some ((⟨IntKind.u64.wrap (p0.Dropped + 1), ((p0.L.drop ((1 : Int).toNat)) ++ ([(⟨IntKind.u64.wrap ((IntKind.u64.wrap (p0.Dropped + (IntKind.u64.wrap ((p0.L.length : Int))))) + 1), p1.Who, p1.What, p1.Code, p1.Key⟩ : Lin)] : (List Lin)))⟩ : Lgr), 0)) (grd (Fits 40 p0.L.length) <| grd (Fits 40 (p0.L.length + ([(⟨IntKind.u64.wrap ((IntKind.u64.wrap (p0.Dropped + (IntKind.u64.wrap ((p0.L.length : Int))))) + 1), p1.Who, p1.What, p1.Code, p1.Key⟩ : Lin)] : (List Lin)).length)) <| some ((⟨0, (p0.L ++ ([(⟨IntKind.u64.wrap ((IntKind.u64.wrap (p0.Dropped + (IntKind.u64.wrap ((p0.L.length : Int))))) + 1), p1.Who, p1.What, p1.Code, p1.Key⟩ : Lin)] : (List Lin)))⟩ : Lgr), 0))))
set_option maxRecDepth 100000 in
set_option maxHeartbeats 2000000 in
theorem c_ladd2 {fl : Nat} {p0 : Lgr} {p1 : Lin} {R : Lgr × Int} (h0 : F_ladd2 fl p0 p1 = some R) : Pure Go.Proofs.Tryd.prog 41 [agg [pl (.int .u64 p0.Dropped), sl kLin none none p0.L], agg [pl (.int .u64 p1.Seq), pl (.int .u64 p1.Who), pl (.int .u8 p1.What), pl (.int .u16 p1.Code), pl (.string p1.Key)]] (tup [agg [pl (.int .u64 R.1.Dropped), sl kLin none none R.1.L], pl (.int .i64 R.2)]) := by
  intro s
  unfold F_ladd2 at h0
  refine ac_of_aw s.boxes.length s.fr.length Go.Proofs.Tryd.func41 rfl (by simp [Go.Proofs.Tryd.ntmps41]) ?_
  refine aw_ext0 ?_
  refine aw_keep [(0, _), (1, _)] ⟨lg ez, lg (es ez), trivial⟩ ?_
  refine aw_seq ?_
  refine aw_region (by decide) ?_
  refine rts _ rfl (boxAN rfl oz (bnd_cons (pl_bnd _ _ _) (bnd_cons (sl_b kb_Lin) bnd_nil)) (by first | exact List.length_nil | (simp only [List.length_cons, List.length_nil, Nat.zero_add, Nat.reduceAdd] <;> rfl)) (by simp only [na, nb, nc, nd, nf, ng, nh, ni, nj, nk] <;> rfl)) ?_
  refine rts _ rfl (boxAN rfl (ls rfl (os rfl oz)) (bnd_cons (pl_bnd _ _ _) (bnd_cons (pl_bnd _ _ _) (bnd_cons (pl_bnd _ _ _) (bnd_cons (pl_bnd _ _ _) (bnd_cons (pl_bnd _ _ _) bnd_nil))))) (by first | exact List.length_nil | (simp only [List.length_cons, List.length_nil, Nat.zero_add, Nat.reduceAdd] <;> rfl)) (by simp only [na, nb, nc, nd, nf, ng, nh, ni, nj, nk] <;> rfl)) ?_
  refine rts _ rfl (allocN rfl zt70_u9b (by first | exact List.length_nil | (simp only [List.length_cons, List.length_nil, Nat.zero_add, Nat.reduceAdd] <;> rfl)) (by simp only [na, nb, nc, nd, nf, ng, nh, ni, nj, nk] <;> rfl)) ?_
  refine rts _ rfl (opD_assign (ev_const _ _)) ?_
  refine .nil ?_
  refine aw_keep [(2, _), (3, _), (4, _)] ⟨lg (ls rfl (ls rfl (ls rfl lz))), lg (ls rfl (ls rfl lz)), lg (ls rfl lz), trivial⟩ ?_
  refine aw_seq ?_
  refine aw_seq ?_
  refine aw_region (by decide) ?_
  refine rts _ rfl (opD_load_aggX (qs := [_, _]) ag70_u9b sz70_u9b oz (loc_getN rfl rfl) (Nat.le_of_ble_eq_true rfl) rfl) ?_
  replace h0 := bnd_some h0
  obtain ⟨x_1, hx_1, h0⟩ := h0
  refine rts _ rfl (opD_pure ht48_u9b (c_lmay2 hx_1) ⟨(le_of_eq lz).trans (agg_le ⟨(Pd.le_refl _), (Pd.le_refl _), trivial⟩), trivial⟩) ?_
  refine rts _ rfl (opD_not lz) ?_
  refine rts _ rfl (opD_move lz) ?_
  refine rtg _ rfl lz (fun hg1_4_1 => opD_load_aggX (qs := [_, _, _, _, _]) ag60_u9b sz60_u9b (ls rfl (ls rfl (ls rfl (ls rfl (os rfl oz))))) (loc_getN rfl rfl) (Nat.le_of_ble_eq_true rfl) rfl) ?_
  replace h0 := bnd_some h0
  obtain ⟨x_2, hx_2, h0⟩ := h0
  refine rtg _ rfl (ls rfl lz) (fun hg1_5_2 => opD_pure ht95_u9b (c_lone2 (gif_some hx_2 hg1_5_2)) ⟨(le_of_eq (lz.trans (pif_pos hg1_5_2))).trans (agg_le ⟨(Pd.le_refl _), (Pd.le_refl _), (Pd.le_refl _), (Pd.le_refl _), (Pd.le_refl _), trivial⟩), trivial⟩) ?_
  refine rtg _ rfl (ls rfl (ls rfl lz)) (fun hg1_6_3 => opD_not (lz.trans (pif_pos hg1_6_3))) ?_
  refine rts _ rfl (opD_or (ls rfl (ls rfl (ls rfl lz))) lz) ?_
  refine .nil ?_
  refine aw_keep [(2, _), (3, _), (4, _), (14, _)] ⟨lg (ls rfl (ls rfl (ls rfl (ls rfl (ls rfl (ls rfl (ls rfl (ls rfl oz)))))))), lg (ls rfl (ls rfl (ls rfl (ls rfl (ls rfl (ls rfl (ls rfl (ls rfl (os rfl oz))))))))), lg (ls rfl (ls rfl (ls rfl (ls rfl (ls rfl (ls rfl (ls rfl (ls rfl (os rfl (os rfl oz)))))))))), lg lz, trivial⟩ ?_
  refine aw_cond _ (os rfl (os rfl (os rfl oz))) (fun hc => ?_) (fun hc => ?_)
  · skip
    replace h0 := ifb_t h0 hc
    clear hc
    refine aw_seq ?_
    refine aw_region (by decide) ?_
    refine rts _ rfl (opD_build_struct (rs := [_, _]) Go.Proofs.Tryd.underlying70 pt70_u9b zt70_u9b parts_nil rfl) ?_
    refine rts _ rfl (storeAN rfl sz70_u9b (ls rfl (os rfl (os rfl oz))) lz (ones_cons (one_pl rfl) (ones_cons (one_pl rfl) ones_nil)) rfl rfl (Nat.le_of_ble_eq_true rfl) (List.cons_ne_nil _ _) (bnd_cons (pl_bnd _ _ _) (bnd_cons (pl_bnd _ _ _) bnd_nil)) (by simp only [na, nb, nc, nd, nf, ng, nh, ni, nj, nk] <;> rfl) (by simp only [na, nb, nc, nd, nf, ng, nh, ni, nj, nk] <;> rfl)) ?_
    refine rts _ rfl (opD_assign (ev_const _ _)) ?_
    refine .nil ?_
    refine aw_keep [(4, _), (5, _)] ⟨lg (ls rfl (lx (ls rfl (os rfl (os rfl oz))))), lg lz, trivial⟩ ?_
    refine aw_ret ?_
    obtain rfl := some_of h0
    exact done_ext (.inr rfl) ((res_list (rs := [_, _]) (ps := [_, _]) rfl rfl ⟨it_cellA (B := ⟨70, [_, _]⟩) ag70_u9b sz70_u9b oz (loc_getN rfl rfl) rfl, it_tmp (os rfl oz), trivial⟩).le (tup_le ⟨(agg_le ⟨(Pd.le_refl _), (le_nil rfl), trivial⟩), (Pd.le_refl _), trivial⟩)) (tup_bnd (bnd_cons (agg_bnd (bnd_cons (pl_bnd _ _ _) (bnd_cons (sl_b kb_Lin) bnd_nil))) (bnd_cons (pl_bnd _ _ _) bnd_nil)))
  · skip
    replace h0 := ifb_f h0 hc
    clear hc
    refine aw_skip ?_
    refine aw_keep [(2, _), (3, _), (4, _)] ⟨lg oz, lg (os rfl oz), lg (os rfl (os rfl oz)), trivial⟩ ?_
    refine aw_seq ?_
    refine aw_seq ?_
    refine aw_region (by decide) ?_
    refine rts _ rfl (opD_fieldAddr fo70_0_u9b oz) ?_
    refine rts _ rfl (opD_load_one ag22_u9b lz (loc_getN rfl rfl) rfl) ?_
    refine rts _ rfl (opD_eql lz (ev_const _ _)) ?_
    refine .nil ?_
    refine aw_keep [(2, _), (3, _), (4, _), (18, _)] ⟨lg (ls rfl (ls rfl (ls rfl oz))), lg (ls rfl (ls rfl (ls rfl (os rfl oz)))), lg (ls rfl (ls rfl (ls rfl (os rfl (os rfl oz))))), lg lz, trivial⟩ ?_
    refine aw_cond _ (os rfl (os rfl (os rfl oz))) (fun hc => ?_) (fun hc => ?_)
    · skip
      replace h0 := ifb_t h0 hc
      clear hc
      refine aw_seq ?_
      refine aw_region (by decide) ?_
      refine rts _ rfl (opD_build_struct (rs := [_, _]) Go.Proofs.Tryd.underlying70 pt70_u9b zt70_u9b parts_nil rfl) ?_
      refine rts _ rfl (storeAN rfl sz70_u9b (ls rfl (os rfl (os rfl oz))) lz (ones_cons (one_pl rfl) (ones_cons (one_pl rfl) ones_nil)) rfl rfl (Nat.le_of_ble_eq_true rfl) (List.cons_ne_nil _ _) (bnd_cons (pl_bnd _ _ _) (bnd_cons (pl_bnd _ _ _) bnd_nil)) (by simp only [na, nb, nc, nd, nf, ng, nh, ni, nj, nk] <;> rfl) (by simp only [na, nb, nc, nd, nf, ng, nh, ni, nj, nk] <;> rfl)) ?_
      refine rts _ rfl (opD_assign (ev_const _ _)) ?_
      refine .nil ?_
      refine aw_keep [(4, _), (5, _)] ⟨lg (ls rfl (lx (ls rfl (os rfl (os rfl oz))))), lg lz, trivial⟩ ?_
      refine aw_ret ?_
      obtain rfl := some_of h0
      exact done_ext (.inr rfl) ((res_list (rs := [_, _]) (ps := [_, _]) rfl rfl ⟨it_cellA (B := ⟨70, [_, _]⟩) ag70_u9b sz70_u9b oz (loc_getN rfl rfl) rfl, it_tmp (os rfl oz), trivial⟩).le (tup_le ⟨(agg_le ⟨(Pd.le_refl _), (le_nil rfl), trivial⟩), (Pd.le_refl _), trivial⟩)) (tup_bnd (bnd_cons (agg_bnd (bnd_cons (pl_bnd _ _ _) (bnd_cons (sl_b kb_Lin) bnd_nil))) (bnd_cons (pl_bnd _ _ _) bnd_nil)))
    · skip
      replace h0 := ifb_f h0 hc
      clear hc
      refine aw_skip ?_
      refine aw_keep [(2, _), (3, _), (4, _)] ⟨lg oz, lg (os rfl oz), lg (os rfl (os rfl oz)), trivial⟩ ?_
      refine aw_seq ?_
      refine aw_region (by decide) ?_
      refine rts _ rfl (opD_fieldAddr fo70_0_u9b oz) ?_
      refine rts _ rfl (opD_load_one ag22_u9b lz (loc_getN rfl rfl) rfl) ?_
      refine rts _ rfl (opD_fieldAddr fo70_1_u9b (ls rfl (ls rfl oz))) ?_
      refine rts _ rfl (opD_load_one ag54_u9b lz (loc_getN rfl rfl) rfl) ?_
      refine rts _ rfl (opD_len_sl Go.Proofs.Tryd.underlying54 lz) ?_
      refine rts _ rfl (opD_conv_int Go.Proofs.Tryd.underlying3 Go.Proofs.Tryd.underlying22 lz rfl) ?_
      refine rts _ rfl (opD_add (ls rfl (ls rfl (ls rfl (ls rfl lz)))) lz rfl) ?_
      refine rts _ rfl (opD_add lz (ev_const _ _) rfl) ?_
      refine rts _ rfl (opD_fieldAddr fo60_0_u9b (ls rfl (ls rfl (ls rfl (ls rfl (ls rfl (ls rfl (ls rfl (ls rfl (os rfl oz)))))))))) ?_
      refine rts _ rfl (storeON rfl sz22_u9b lz (le_of_eq (ls rfl lz)) (one_pl rfl) rfl (Nat.le_of_ble_eq_true rfl) (pl_bnd _ _ _) (by simp only [na, nb, nc, nd, nf, ng, nh, ni, nj, nk] <;> rfl) (by simp only [na, nb, nc, nd, nf, ng, nh, ni, nj, nk] <;> rfl)) ?_
      refine .nil ?_
      refine aw_keep [(2, _), (3, _), (4, _)] ⟨lg (lx (ls rfl (ls rfl (ls rfl (ls rfl (ls rfl (ls rfl (ls rfl (ls rfl (ls rfl oz)))))))))), lg (lx (ls rfl (ls rfl (ls rfl (ls rfl (ls rfl (ls rfl (ls rfl (ls rfl (ls rfl (os rfl oz))))))))))), lg (lx (ls rfl (ls rfl (ls rfl (ls rfl (ls rfl (ls rfl (ls rfl (ls rfl (ls rfl (os rfl (os rfl oz)))))))))))), trivial⟩ ?_
      refine aw_seq ?_
      refine aw_region (by decide) ?_
      refine rts _ rfl (opD_assign (ev_const _ _)) ?_
      refine .nil ?_
      refine aw_keep [(2, _), (3, _), (4, _), (6, _)] ⟨lg (ls rfl oz), lg (ls rfl (os rfl oz)), lg (ls rfl (os rfl (os rfl oz))), lg lz, trivial⟩ ?_
      refine aw_seq ?_
      refine aw_seq ?_
      refine aw_region (by decide) ?_
      refine rts _ rfl (opD_fieldAddr fo70_1_u9b oz) ?_
      refine rts _ rfl (opD_load_one ag54_u9b lz (loc_getN rfl rfl) rfl) ?_
      refine rts _ rfl (opD_len_sl Go.Proofs.Tryd.underlying54 lz) ?_
      refine rts _ rfl (opD_eql lz (ev_const _ _)) ?_
      refine .nil ?_
      refine aw_keep [(2, _), (3, _), (4, _), (6, _), (32, _)] ⟨lg (ls rfl (ls rfl (ls rfl (ls rfl oz)))), lg (ls rfl (ls rfl (ls rfl (ls rfl (os rfl oz))))), lg (ls rfl (ls rfl (ls rfl (ls rfl (os rfl (os rfl oz)))))), lg (ls rfl (ls rfl (ls rfl (ls rfl (os rfl (os rfl (os rfl oz))))))), lg lz, trivial⟩ ?_
      refine aw_cond _ (os rfl (os rfl (os rfl (os rfl oz)))) (fun hc => ?_) (fun hc => ?_)
      · skip
        replace h0 := ifb_t h0 hc
        clear hc
        refine aw_seq ?_
        refine aw_drawn [false, false, false, false, false, false, false, true, false, false, true, false, true, false] [[0, 1, 2], [0, 1, 2], [0, 1, 2], [0], [0], [0], [0], [0, 1], [0, 1], [0, 1], [1, 2], [2], [2, 3], [3]] mixed_u9b (by decide +kernel) ?_
        refine dtp _ rfl (fun s => opD_fieldAddr fo70_0_u9b oz) ?_
        refine dtlG1 ag22_u9b lz (loc_getN rfl rfl) rfl rfl ?_
        refine dtp _ rfl (fun s => opD_add lz (ev_const _ _) rfl) ?_
        refine dtp _ rfl (fun s => opD_move (ls rfl (ls rfl (ls rfl (os rfl (os rfl (os rfl oz))))))) ?_
        refine dtp _ rfl (fun s => opD_fieldAddr fo70_1_u9b (ls rfl (ls rfl (ls rfl (ls rfl oz))))) ?_
        refine dtlG1 ag54_u9b lz (loc_getN rfl rfl) rfl rfl ?_
        replace h0 := grd_some h0
        obtain ⟨hg_7, h0⟩ := h0
        refine dtp _ rfl (fun s => opD_slice_from ((1 : Int).toNat) Go.Proofs.Tryd.underlying54 sz60_u9b lz (ev_const _ _) hg_7.eq hg_7.2) ?_
        replace h0 := grd_some h0
        obtain ⟨hg_8, h0⟩ := h0
        refine dta _ rfl (opD_appendNil (k := kLin) Go.Proofs.Tryd.underlying54 el60_u9b (ls rfl (ls rfl (ls rfl lz))) lz hg_8.1 hg_8.2 (by first | exact List.length_nil | (simp only [List.length_cons, List.length_nil, Nat.zero_add, Nat.reduceAdd] <;> rfl)) (by simp only [na, nb, nc, nd, nf, ng, nh, ni, nj, nk] <;> rfl)) ?_
        refine dtlGA (qs := [_, _, _, _, _]) ag60_u9b sz60_u9b (ls rfl (ls rfl (ls rfl (ls rfl (ls rfl (ls rfl (ls rfl (ls rfl (os rfl oz))))))))) (loc_getN rfl rfl) (Nat.le_of_ble_eq_true rfl) rfl rfl ?_
        refine dtp _ rfl (fun s => opD_buildSlice (k := kLin) ([(⟨IntKind.u64.wrap ((IntKind.u64.wrap (p0.Dropped + (IntKind.u64.wrap ((p0.L.length : Int))))) + 1), p1.Who, p1.What, p1.Code, p1.Key⟩ : Lin)] : (List Lin)) Go.Proofs.Tryd.underlying54 sz60_u9b zt60_u9b (by decide) rfl (parts_cons (cellsA lz) parts_nil) rfl rfl) ?_
        replace h0 := grd_some h0
        obtain ⟨hg_9, h0⟩ := h0
        refine dta _ rfl (opD_appendX Go.Proofs.Tryd.underlying54 el60_u9b (ls rfl (ls rfl lz)) lz rfl hg_9.1 hg_9.2 rfl (by simp only [na, nb, nc, nd, nf, ng, nh, ni, nj, nk] <;> rfl)) ?_
        refine dtp _ rfl (fun s => opD_build_struct (rs := [_, _]) Go.Proofs.Tryd.underlying70 pt70_u9b zt70_u9b (parts_cons (cells1 (ls rfl (ls rfl (ls rfl (ls rfl (ls rfl (ls rfl (ls rfl (ls rfl lz)))))))) (one_pl rfl)) (parts_cons (cells1 lz (one_sl _ _ _ _)) parts_nil)) rfl) ?_
        refine dta _ rfl (storeAN rfl sz70_u9b (ls rfl (ls rfl (ls rfl (ls rfl (ls rfl (ls rfl (ls rfl (ls rfl (ls rfl (ls rfl (ls rfl (ls rfl (os rfl (os rfl oz)))))))))))))) lz (ones_cons (one_pl rfl) (ones_cons (one_sl _ _ _ _) ones_nil)) rfl rfl (Nat.le_of_ble_eq_true rfl) (List.cons_ne_nil _ _) (bnd_cons (pl_bnd _ _ _) (bnd_cons (sl_ob kb_Lin (by first | omega | (simp only [List.length_append, List.length_cons, List.length_nil, ext_fr_length, upd_fr_length]; omega))) bnd_nil)) (by simp only [na, nb, nc, nd, nf, ng, nh, ni, nj, nk] <;> rfl) (by simp only [na, nb, nc, nd, nf, ng, nh, ni, nj, nk] <;> rfl)) ?_
        refine dtp _ rfl (fun s => opD_assign (ev_const _ _)) ?_
        refine .nil ?_
        dsimp only [List.nil_append, List.cons_append]
        refine ⟨rfl, ⟨trivial, ⟨(by first | exact loc_getN rfl rfl | exact updx_get hlt | exact upd2_g hgh hlt | exact upd2_h hlt2), (by first | exact loc_getN rfl rfl | exact updx_get hlt | exact upd2_g hgh hlt | exact upd2_h hlt2), (by first | exact loc_getN rfl rfl | exact updx_get hlt | exact upd2_g hgh hlt | exact upd2_h hlt2), trivial⟩, trivial, trivial, trivial, ⟨(by first | exact loc_getN rfl rfl | exact updx_get hlt | exact upd2_g hgh hlt | exact upd2_h hlt2), trivial⟩, trivial, trivial, ⟨(by first | exact loc_getN rfl rfl | exact updx_get hlt | exact upd2_g hgh hlt | exact upd2_h hlt2), (by first | exact loc_getN rfl rfl | exact updx_get hlt | exact upd2_g hgh hlt | exact upd2_h hlt2), trivial⟩, trivial, trivial, trivial, trivial, trivial, trivial⟩, ?_⟩
        refine aw_keep [(4, _), (5, _)] ⟨lg (ls rfl (lx (ls rfl (ls rfl (ls rfl (ls rfl (ls rfl (ls rfl (ls rfl (ls rfl (ls rfl (ls rfl (ls rfl (ls rfl (os rfl (os rfl oz)))))))))))))))), lg lz, trivial⟩ ?_
        refine aw_ret ?_
        obtain rfl := some_of h0
        exact done_ext (.inr rfl) ((res_list (rs := [_, _]) (ps := [_, _]) rfl rfl ⟨it_cellA (B := ⟨70, [_, _]⟩) ag70_u9b sz70_u9b oz (loc_getN rfl rfl) rfl, it_tmp (os rfl oz), trivial⟩).le (tup_le ⟨(agg_le ⟨(Pd.le_refl _), (sl_any _ _ _ _), trivial⟩), (Pd.le_refl _), trivial⟩)) (tup_bnd (bnd_cons (agg_bnd (bnd_cons (pl_bnd _ _ _) (bnd_cons (sl_b kb_Lin) bnd_nil))) (bnd_cons (pl_bnd _ _ _) bnd_nil)))
      · skip
        replace h0 := ifb_f h0 hc
        clear hc
        refine aw_skip ?_
        refine aw_keep [(2, _), (3, _), (4, _), (6, _)] ⟨lg oz, lg (os rfl oz), lg (os rfl (os rfl oz)), lg (os rfl (os rfl (os rfl oz))), trivial⟩ ?_
        refine aw_seq ?_
        refine aw_drawn [false, false, false, true, false, false, true, false, true, false] [[0], [0], [0], [0, 1], [0, 1], [0, 1], [1, 2], [2], [2, 3], [3]] mixed_u9b (by decide +kernel) ?_
        refine dtp _ rfl (fun s => opD_move (os rfl (os rfl (os rfl oz)))) ?_
        refine dtp _ rfl (fun s => opD_fieldAddr fo70_1_u9b (ls rfl oz)) ?_
        refine dtlG1 ag54_u9b lz (loc_getN rfl rfl) rfl rfl ?_
        replace h0 := grd_some h0
        obtain ⟨hg_12, h0⟩ := h0
        refine dta _ rfl (opD_appendNil (k := kLin) Go.Proofs.Tryd.underlying54 el60_u9b (ls rfl (ls rfl lz)) lz hg_12.1 hg_12.2 (by first | exact List.length_nil | (simp only [List.length_cons, List.length_nil, Nat.zero_add, Nat.reduceAdd] <;> rfl)) (by simp only [na, nb, nc, nd, nf, ng, nh, ni, nj, nk] <;> rfl)) ?_
        refine dtlGA (qs := [_, _, _, _, _]) ag60_u9b sz60_u9b (ls rfl (ls rfl (ls rfl (ls rfl (os rfl oz))))) (loc_getN rfl rfl) (Nat.le_of_ble_eq_true rfl) rfl rfl ?_
        refine dtp _ rfl (fun s => opD_buildSlice (k := kLin) ([(⟨IntKind.u64.wrap ((IntKind.u64.wrap (p0.Dropped + (IntKind.u64.wrap ((p0.L.length : Int))))) + 1), p1.Who, p1.What, p1.Code, p1.Key⟩ : Lin)] : (List Lin)) Go.Proofs.Tryd.underlying54 sz60_u9b zt60_u9b (by decide) rfl (parts_cons (cellsA lz) parts_nil) rfl rfl) ?_
        replace h0 := grd_some h0
        obtain ⟨hg_13, h0⟩ := h0
        refine dta _ rfl (opD_appendX Go.Proofs.Tryd.underlying54 el60_u9b (ls rfl (ls rfl lz)) lz rfl hg_13.1 hg_13.2 rfl (by simp only [na, nb, nc, nd, nf, ng, nh, ni, nj, nk] <;> rfl)) ?_
        refine dtp _ rfl (fun s => opD_build_struct (rs := [_, _]) Go.Proofs.Tryd.underlying70 pt70_u9b zt70_u9b (parts_cons (cells1 (ev_const _ _) (one_pl rfl)) (parts_cons (cells1 lz (one_sl _ _ _ _)) parts_nil)) rfl) ?_
        refine dta _ rfl (storeAN rfl sz70_u9b (ls rfl (ls rfl (ls rfl (ls rfl (ls rfl (ls rfl (ls rfl (ls rfl (os rfl (os rfl oz)))))))))) lz (ones_cons (one_pl rfl) (ones_cons (one_sl _ _ _ _) ones_nil)) rfl rfl (Nat.le_of_ble_eq_true rfl) (List.cons_ne_nil _ _) (bnd_cons (pl_bnd _ _ _) (bnd_cons (sl_ob kb_Lin (by first | omega | (simp only [List.length_append, List.length_cons, List.length_nil, ext_fr_length, upd_fr_length]; omega))) bnd_nil)) (by simp only [na, nb, nc, nd, nf, ng, nh, ni, nj, nk] <;> rfl) (by simp only [na, nb, nc, nd, nf, ng, nh, ni, nj, nk] <;> rfl)) ?_
        refine dtp _ rfl (fun s => opD_assign (ev_const _ _)) ?_
        refine .nil ?_
        dsimp only [List.nil_append, List.cons_append]
        refine ⟨rfl, ⟨trivial, trivial, ⟨(by first | exact loc_getN rfl rfl | exact updx_get hlt | exact upd2_g hgh hlt | exact upd2_h hlt2), trivial⟩, trivial, ⟨(by first | exact loc_getN rfl rfl | exact updx_get hlt | exact upd2_g hgh hlt | exact upd2_h hlt2), (by first | exact loc_getN rfl rfl | exact updx_get hlt | exact upd2_g hgh hlt | exact upd2_h hlt2), trivial⟩, trivial, trivial, trivial, trivial, trivial, trivial⟩, ?_⟩
        refine aw_keep [(4, _), (5, _)] ⟨lg (ls rfl (lx (ls rfl (ls rfl (ls rfl (ls rfl (ls rfl (ls rfl (ls rfl (ls rfl (os rfl (os rfl oz)))))))))))), lg lz, trivial⟩ ?_
        refine aw_ret ?_
        obtain rfl := some_of h0
        exact done_ext (.inr rfl) ((res_list (rs := [_, _]) (ps := [_, _]) rfl rfl ⟨it_cellA (B := ⟨70, [_, _]⟩) ag70_u9b sz70_u9b oz (loc_getN rfl rfl) rfl, it_tmp (os rfl oz), trivial⟩).le (tup_le ⟨(agg_le ⟨(Pd.le_refl _), (sl_any _ _ _ _), trivial⟩), (Pd.le_refl _), trivial⟩)) (tup_bnd (bnd_cons (agg_bnd (bnd_cons (pl_bnd _ _ _) (bnd_cons (sl_b kb_Lin) bnd_nil))) (bnd_cons (pl_bnd _ _ _) bnd_nil)))

def F_lsince2_b0 (p0 : Lgr) (p1 : Int) (t_3 : Int) : Option ((Int) ⊕ ((Int))) :=
  grd (((decide (t_3 < (p0.L.length : Int))) == true) = true → Below t_3 p0.L.length) <| ifb ((decide (t_3 < (p0.L.length : Int))) && (decide (((p0.L.getD t_3.toNat default).Seq) < p1))) (some (.inl (IntKind.i64.wrap (t_3 + 1)))) (some (.inr t_3))
def F_lsince2 (fl : Nat) (p0 : Lgr) (p1 : Int) : Option ((List Lin) × Int) :=
  bnd (F_lmay2 fl p0) fun x_1 => ifb (!x_1) (some ([], 1)) (bnd (lp (F_lsince2_b0 p0 p1) fl 0) fun z_2 => grd (UpTo z_2 p0.L.length) <| some ((p0.L.drop z_2.toNat), 0))
set_option maxRecDepth 100000 in
set_option maxHeartbeats 2000000 in
theorem c_lsince2 {fl : Nat} {p0 : Lgr} {p1 : Int} {R : (List Lin) × Int} (h0 : F_lsince2 fl p0 p1 = some R) : Pure Go.Proofs.Tryd.prog 43 [agg [pl (.int .u64 p0.Dropped), sl kLin none none p0.L], pl (.int .u64 p1)] (tup [sl kLin none none R.1, pl (.int .i64 R.2)]) := by
  intro s
  unfold F_lsince2 at h0
  refine ac_of_aw s.boxes.length s.fr.length Go.Proofs.Tryd.func43 rfl (by simp [Go.Proofs.Tryd.ntmps43]) ?_
  refine aw_ext0 ?_
  refine aw_keep [(0, _), (1, _)] ⟨lg ez, lg (es ez), trivial⟩ ?_
  refine aw_seq ?_
  refine aw_region (by decide) ?_
  refine rts _ rfl (boxAN rfl oz (bnd_cons (pl_bnd _ _ _) (bnd_cons (sl_b kb_Lin) bnd_nil)) (by first | exact List.length_nil | (simp only [List.length_cons, List.length_nil, Nat.zero_add, Nat.reduceAdd] <;> rfl)) (by simp only [na, nb, nc, nd, nf, ng, nh, ni, nj, nk] <;> rfl)) ?_
  refine rts _ rfl (opD_assign (ev_const _ _)) ?_
  refine rts _ rfl (opD_assign (ev_const _ _)) ?_
  refine .nil ?_
  refine aw_keep [(1, _), (2, _)] ⟨lg (ls rfl (ls rfl (ls rfl (os rfl oz)))), lg (ls rfl (ls rfl lz)), trivial⟩ ?_
  refine aw_seq ?_
  refine aw_seq ?_
  refine aw_region (by decide) ?_
  refine rts _ rfl (opD_load_aggX (qs := [_, _]) ag70_u9b sz70_u9b (os rfl oz) (loc_getN rfl rfl) (Nat.le_of_ble_eq_true rfl) rfl) ?_
  replace h0 := bnd_some h0
  obtain ⟨x_1, hx_1, h0⟩ := h0
  refine rts _ rfl (opD_pure ht48_u9b (c_lmay2 hx_1) ⟨(le_of_eq lz).trans (agg_le ⟨(Pd.le_refl _), (Pd.le_refl _), trivial⟩), trivial⟩) ?_
  refine rts _ rfl (opD_not lz) ?_
  refine .nil ?_
  refine aw_keep [(1, _), (2, _), (9, _)] ⟨lg (ls rfl (ls rfl (ls rfl oz))), lg (ls rfl (ls rfl (ls rfl (os rfl oz)))), lg lz, trivial⟩ ?_
  refine aw_cond _ (os rfl (os rfl oz)) (fun hc => ?_) (fun hc => ?_)
  · skip
    replace h0 := ifb_t h0 hc
    clear hc
    refine aw_seq ?_
    refine aw_region (by decide) ?_
    refine rts _ rfl (opD_assign (ev_const _ _)) ?_
    refine rts _ rfl (opD_assign (ev_const _ _)) ?_
    refine .nil ?_
    refine aw_keep [(4, _), (5, _)] ⟨lg (ls rfl lz), lg lz, trivial⟩ ?_
    refine aw_ret ?_
    obtain rfl := some_of h0
    exact done_ext (.inr rfl) ((res_list (rs := [_, _]) (ps := [_, _]) rfl rfl ⟨it_tmp oz, it_tmp (os rfl oz), trivial⟩).le (tup_le ⟨(le_nil rfl), (Pd.le_refl _), trivial⟩)) (tup_bnd (bnd_cons (sl_b kb_Lin) (bnd_cons (pl_bnd _ _ _) bnd_nil)))
  · skip
    replace h0 := ifb_f h0 hc
    clear hc
    refine aw_skip ?_
    refine aw_keep [(1, _), (2, _)] ⟨lg oz, lg (os rfl oz), trivial⟩ ?_
    refine aw_seq ?_
    refine aw_region (by decide) ?_
    refine rts _ rfl (opD_assign (ev_const _ _)) ?_
    refine .nil ?_
    refine aw_keep [(1, _), (2, _), (6, _)] ⟨lg (ls rfl oz), lg (ls rfl (os rfl oz)), lg lz, trivial⟩ ?_
    refine aw_seq ?_
    replace h0 := bnd_some h0
    obtain ⟨z_2, hz_2, h0⟩ := h0
    refine aw_mid (fun e st => ∃ v : Int, Holds e [(2, ptr (s.boxes.length + 0) 0), (6, pl (.int .i64 v))] ∧ st = s.ext [⟨70, [pl (.int .u64 p0.Dropped), sl kLin none none p0.L]⟩] [] ∧ v = z_2) ?_ ?_
    · skip
      refine aw_wkN rfl 1 0 rfl rfl ?_
      refine aw_block ?_
      refine aw_loop (fun n e st => ∃ v : Int, Holds e [(1, pl (.int .u64 p1)), (2, ptr (s.boxes.length + 0) 0), (6, pl (.int .i64 v))] ∧ st = s.ext [⟨70, [pl (.int .u64 p0.Dropped), sl kLin none none p0.L]⟩] [] ∧ lp (F_lsince2_b0 p0 p1) n v = some z_2) fl ⟨0, ⟨le_of_eq (eg oz), le_of_eq (eg (os rfl oz)), le_of_eq (eg (os rfl (os rfl oz))), trivial⟩, rfl, hz_2⟩ ?_
      rintro n e st ⟨t_3, hH, rfl, hz_2⟩
      replace hz_2 := lp_some hz_2
      obtain ⟨m_z_4, z_4, rfl, hz_4, hz_2⟩ := hz_2
      unfold F_lsince2_b0 at hz_4
      refine aw_keep _ hH ?_
      refine aw_wkN rfl 1 0 rfl rfl ?_
      refine aw_seq ?_
      refine aw_seq ?_
      refine aw_region (by decide) ?_
      refine rts _ rfl (opD_move (os rfl (os rfl oz))) ?_
      refine rts _ rfl (opD_fieldAddr fo70_1_u9b (ls rfl (os rfl oz))) ?_
      refine rts _ rfl (opD_load_one ag54_u9b lz (loc_getN rfl rfl) rfl) ?_
      refine rts _ rfl (opD_len_sl Go.Proofs.Tryd.underlying54 lz) ?_
      refine rts _ rfl (opD_lss (ls rfl (ls rfl (ls rfl lz))) lz) ?_
      refine rts _ rfl (opD_move lz) ?_
      refine rtg _ rfl lz (fun hg4_6_28 => opD_fieldAddr fo70_1_u9b (ls rfl (ls rfl (ls rfl (ls rfl (ls rfl (ls rfl (os rfl oz)))))))) ?_
      refine rtg _ rfl (ls rfl lz) (fun hg4_7_29 => opD_load_one ag54_u9b (lz.trans (pif_pos hg4_7_29)) (loc_getN rfl rfl) rfl) ?_
      refine rtg _ rfl (ls rfl (ls rfl lz)) (fun hg4_8_30 => opD_move (ls rfl (ls rfl (ls rfl (ls rfl (ls rfl (ls rfl (ls rfl (ls rfl (os rfl (os rfl oz))))))))))) ?_
      replace hz_4 := grd_some hz_4
      obtain ⟨hg_32, hz_4⟩ := hz_4
      refine rtg _ rfl (ls rfl (ls rfl (ls rfl lz))) (fun hg4_9_31 => opD_indexAddr_sl (i := t_3.toNat) Go.Proofs.Tryd.underlying54 sz60_u9b ((ls rfl lz).trans (pif_pos hg4_9_31)) (lz.trans (pif_pos hg4_9_31)) (hg_32 hg4_9_31).eq (hg_32 hg4_9_31).2) ?_
      refine rtg _ rfl (ls rfl (ls rfl (ls rfl (ls rfl lz)))) (fun hg4_10_33 => opD_fieldAddr_el fo60_0_u9b (lz.trans (pif_pos hg4_10_33))) ?_
      refine rtg _ rfl (ls rfl (ls rfl (ls rfl (ls rfl (ls rfl lz))))) (fun hg4_11_34 => opD_load_el_one ag22_u9b (lz.trans (pif_pos hg4_11_34)) (at_getD default (hg_32 hg4_11_34).2) rfl) ?_
      refine rtg _ rfl (ls rfl (ls rfl (ls rfl (ls rfl (ls rfl (ls rfl lz)))))) (fun hg4_12_35 => opD_move (ls rfl (ls rfl (ls rfl (ls rfl (ls rfl (ls rfl (ls rfl (ls rfl (ls rfl (ls rfl (ls rfl (ls rfl oz))))))))))))) ?_
      refine rtg _ rfl (ls rfl (ls rfl (ls rfl (ls rfl (ls rfl (ls rfl (ls rfl lz))))))) (fun hg4_13_36 => opD_lss ((ls rfl lz).trans (pif_pos hg4_13_36)) (lz.trans (pif_pos hg4_13_36))) ?_
      refine rts _ rfl (opD_and (ls rfl (ls rfl (ls rfl (ls rfl (ls rfl (ls rfl (ls rfl (ls rfl lz)))))))) lz) ?_
      refine .nil ?_
      refine aw_keep [(1, _), (2, _), (6, _), (24, _)] ⟨lg (ls rfl (ls rfl (ls rfl (ls rfl (ls rfl (ls rfl (ls rfl (ls rfl (ls rfl (ls rfl (ls rfl (ls rfl (ls rfl (ls rfl (ls rfl oz))))))))))))))), lg (ls rfl (ls rfl (ls rfl (ls rfl (ls rfl (ls rfl (ls rfl (ls rfl (ls rfl (ls rfl (ls rfl (ls rfl (ls rfl (ls rfl (ls rfl (os rfl oz)))))))))))))))), lg (ls rfl (ls rfl (ls rfl (ls rfl (ls rfl (ls rfl (ls rfl (ls rfl (ls rfl (ls rfl (ls rfl (ls rfl (ls rfl (ls rfl (ls rfl (os rfl (os rfl oz))))))))))))))))), lg lz, trivial⟩ ?_
      refine aw_cond _ (os rfl (os rfl (os rfl oz))) (fun hc => ?_) (fun hc => ?_)
      · skip
        replace hz_4 := ifb_t hz_4 hc
        clear hc
        refine aw_skip ?_
        refine aw_keep [(1, _), (2, _), (6, _)] ⟨lg oz, lg (os rfl oz), lg (os rfl (os rfl oz)), trivial⟩ ?_
        refine aw_block ?_
        refine aw_region (by decide) ?_
        refine rts _ rfl (opD_move (os rfl (os rfl oz))) ?_
        refine rts _ rfl (opD_add lz (ev_const _ _) rfl) ?_
        refine rts _ rfl (opD_assign lz) ?_
        refine .nil ?_
        obtain rfl := some_of hz_4
        replace hz_2 := ocs_l hz_2
        refine wk_yesN rfl (l := [(1, pl (.int .u64 p1)), (2, ptr (s.boxes.length + 0) 0), (6, pl (.int .i64 (IntKind.i64.wrap (t_3 + 1))))]) (bs' := [⟨70, [pl (.int .u64 p0.Dropped), sl kLin none none p0.L]⟩]) ⟨le_of_eq (eg (ls rfl (ls rfl (ls rfl oz)))), le_of_eq (eg (ls rfl (ls rfl (ls rfl (os rfl oz))))), le_of_eq (eg lz), trivial⟩ (bnd_cons (pl_bnd _ _ _) (bnd_cons (ptr_bnd _ (by first | omega | (simp only [List.length_append, List.length_cons, List.length_nil]; omega))) (bnd_cons (pl_bnd _ _ _) bnd_nil))) (Nat.le_of_ble_eq_true rfl) (by simp only [na, nb, nc, nd, nf, ng, nh, ni, nj, nk] <;> rfl) (bxle_same bxle_nil) rfl (by simp only [na, nb, nc, nd, nf, ng, nh, ni, nj, nk] <;> rfl) (bl_cons (bnd_cons (pl_bnd _ _ _) (bnd_cons (sl_b kb_Lin) bnd_nil)) bl_nil) ?_
        exact ⟨m_z_4, Nat.lt_succ_self _, IntKind.i64.wrap (t_3 + 1), ⟨le_of_eq (eg oz), le_of_eq (eg (os rfl oz)), le_of_eq (eg (os rfl (os rfl oz))), trivial⟩, rfl, hz_2⟩
      · skip
        replace hz_4 := ifb_f hz_4 hc
        clear hc
        refine aw_exit ?_
        obtain rfl := some_of hz_4
        replace hz_2 := ocs_r hz_2
        refine wk_no ?_
        refine wk_yesN rfl (l := [(2, ptr (s.boxes.length + 0) 0), (6, pl (.int .i64 t_3))]) (bs' := [⟨70, [pl (.int .u64 p0.Dropped), sl kLin none none p0.L]⟩]) ⟨le_of_eq (eg (os rfl oz)), le_of_eq (eg (os rfl (os rfl oz))), trivial⟩ (bnd_cons (ptr_bnd _ (by first | omega | (simp only [List.length_append, List.length_cons, List.length_nil]; omega))) (bnd_cons (pl_bnd _ _ _) bnd_nil)) (Nat.le_of_ble_eq_true rfl) (by simp only [na, nb, nc, nd, nf, ng, nh, ni, nj, nk] <;> rfl) (bxle_same bxle_nil) rfl (by simp only [na, nb, nc, nd, nf, ng, nh, ni, nj, nk] <;> rfl) (bl_cons (bnd_cons (pl_bnd _ _ _) (bnd_cons (sl_b kb_Lin) bnd_nil)) bl_nil) ?_
        exact ⟨t_3, ⟨le_of_eq (eg oz), le_of_eq (eg (os rfl oz)), trivial⟩, rfl, some_of hz_2⟩
    · rintro e st ⟨vz_2, hH, rfl, rfl⟩
      refine aw_keep _ hH ?_
      refine aw_keep [(2, _), (6, _)] ⟨lg oz, lg (os rfl oz), trivial⟩ ?_
      refine aw_seq ?_
      refine aw_region (by decide) ?_
      refine rts _ rfl (opD_fieldAddr fo70_1_u9b oz) ?_
      refine rts _ rfl (opD_load_one ag54_u9b lz (loc_getN rfl rfl) rfl) ?_
      refine rts _ rfl (opD_move (ls rfl (ls rfl (os rfl oz)))) ?_
      replace h0 := grd_some h0
      obtain ⟨hg_37, h0⟩ := h0
      refine rts _ rfl (opD_slice_from vz_2.toNat Go.Proofs.Tryd.underlying54 sz60_u9b (ls rfl lz) lz hg_37.eq hg_37.2) ?_
      refine rts _ rfl (opD_assign lz) ?_
      refine rts _ rfl (opD_assign (ev_const _ _)) ?_
      refine .nil ?_
      refine aw_keep [(4, _), (5, _)] ⟨lg (ls rfl lz), lg lz, trivial⟩ ?_
      refine aw_ret ?_
      obtain rfl := some_of h0
      exact done_ext (.inr rfl) ((res_list (rs := [_, _]) (ps := [_, _]) rfl rfl ⟨it_tmp oz, it_tmp (os rfl oz), trivial⟩).le (tup_le ⟨(Pd.le_refl _), (Pd.le_refl _), trivial⟩)) (tup_bnd (bnd_cons (sl_b kb_Lin) (bnd_cons (pl_bnd _ _ _) bnd_nil)))

def F_lenc2_b0 (p0 : Lgr) (t_5 : (List Int) × Int) : Option (((List Int) × Int) ⊕ (((List Int)))) :=
  ifb (decide (t_5.2 < (p0.L.length : Int))) (ixb p0.L t_5.2 fun x_7 => bnd (oNum t_5.1 x_7.Who) fun x_8 => grd (Fits 1 (x_8.length + ([x_7.What] : (List Int)).length)) <| bnd (oNum (x_8 ++ ([x_7.What] : (List Int))) (IntKind.u64.wrap (x_7.Code))) fun x_9 => bnd (oBytes x_9 (bytesOf x_7.Key)) fun x_10 => some (.inl (x_10, IntKind.i64.wrap (t_5.2 + 1)))) (some (.inr t_5.1))
def F_lenc2 (fl : Nat) (p0 : Lgr) : Option ((List Int) × Int) :=
  bnd (F_lmay2 fl p0) fun x_1 => ifb (!x_1) (some ([], 1)) (bnd (oNum [] p0.Dropped) fun x_2 => bnd (oNum x_2 (IntKind.u64.wrap ((p0.L.length : Int)))) fun x_3 => bnd (lp (F_lenc2_b0 p0) fl (x_3, 0)) fun z_4 => some (z_4, 0))
set_option maxRecDepth 100000 in
set_option maxHeartbeats 2000000 in
theorem c_lenc2 {fl : Nat} {p0 : Lgr} {R : (List Int) × Int} (h0 : F_lenc2 fl p0 = some R) : Pure Go.Proofs.Tryd.prog 44 [agg [pl (.int .u64 p0.Dropped), sl kLin none none p0.L]] (tup [sl (kI .u8) none none R.1, pl (.int .i64 R.2)]) := by
  intro s
  unfold F_lenc2 at h0
  refine ac_of_aw s.boxes.length s.fr.length Go.Proofs.Tryd.func44 rfl (by simp [Go.Proofs.Tryd.ntmps44]) ?_
  refine aw_ext0 ?_
  refine aw_keep [(0, _)] ⟨lg ez, trivial⟩ ?_
  refine aw_seq ?_
  refine aw_region (by decide) ?_
  refine rts _ rfl (boxAN rfl oz (bnd_cons (pl_bnd _ _ _) (bnd_cons (sl_b kb_Lin) bnd_nil)) (by first | exact List.length_nil | (simp only [List.length_cons, List.length_nil, Nat.zero_add, Nat.reduceAdd] <;> rfl)) (by simp only [na, nb, nc, nd, nf, ng, nh, ni, nj, nk] <;> rfl)) ?_
  refine rts _ rfl (opD_assign (ev_const _ _)) ?_
  refine rts _ rfl (opD_assign (ev_const _ _)) ?_
  refine .nil ?_
  refine aw_keep [(1, _)] ⟨lg (ls rfl (ls rfl lz)), trivial⟩ ?_
  refine aw_seq ?_
  refine aw_seq ?_
  refine aw_region (by decide) ?_
  refine rts _ rfl (opD_load_aggX (qs := [_, _]) ag70_u9b sz70_u9b oz (loc_getN rfl rfl) (Nat.le_of_ble_eq_true rfl) rfl) ?_
  replace h0 := bnd_some h0
  obtain ⟨x_1, hx_1, h0⟩ := h0
  refine rts _ rfl (opD_pure ht48_u9b (c_lmay2 hx_1) ⟨(le_of_eq lz).trans (agg_le ⟨(Pd.le_refl _), (Pd.le_refl _), trivial⟩), trivial⟩) ?_
  refine rts _ rfl (opD_not lz) ?_
  refine .nil ?_
  refine aw_keep [(1, _), (9, _)] ⟨lg (ls rfl (ls rfl (ls rfl oz))), lg lz, trivial⟩ ?_
  refine aw_cond _ (os rfl oz) (fun hc => ?_) (fun hc => ?_)
  · skip
    replace h0 := ifb_t h0 hc
    clear hc
    refine aw_seq ?_
    refine aw_region (by decide) ?_
    refine rts _ rfl (opD_assign (ev_const _ _)) ?_
    refine rts _ rfl (opD_assign (ev_const _ _)) ?_
    refine .nil ?_
    refine aw_keep [(2, _), (3, _)] ⟨lg (ls rfl lz), lg lz, trivial⟩ ?_
    refine aw_ret ?_
    obtain rfl := some_of h0
    exact done_ext (.inr rfl) ((res_list (rs := [_, _]) (ps := [_, _]) rfl rfl ⟨it_tmp oz, it_tmp (os rfl oz), trivial⟩).le (tup_le ⟨(le_nil rfl), (Pd.le_refl _), trivial⟩)) (tup_bnd (bnd_cons (sl_b (kb_I _)) (bnd_cons (pl_bnd _ _ _) bnd_nil)))
  · skip
    replace h0 := ifb_f h0 hc
    clear hc
    refine aw_skip ?_
    refine aw_keep [(1, _)] ⟨lg oz, trivial⟩ ?_
    refine aw_seq ?_
    refine aw_drawn [false, false, true, false, false, false, false, true, false] [[0], [0], [0, 1], [0, 1], [0, 1], [0, 1], [0, 1], [1, 2], [2]] mixed_u9b (by decide +kernel) ?_
    refine dtp _ rfl (fun s => opD_fieldAddr fo70_0_u9b oz) ?_
    refine dtlG1 ag22_u9b lz (loc_getN rfl rfl) rfl rfl ?_
    replace h0 := bnd_some h0
    obtain ⟨x_2, hx_2, h0⟩ := h0
    refine dta _ rfl (opD_own1 ht29_u9b (c_oRput hx_2) ⟨(le_of_eq (ev_const _ _)).trans (le_nil rfl), le_of_eq lz, trivial⟩ (by first | exact List.length_nil | (simp only [List.length_cons, List.length_nil, Nat.zero_add, Nat.reduceAdd] <;> rfl)) (by simp only [na, nb, nc, nd, nf, ng, nh, ni, nj, nk] <;> rfl)) ?_
    refine dtp _ rfl (fun s => opD_fieldAddr fo70_1_u9b (ls rfl (ls rfl (ls rfl oz)))) ?_
    refine dtlG1 ag54_u9b lz (loc_getN rfl rfl) rfl rfl ?_
    refine dtp _ rfl (fun s => opD_len_sl Go.Proofs.Tryd.underlying54 lz) ?_
    refine dtp _ rfl (fun s => opD_conv_int Go.Proofs.Tryd.underlying3 Go.Proofs.Tryd.underlying22 lz rfl) ?_
    replace h0 := bnd_some h0
    obtain ⟨x_3, hx_3, h0⟩ := h0
    refine dta _ rfl (opD_adopt (j := 0) (kb_I _) (opD_own1 ht29_u9b (c_oRput hx_3) ⟨(le_of_eq (ls rfl (ls rfl (ls rfl (ls rfl lz))))).trans (sl_any _ _ _ _), le_of_eq lz, trivial⟩ (by first | exact List.length_nil | (simp only [List.length_cons, List.length_nil, Nat.zero_add, Nat.reduceAdd] <;> rfl)) rfl) (by first | exact List.length_nil | (simp only [List.length_cons, List.length_nil, Nat.zero_add, Nat.reduceAdd] <;> rfl)) rfl (len_oNum hx_3) (by simp only [na, nb, nc, nd, nf, ng, nh, ni, nj, nk] <;> rfl)) ?_
    refine dtp _ rfl (fun s => opD_assign lz) ?_
    refine .nil ?_
    dsimp only [List.nil_append, List.cons_append]
    refine ⟨rfl, ⟨trivial, ⟨(by first | exact loc_getN rfl rfl | exact updx_get hlt | exact upd2_g hgh hlt | exact upd2_h hlt2), trivial⟩, trivial, trivial, ⟨(by first | exact loc_getN rfl rfl | exact updx_get hlt | exact upd2_g hgh hlt | exact upd2_h hlt2), (by first | exact loc_getN rfl rfl | exact updx_get hlt | exact upd2_g hgh hlt | exact upd2_h hlt2), trivial⟩, trivial, trivial, trivial, trivial, trivial⟩, ?_⟩
    refine aw_keep [(1, _), (4, _)] ⟨lg (ls rfl (ls rfl (ls rfl (ls rfl (ls rfl (ls rfl (ls rfl (ls rfl (ls rfl oz))))))))), lg lz, trivial⟩ ?_
    refine aw_seq ?_
    refine aw_seq ?_
    refine aw_region (by decide) ?_
    refine rts _ rfl (opD_assign (ev_const _ _)) ?_
    refine .nil ?_
    refine aw_keep [(1, _), (4, _), (5, _)] ⟨lg (ls rfl oz), lg (ls rfl (os rfl oz)), lg lz, trivial⟩ ?_
    replace h0 := bnd_some h0
    obtain ⟨z_4, hz_4, h0⟩ := h0
    refine aw_mid (fun e st => ∃ v : (List Int), Holds e [(4, sl (kI .u8) (some (s.fr.length + 0)) none v)] ∧ st = s.ext [⟨70, [pl (.int .u64 p0.Dropped), sl kLin none none p0.L]⟩] [⟨5, 1, v.length⟩] ∧ v = z_4) ?_ ?_
    · skip
      refine aw_wkN rfl 1 1 rfl rfl ?_
      refine aw_block ?_
      refine aw_loop (fun n e st => ∃ v : (List Int) × Int, Holds e [(1, ptr (s.boxes.length + 0) 0), (4, sl (kI .u8) (some (s.fr.length + 0)) none v.1), (5, pl (.int .i64 v.2))] ∧ st = s.ext [⟨70, [pl (.int .u64 p0.Dropped), sl kLin none none p0.L]⟩] [⟨5, 1, v.1.length⟩] ∧ lp (F_lenc2_b0 p0) n v = some z_4) fl ⟨(x_3, 0), ⟨le_of_eq (eg oz), le_of_eq (eg (os rfl oz)), le_of_eq (eg (os rfl (os rfl oz))), trivial⟩, rfl, hz_4⟩ ?_
      rintro n e st ⟨t_5, hH, rfl, hz_4⟩
      replace hz_4 := lp_some hz_4
      obtain ⟨m_z_6, z_6, rfl, hz_6, hz_4⟩ := hz_4
      unfold F_lenc2_b0 at hz_6
      refine aw_keep _ hH ?_
      refine aw_wkN rfl 1 1 rfl rfl ?_
      refine aw_seq ?_
      refine aw_seq ?_
      refine aw_region (by decide) ?_
      refine rts _ rfl (opD_move (os rfl (os rfl oz))) ?_
      refine rts _ rfl (opD_fieldAddr fo70_1_u9b (ls rfl oz)) ?_
      refine rts _ rfl (opD_load_one ag54_u9b lz (loc_getN rfl rfl) rfl) ?_
      refine rts _ rfl (opD_len_sl Go.Proofs.Tryd.underlying54 lz) ?_
      refine rts _ rfl (opD_lss (ls rfl (ls rfl (ls rfl lz))) lz) ?_
      refine .nil ?_
      refine aw_keep [(1, _), (4, _), (5, _), (22, _)] ⟨lg (ls rfl (ls rfl (ls rfl (ls rfl (ls rfl oz))))), lg (ls rfl (ls rfl (ls rfl (ls rfl (ls rfl (os rfl oz)))))), lg (ls rfl (ls rfl (ls rfl (ls rfl (ls rfl (os rfl (os rfl oz))))))), lg lz, trivial⟩ ?_
      refine aw_cond _ (os rfl (os rfl (os rfl oz))) (fun hc => ?_) (fun hc => ?_)
      · skip
        replace hz_6 := ifb_t hz_6 hc
        clear hc
        refine aw_skip ?_
        refine aw_keep [(1, _), (4, _), (5, _)] ⟨lg oz, lg (os rfl oz), lg (os rfl (os rfl oz)), trivial⟩ ?_
        refine aw_seq ?_
        refine aw_block ?_
        refine aw_seq ?_
        refine aw_region (by decide) ?_
        refine rts _ rfl (opD_fieldAddr fo70_1_u9b oz) ?_
        refine rts _ rfl (opD_load_one ag54_u9b lz (loc_getN rfl rfl) rfl) ?_
        refine rts _ rfl (opD_move (ls rfl (ls rfl (os rfl (os rfl oz))))) ?_
        replace hz_6 := ixb_some hz_6
        obtain ⟨x_7, hx_7, hbx_7, hz_6⟩ := hz_6
        refine rts _ rfl (opD_indexAddr_sl (i := t_5.2.toNat) Go.Proofs.Tryd.underlying54 sz60_u9b (ls rfl lz) lz hbx_7.2.2 hbx_7.2.1) ?_
        refine rts _ rfl (opD_load_el_aggX (qs := [_, _, _, _, _]) ag60_u9b sz60_u9b lz hx_7 (Nat.le_of_ble_eq_true rfl) rfl) ?_
        refine rts _ rfl (allocN rfl zt60_u9b (by first | exact List.length_nil | (simp only [List.length_cons, List.length_nil, Nat.zero_add, Nat.reduceAdd] <;> rfl)) (by simp only [na, nb, nc, nd, nf, ng, nh, ni, nj, nk] <;> rfl)) ?_
        refine rts _ rfl (storeAN rfl sz60_u9b lz (ls rfl lz) (ones_cons (one_pl rfl) (ones_cons (one_pl rfl) (ones_cons (one_pl rfl) (ones_cons (one_pl rfl) (ones_cons (one_pl rfl) ones_nil))))) rfl rfl (Nat.le_of_ble_eq_true rfl) (List.cons_ne_nil _ _) (bnd_cons (pl_bnd _ _ _) (bnd_cons (pl_bnd _ _ _) (bnd_cons (pl_bnd _ _ _) (bnd_cons (pl_bnd _ _ _) (bnd_cons (pl_bnd _ _ _) bnd_nil))))) (by simp only [na, nb, nc, nd, nf, ng, nh, ni, nj, nk] <;> rfl) (by simp only [na, nb, nc, nd, nf, ng, nh, ni, nj, nk] <;> rfl)) ?_
        refine .nil ?_
        refine aw_keep [(1, _), (4, _), (5, _), (6, _)] ⟨lg (lx (ls rfl (ls rfl (ls rfl (ls rfl (ls rfl (ls rfl oz))))))), lg (lx (ls rfl (ls rfl (ls rfl (ls rfl (ls rfl (ls rfl (os rfl oz)))))))), lg (lx (ls rfl (ls rfl (ls rfl (ls rfl (ls rfl (ls rfl (os rfl (os rfl oz))))))))), lg (lx lz), trivial⟩ ?_
        refine aw_seq ?_
        refine aw_drawn [false, false, false, true, false, false, false, true, false] [[0], [0], [0], [0, 1], [0, 1], [0, 1], [0, 1], [1, 2], [2]] mixed_u9b (by decide +kernel) ?_
        refine dtp _ rfl (fun s => opD_move (os rfl oz)) ?_
        refine dtp _ rfl (fun s => opD_fieldAddr fo60_1_u9b (ls rfl (os rfl (os rfl (os rfl oz))))) ?_
        refine dtlG1 ag22_u9b lz (loc_getN rfl rfl) rfl rfl ?_
        replace hz_6 := bnd_some hz_6
        obtain ⟨x_8, hx_8, hz_6⟩ := hz_6
        refine dta _ rfl (opD_adopt (j := 0) (kb_I _) (opD_own1 ht29_u9b (c_oRput hx_8) ⟨(le_of_eq (ls rfl (ls rfl lz))).trans (sl_any _ _ _ _), le_of_eq lz, trivial⟩ (by first | exact List.length_nil | (simp only [List.length_cons, List.length_nil, Nat.zero_add, Nat.reduceAdd] <;> rfl)) rfl) (by first | exact List.length_nil | (simp only [List.length_cons, List.length_nil, Nat.zero_add, Nat.reduceAdd] <;> rfl)) rfl (len_oNum hx_8) (by simp only [na, nb, nc, nd, nf, ng, nh, ni, nj, nk] <;> rfl)) ?_
        refine dtp _ rfl (fun s => opD_fieldAddr fo60_2_u9b (ls rfl (ls rfl (ls rfl (ls rfl (os rfl (os rfl (os rfl oz)))))))) ?_
        refine dtlG1 ag5_u9b lz (loc_getN rfl rfl) rfl rfl ?_
        refine dtp _ rfl (fun s => opD_buildSlice (k := kI .u8) ([x_7.What] : (List Int)) Go.Proofs.Tryd.underlying23 sz5_u9b zt5_u9b (by decide) rfl (parts_cons (cells1 lz (one_pl rfl)) parts_nil) rfl rfl) ?_
        replace hz_6 := grd_some hz_6
        obtain ⟨hg_8, hz_6⟩ := hz_6
        refine dta _ rfl (opD_appendX Go.Proofs.Tryd.underlying23 el5_u9b (ls rfl (ls rfl (ls rfl lz))) lz rfl hg_8.1 hg_8.2 rfl (by simp only [na, nb, nc, nd, nf, ng, nh, ni, nj, nk] <;> rfl)) ?_
        refine dtp _ rfl (fun s => opD_assign lz) ?_
        refine .nil ?_
        dsimp only [List.nil_append, List.cons_append]
        refine ⟨rfl, ⟨trivial, trivial, ⟨(by first | exact loc_getN rfl rfl | exact updx_get hlt | exact upd2_g hgh hlt | exact upd2_h hlt2), trivial⟩, trivial, trivial, ⟨(by first | exact loc_getN rfl rfl | exact updx_get hlt | exact upd2_g hgh hlt | exact upd2_h hlt2), (by first | exact loc_getN rfl rfl | exact updx_get hlt | exact upd2_g hgh hlt | exact upd2_h hlt2), trivial⟩, trivial, trivial, trivial, trivial⟩, ?_⟩
        refine aw_keep [(1, _), (4, _), (5, _), (6, _)] ⟨lg (ls rfl (ls rfl (ls rfl (ls rfl (ls rfl (ls rfl (ls rfl (ls rfl (ls rfl oz))))))))), lg lz, lg (ls rfl (ls rfl (ls rfl (ls rfl (ls rfl (ls rfl (ls rfl (ls rfl (ls rfl (os rfl (os rfl oz))))))))))), lg (ls rfl (ls rfl (ls rfl (ls rfl (ls rfl (ls rfl (ls rfl (ls rfl (ls rfl (os rfl (os rfl (os rfl oz)))))))))))), trivial⟩ ?_
        refine aw_drawn [false, false, false, false, true, false, false, false, true, false] [[0], [0], [0], [0], [0, 1], [0, 1], [0, 1], [0, 1], [1, 2], [2]] mixed_u9b (by decide +kernel) ?_
        refine dtp _ rfl (fun s => opD_move (os rfl oz)) ?_
        refine dtp _ rfl (fun s => opD_fieldAddr fo60_3_u9b (ls rfl (os rfl (os rfl (os rfl oz))))) ?_
        refine dtlG1 ag58_u9b lz (loc_getN rfl rfl) rfl rfl ?_
        refine dtp _ rfl (fun s => opD_conv_int Go.Proofs.Tryd.underlying58 Go.Proofs.Tryd.underlying22 lz rfl) ?_
        replace hz_6 := bnd_some hz_6
        obtain ⟨x_9, hx_9, hz_6⟩ := hz_6
        refine dta _ rfl (opD_adopt (j := 0) (kb_I _) (opD_own1 ht29_u9b (c_oRput hx_9) ⟨(le_of_eq (ls rfl (ls rfl (ls rfl lz)))).trans (sl_any _ _ _ _), le_of_eq lz, trivial⟩ (by first | exact List.length_nil | (simp only [List.length_cons, List.length_nil, Nat.zero_add, Nat.reduceAdd] <;> rfl)) rfl) (by first | exact List.length_nil | (simp only [List.length_cons, List.length_nil, Nat.zero_add, Nat.reduceAdd] <;> rfl)) rfl (len_oNum hx_9) (by simp only [na, nb, nc, nd, nf, ng, nh, ni, nj, nk] <;> rfl)) ?_
        refine dtp _ rfl (fun s => opD_fieldAddr fo60_4_u9b (ls rfl (ls rfl (ls rfl (ls rfl (ls rfl (os rfl (os rfl (os rfl oz))))))))) ?_
        refine dtlG1 ag9_u9b lz (loc_getN rfl rfl) rfl rfl ?_
        refine dtp _ rfl (fun s => opD_str_bytes Go.Proofs.Tryd.underlying9 Go.Proofs.Tryd.underlying23 Go.Proofs.Tryd.underlying5 lz) ?_
        replace hz_6 := bnd_some hz_6
        obtain ⟨x_10, hx_10, hz_6⟩ := hz_6
        refine dta _ rfl (opD_adopt (j := 0) (kb_I _) (opD_own1 ht30_u9b (c_oRputs hx_10) ⟨(le_of_eq (ls rfl (ls rfl (ls rfl lz)))).trans (sl_any _ _ _ _), (le_of_eq lz).trans (sl_any _ _ _ _), trivial⟩ (by first | exact List.length_nil | (simp only [List.length_cons, List.length_nil, Nat.zero_add, Nat.reduceAdd] <;> rfl)) rfl) (by first | exact List.length_nil | (simp only [List.length_cons, List.length_nil, Nat.zero_add, Nat.reduceAdd] <;> rfl)) rfl (len_oBytes hx_10) (by simp only [na, nb, nc, nd, nf, ng, nh, ni, nj, nk] <;> rfl)) ?_
        refine dtp _ rfl (fun s => opD_assign lz) ?_
        refine .nil ?_
        dsimp only [List.nil_append, List.cons_append]
        refine ⟨rfl, ⟨trivial, trivial, ⟨(by first | exact loc_getN rfl rfl | exact updx_get hlt | exact upd2_g hgh hlt | exact upd2_h hlt2), trivial⟩, trivial, trivial, trivial, ⟨(by first | exact loc_getN rfl rfl | exact updx_get hlt | exact upd2_g hgh hlt | exact upd2_h hlt2), (by first | exact loc_getN rfl rfl | exact updx_get hlt | exact upd2_g hgh hlt | exact upd2_h hlt2), trivial⟩, trivial, trivial, trivial, trivial⟩, ?_⟩
        refine aw_keep [(1, _), (4, _), (5, _)] ⟨lg (ls rfl (ls rfl (ls rfl (ls rfl (ls rfl (ls rfl (ls rfl (ls rfl (ls rfl (ls rfl oz)))))))))), lg lz, lg (ls rfl (ls rfl (ls rfl (ls rfl (ls rfl (ls rfl (ls rfl (ls rfl (ls rfl (ls rfl (os rfl (os rfl oz)))))))))))), trivial⟩ ?_
        refine aw_region (by decide) ?_
        refine rts _ rfl (opD_move (os rfl (os rfl oz))) ?_
        refine rts _ rfl (opD_add lz (ev_const _ _) rfl) ?_
        refine rts _ rfl (opD_assign lz) ?_
        refine .nil ?_
        obtain rfl := some_of hz_6
        replace hz_4 := ocs_l hz_4
        refine wk_yesN rfl (l := [(1, ptr (s.boxes.length + 0) 0), (4, sl (kI .u8) (some (s.fr.length + 0)) none x_10), (5, pl (.int .i64 (IntKind.i64.wrap (t_5.2 + 1))))]) (bs' := [⟨70, [pl (.int .u64 p0.Dropped), sl kLin none none p0.L]⟩]) ⟨le_of_eq (eg (ls rfl (ls rfl (ls rfl oz)))), le_of_eq (eg (ls rfl (ls rfl (ls rfl (os rfl oz))))), le_of_eq (eg lz), trivial⟩ (bnd_cons (ptr_bnd _ (by first | omega | (simp only [List.length_append, List.length_cons, List.length_nil]; omega))) (bnd_cons (sl_ob (kb_I _) (by first | omega | (simp only [List.length_append, List.length_cons, List.length_nil, ext_fr_length, upd_fr_length]; omega))) (bnd_cons (pl_bnd _ _ _) bnd_nil))) (Nat.le_of_ble_eq_true rfl) (by simp only [na, nb, nc, nd, nf, ng, nh, ni, nj, nk] <;> rfl) (bxle_same bxle_nil) rfl (by simp only [na, nb, nc, nd, nf, ng, nh, ni, nj, nk] <;> rfl) (bl_cons (bnd_cons (pl_bnd _ _ _) (bnd_cons (sl_b kb_Lin) bnd_nil)) bl_nil) ?_
        exact ⟨m_z_6, Nat.lt_succ_self _, (x_10, IntKind.i64.wrap (t_5.2 + 1)), ⟨le_of_eq (eg oz), le_of_eq (eg (os rfl oz)), le_of_eq (eg (os rfl (os rfl oz))), trivial⟩, rfl, hz_4⟩
      · skip
        replace hz_6 := ifb_f hz_6 hc
        clear hc
        refine aw_exit ?_
        obtain rfl := some_of hz_6
        replace hz_4 := ocs_r hz_4
        refine wk_no ?_
        refine wk_yesN rfl (l := [(4, sl (kI .u8) (some (s.fr.length + 0)) none t_5.1)]) (bs' := [⟨70, [pl (.int .u64 p0.Dropped), sl kLin none none p0.L]⟩]) ⟨le_of_eq (eg (os rfl oz)), trivial⟩ (bnd_cons (sl_ob (kb_I _) (by first | omega | (simp only [List.length_append, List.length_cons, List.length_nil, ext_fr_length, upd_fr_length]; omega))) bnd_nil) (Nat.le_of_ble_eq_true rfl) (by simp only [na, nb, nc, nd, nf, ng, nh, ni, nj, nk] <;> rfl) (bxle_same bxle_nil) rfl (by simp only [na, nb, nc, nd, nf, ng, nh, ni, nj, nk] <;> rfl) (bl_cons (bnd_cons (pl_bnd _ _ _) (bnd_cons (sl_b kb_Lin) bnd_nil)) bl_nil) ?_
        exact ⟨t_5.1, ⟨le_of_eq (eg oz), trivial⟩, rfl, some_of hz_4⟩
    · rintro e st ⟨vz_4, hH, rfl, rfl⟩
      refine aw_keep _ hH ?_
      refine aw_keep [(4, _)] ⟨lg oz, trivial⟩ ?_
      refine aw_seq ?_
      refine aw_region (by decide) ?_
      refine rts _ rfl (opD_move oz) ?_
      refine rts _ rfl (opD_assign lz) ?_
      refine rts _ rfl (opD_assign (ev_const _ _)) ?_
      refine .nil ?_
      refine aw_keep [(2, _), (3, _)] ⟨lg (ls rfl lz), lg lz, trivial⟩ ?_
      refine aw_ret ?_
      obtain rfl := some_of h0
      exact done_ext (.inr rfl) ((res_list (rs := [_, _]) (ps := [_, _]) rfl rfl ⟨it_tmp oz, it_tmp (os rfl oz), trivial⟩).le (tup_le ⟨(sl_any _ _ _ _), (Pd.le_refl _), trivial⟩)) (tup_bnd (bnd_cons (sl_b (kb_I _)) (bnd_cons (pl_bnd _ _ _) bnd_nil)))

def F_ldec2_b0 (x_1 : (Rdr × Int)) (x_2 : (Rdr × Int)) (t_4 : Int × Rdr × (List Lin)) : Option ((Int × Rdr × (List Lin)) ⊕ ((Lgr × Int) ⊕ (Rdr × (List Lin)))) :=
  ifb ((decide (t_4.1 < x_2.2)) && (!t_4.2.1.wrong_)) (bnd (oDNum t_4.2.1 4611686018427387904) fun x_6 => bnd (oDByte x_6.1) fun x_7 => bnd (oDNum x_7.1 65535) fun x_8 => bnd (oDBytes x_8.1 40) fun x_9 => ifb x_9.1.wrong_ (some (.inr (.inl ((⟨0, []⟩ : Lgr), 3)))) (grd (Fits 40 (t_4.2.2.length + ([(⟨IntKind.u64.wrap ((IntKind.u64.wrap (x_1.2 + t_4.1)) + 1), x_6.2, x_7.2, IntKind.u16.wrap (x_8.2), (strOf x_9.2)⟩ : Lin)] : (List Lin)).length)) <| some (.inl (IntKind.u64.wrap (t_4.1 + 1), x_9.1, (t_4.2.2 ++ ([(⟨IntKind.u64.wrap ((IntKind.u64.wrap (x_1.2 + t_4.1)) + 1), x_6.2, x_7.2, IntKind.u16.wrap (x_8.2), (strOf x_9.2)⟩ : Lin)] : (List Lin))))))) (some (.inr (.inr (t_4.2.1, t_4.2.2))))
def F_ldec2 (fl : Nat) (p0 : (List Int)) : Option (Lgr × Int) :=
  bnd (oDNum (⟨p0, false⟩ : Rdr) 4611686018427387904) fun x_1 => bnd (oDNum x_1.1 32) fun x_2 => bnd (lp (F_ldec2_b0 x_1 x_2) fl (0, x_2.1, ([] : (List Lin)))) fun z_3 => ocs z_3 (fun qz_3_0 => some qz_3_0) fun z_3_0 => bnd (oDDone z_3_0.1) fun x_10 => bnd (gif ((!x_10) == false) (F_lmay2 fl (⟨x_1.2, z_3_0.2⟩ : Lgr))) fun x_11 => ifb ((!x_10) || (!x_11)) (some ((⟨0, []⟩ : Lgr), 3)) (some ((⟨x_1.2, z_3_0.2⟩ : Lgr), 0))
set_option maxRecDepth 100000 in
set_option maxHeartbeats 2000000 in
theorem c_ldec2 {fl : Nat} {p0 : (List Int)} {R : Lgr × Int} (h0 : F_ldec2 fl p0 = some R) : Pure Go.Proofs.Tryd.prog 45 [sl (kI .u8) none none p0] (tup [agg [pl (.int .u64 R.1.Dropped), sl kLin none none R.1.L], pl (.int .i64 R.2)]) := by
  intro s
  unfold F_ldec2 at h0
  refine ac_of_aw s.boxes.length s.fr.length Go.Proofs.Tryd.func45 rfl (by simp [Go.Proofs.Tryd.ntmps45]) ?_
  refine aw_ext0 ?_
  refine aw_keep [(0, _)] ⟨lg ez, trivial⟩ ?_
  refine aw_seq ?_
  refine aw_region (by decide) ?_
  refine rts _ rfl (allocN rfl zt70_u9b (by first | exact List.length_nil | (simp only [List.length_cons, List.length_nil, Nat.zero_add, Nat.reduceAdd] <;> rfl)) (by simp only [na, nb, nc, nd, nf, ng, nh, ni, nj, nk] <;> rfl)) ?_
  refine rts _ rfl (opD_assign (ev_const _ _)) ?_
  refine .nil ?_
  refine aw_keep [(0, _), (2, _)] ⟨lg (ls rfl (ls rfl oz)), lg (ls rfl lz), trivial⟩ ?_
  refine aw_seq ?_
  refine aw_region (by decide) ?_
  refine rts _ rfl (opD_move oz) ?_
  refine rts _ rfl (opD_build_struct (rs := [_, _]) Go.Proofs.Tryd.underlying41 pt41_u9b zt41_u9b (parts_cons (cells1 lz (one_sl _ _ _ _)) parts_nil) rfl) ?_
  replace h0 := bnd_some h0
  obtain ⟨x_1, hx_1, h0⟩ := h0
  refine rts _ rfl (opD_pure ht32_u9b (c_oDNum hx_1) ⟨(le_of_eq lz).trans (agg_le ⟨(Pd.le_refl _), (Pd.le_refl _), trivial⟩), le_of_eq (ev_const _ _), trivial⟩) ?_
  refine rts _ rfl (opD_move lz) ?_
  refine rts _ rfl (opD_extract lz rfl) ?_
  refine rts _ rfl (opD_extract (ls rfl lz) rfl) ?_
  refine rts _ rfl (allocN rfl zt41_u9b (by first | exact List.length_nil | (simp only [List.length_cons, List.length_nil, Nat.zero_add, Nat.reduceAdd] <;> rfl)) (by simp only [na, nb, nc, nd, nf, ng, nh, ni, nj, nk] <;> rfl)) ?_
  refine rts _ rfl (storeAN rfl sz41_u9b lz (ls rfl (ls rfl lz)) (ones_cons (one_sl _ _ _ _) (ones_cons (one_pl rfl) ones_nil)) rfl rfl (Nat.le_of_ble_eq_true rfl) (List.cons_ne_nil _ _) (bnd_cons (sl_b (kb_I _)) (bnd_cons (pl_bnd _ _ _) bnd_nil)) (by simp only [na, nb, nc, nd, nf, ng, nh, ni, nj, nk] <;> rfl) (by simp only [na, nb, nc, nd, nf, ng, nh, ni, nj, nk] <;> rfl)) ?_
  refine rts _ rfl (opD_assign (lx (ls rfl lz))) ?_
  refine .nil ?_
  refine aw_keep [(2, _), (4, _), (5, _)] ⟨lg (ls rfl (lx (ls rfl (ls rfl (ls rfl (ls rfl (ls rfl (ls rfl (ls rfl (os rfl oz)))))))))), lg (ls rfl (lx lz)), lg lz, trivial⟩ ?_
  refine aw_seq ?_
  refine aw_region (by decide) ?_
  refine rts _ rfl (opD_load_aggX (qs := [_, _]) ag41_u9b sz41_u9b (os rfl oz) (loc_getN rfl rfl) (Nat.le_of_ble_eq_true rfl) rfl) ?_
  replace h0 := bnd_some h0
  obtain ⟨x_2, hx_2, h0⟩ := h0
  refine rts _ rfl (opD_pure ht32_u9b (c_oDNum hx_2) ⟨(le_of_eq lz).trans (agg_le ⟨(Pd.le_refl _), (Pd.le_refl _), trivial⟩), le_of_eq (ev_const _ _), trivial⟩) ?_
  refine rts _ rfl (opD_move lz) ?_
  refine rts _ rfl (opD_extract lz rfl) ?_
  refine rts _ rfl (opD_extract (ls rfl lz) rfl) ?_
  refine rts _ rfl (storeAN rfl sz41_u9b (ls rfl (ls rfl (ls rfl (ls rfl (ls rfl (os rfl oz)))))) (ls rfl lz) (ones_cons (one_sl _ _ _ _) (ones_cons (one_pl rfl) ones_nil)) rfl rfl (Nat.le_of_ble_eq_true rfl) (List.cons_ne_nil _ _) (bnd_cons (sl_b (kb_I _)) (bnd_cons (pl_bnd _ _ _) bnd_nil)) (by simp only [na, nb, nc, nd, nf, ng, nh, ni, nj, nk] <;> rfl) (by simp only [na, nb, nc, nd, nf, ng, nh, ni, nj, nk] <;> rfl)) ?_
  refine rts _ rfl (opD_assign (lx lz)) ?_
  refine .nil ?_
  refine aw_keep [(2, _), (4, _), (5, _), (6, _)] ⟨lg (ls rfl (lx (ls rfl (ls rfl (ls rfl (ls rfl (ls rfl oz))))))), lg (ls rfl (lx (ls rfl (ls rfl (ls rfl (ls rfl (ls rfl (os rfl oz)))))))), lg (ls rfl (lx (ls rfl (ls rfl (ls rfl (ls rfl (ls rfl (os rfl (os rfl oz))))))))), lg lz, trivial⟩ ?_
  refine aw_seq ?_
  refine aw_region (by decide) ?_
  refine rts _ rfl (opD_move (os rfl (os rfl oz))) ?_
  refine rts _ rfl (opD_build_struct (rs := [_, _]) Go.Proofs.Tryd.underlying70 pt70_u9b zt70_u9b (parts_cons (cells1 lz (one_pl rfl)) parts_nil) rfl) ?_
  refine rts _ rfl (allocN rfl zt70_u9b (by first | exact List.length_nil | (simp only [List.length_cons, List.length_nil, Nat.zero_add, Nat.reduceAdd] <;> rfl)) (by simp only [na, nb, nc, nd, nf, ng, nh, ni, nj, nk] <;> rfl)) ?_
  refine rts _ rfl (storeAN rfl sz70_u9b lz (ls rfl lz) (ones_cons (one_pl rfl) (ones_cons (one_pl rfl) ones_nil)) rfl rfl (Nat.le_of_ble_eq_true rfl) (List.cons_ne_nil _ _) (bnd_cons (pl_bnd _ _ _) (bnd_cons (pl_bnd _ _ _) bnd_nil)) (by simp only [na, nb, nc, nd, nf, ng, nh, ni, nj, nk] <;> rfl) (by simp only [na, nb, nc, nd, nf, ng, nh, ni, nj, nk] <;> rfl)) ?_
  refine .nil ?_
  refine aw_keep [(2, _), (4, _), (5, _), (6, _), (7, _)] ⟨lg (lx (ls rfl (ls rfl (ls rfl oz)))), lg (lx (ls rfl (ls rfl (ls rfl (os rfl oz))))), lg (lx (ls rfl (ls rfl (ls rfl (os rfl (os rfl oz)))))), lg (lx (ls rfl (ls rfl (ls rfl (os rfl (os rfl (os rfl oz))))))), lg (lx lz), trivial⟩ ?_
  refine aw_seq ?_
  refine aw_seq ?_
  refine aw_region (by decide) ?_
  refine rts _ rfl (opD_assign (ev_const _ _)) ?_
  refine .nil ?_
  refine aw_keep [(2, _), (4, _), (5, _), (6, _), (7, _), (8, _)] ⟨lg (ls rfl oz), lg (ls rfl (os rfl oz)), lg (ls rfl (os rfl (os rfl oz))), lg (ls rfl (os rfl (os rfl (os rfl oz)))), lg (ls rfl (os rfl (os rfl (os rfl (os rfl oz))))), lg lz, trivial⟩ ?_
  replace h0 := bnd_some h0
  obtain ⟨z_3, hz_3, h0⟩ := h0
  refine aw_mid (fun e st => ∃ v : Rdr × (List Lin), Holds e [(2, ptr (s.boxes.length + 0) 0), (4, ptr (s.boxes.length + 1) 0), (7, ptr (s.boxes.length + 2) 0)] ∧ st = s.ext [⟨70, [pl (.int .u64 0), pl (.slice none 0 0)]⟩, ⟨41, [sl (kI .u8) none none v.1.b_, pl (.bool v.1.wrong_)]⟩, ⟨70, [pl (.int .u64 x_1.2), sl kLin none none v.2]⟩] [] ∧ (.inr v) = z_3) ?_ ?_
  · skip
    refine aw_wkN rfl 3 0 rfl rfl ?_
    refine aw_block ?_
    refine aw_fr ⟨60, 5, 0⟩ ?_
    refine aw_wkBN rfl (bs' := [⟨70, [pl (.int .u64 0), pl (.slice none 0 0)]⟩, ⟨41, [sl (kI .u8) none none x_2.1.b_, pl (.bool x_2.1.wrong_)]⟩, ⟨70, [pl (.int .u64 x_1.2), sl kLin (some (s.fr.length + 0)) none []]⟩]) (bxle_same (bxle_same (bxle_cons (B := ⟨70, [_, _]⟩) (@Eq.refl TypeId 70) (lel_cons (Pd.le_refl _) (lel_cons (nil_own rfl) lel_nil)) bxle_nil))) (bl_cons (bnd_cons (pl_bnd _ _ _) (bnd_cons (pl_bnd _ _ _) bnd_nil)) (bl_cons (bnd_cons (sl_b (kb_I _)) (bnd_cons (pl_bnd _ _ _) bnd_nil)) (bl_cons (bnd_cons (pl_bnd _ _ _) (bnd_cons (sl_ob kb_Lin (by first | omega | (simp only [List.length_append, List.length_cons, List.length_nil, ext_fr_length, upd_fr_length]; omega))) bnd_nil)) bl_nil))) ?_
    refine aw_loop (fun n e st => ∃ v : Int × Rdr × (List Lin), Holds e [(2, ptr (s.boxes.length + 0) 0), (4, ptr (s.boxes.length + 1) 0), (5, pl (.int .u64 x_1.2)), (6, pl (.int .u64 x_2.2)), (7, ptr (s.boxes.length + 2) 0), (8, pl (.int .u64 v.1))] ∧ st = s.ext [⟨70, [pl (.int .u64 0), pl (.slice none 0 0)]⟩, ⟨41, [sl (kI .u8) none none v.2.1.b_, pl (.bool v.2.1.wrong_)]⟩, ⟨70, [pl (.int .u64 x_1.2), sl kLin (some (s.fr.length + 0)) none v.2.2]⟩] [⟨60, 5, v.2.2.length⟩] ∧ lp (F_ldec2_b0 x_1 x_2) n v = some z_3) fl ⟨(0, x_2.1, ([] : (List Lin))), ⟨le_of_eq (eg oz), le_of_eq (eg (os rfl oz)), le_of_eq (eg (os rfl (os rfl oz))), le_of_eq (eg (os rfl (os rfl (os rfl oz)))), le_of_eq (eg (os rfl (os rfl (os rfl (os rfl oz))))), le_of_eq (eg (os rfl (os rfl (os rfl (os rfl (os rfl oz)))))), trivial⟩, rfl, hz_3⟩ ?_
    rintro n e st ⟨t_4, hH, rfl, hz_3⟩
    replace hz_3 := lp_some hz_3
    obtain ⟨m_z_5, z_5, rfl, hz_5, hz_3⟩ := hz_3
    unfold F_ldec2_b0 at hz_5
    refine aw_keep _ hH ?_
    refine aw_wkN rfl 3 1 rfl rfl ?_
    refine aw_seq ?_
    refine aw_seq ?_
    refine aw_region (by decide) ?_
    refine rts _ rfl (opD_move (os rfl (os rfl (os rfl (os rfl (os rfl oz)))))) ?_
    refine rts _ rfl (opD_move (ls rfl (os rfl (os rfl (os rfl oz))))) ?_
    refine rts _ rfl (opD_lss (ls rfl lz) lz) ?_
    refine rts _ rfl (opD_move lz) ?_
    refine rtg _ rfl lz (fun hg5_4_21 => opD_fieldAddr fo41_1_u9b (ls rfl (ls rfl (ls rfl (ls rfl (os rfl oz)))))) ?_
    refine rtg _ rfl (ls rfl lz) (fun hg5_5_22 => opD_load_one ag4_u9b (lz.trans (pif_pos hg5_5_22)) (loc_getN rfl rfl) rfl) ?_
    refine rtg _ rfl (ls rfl (ls rfl lz)) (fun hg5_6_23 => opD_not (lz.trans (pif_pos hg5_6_23))) ?_
    refine rts _ rfl (opD_and (ls rfl (ls rfl (ls rfl lz))) lz) ?_
    refine .nil ?_
    refine aw_keep [(2, _), (4, _), (5, _), (6, _), (7, _), (8, _), (34, _)] ⟨lg (ls rfl (ls rfl (ls rfl (ls rfl (ls rfl (ls rfl (ls rfl (ls rfl oz)))))))), lg (ls rfl (ls rfl (ls rfl (ls rfl (ls rfl (ls rfl (ls rfl (ls rfl (os rfl oz))))))))), lg (ls rfl (ls rfl (ls rfl (ls rfl (ls rfl (ls rfl (ls rfl (ls rfl (os rfl (os rfl oz)))))))))), lg (ls rfl (ls rfl (ls rfl (ls rfl (ls rfl (ls rfl (ls rfl (ls rfl (os rfl (os rfl (os rfl oz))))))))))), lg (ls rfl (ls rfl (ls rfl (ls rfl (ls rfl (ls rfl (ls rfl (ls rfl (os rfl (os rfl (os rfl (os rfl oz)))))))))))), lg (ls rfl (ls rfl (ls rfl (ls rfl (ls rfl (ls rfl (ls rfl (ls rfl (os rfl (os rfl (os rfl (os rfl (os rfl oz))))))))))))), lg lz, trivial⟩ ?_
    refine aw_cond _ (os rfl (os rfl (os rfl (os rfl (os rfl (os rfl oz)))))) (fun hc => ?_) (fun hc => ?_)
    · skip
      replace hz_5 := ifb_t hz_5 hc
      clear hc
      refine aw_skip ?_
      refine aw_keep [(2, _), (4, _), (5, _), (6, _), (7, _), (8, _)] ⟨lg oz, lg (os rfl oz), lg (os rfl (os rfl oz)), lg (os rfl (os rfl (os rfl oz))), lg (os rfl (os rfl (os rfl (os rfl oz)))), lg (os rfl (os rfl (os rfl (os rfl (os rfl oz))))), trivial⟩ ?_
      refine aw_seq ?_
      refine aw_block ?_
      refine aw_seq ?_
      refine aw_region (by decide) ?_
      refine rts _ rfl (opD_load_aggX (qs := [_, _]) ag41_u9b sz41_u9b (os rfl oz) (loc_getN rfl rfl) (Nat.le_of_ble_eq_true rfl) rfl) ?_
      replace hz_5 := bnd_some hz_5
      obtain ⟨x_6, hx_6, hz_5⟩ := hz_5
      refine rts _ rfl (opD_pure ht32_u9b (c_oDNum hx_6) ⟨(le_of_eq lz).trans (agg_le ⟨(Pd.le_refl _), (Pd.le_refl _), trivial⟩), le_of_eq (ev_const _ _), trivial⟩) ?_
      refine rts _ rfl (opD_move lz) ?_
      refine rts _ rfl (opD_extract lz rfl) ?_
      refine rts _ rfl (opD_extract (ls rfl lz) rfl) ?_
      refine rts _ rfl (allocN rfl zt41_u9b (by first | exact List.length_nil | (simp only [List.length_cons, List.length_nil, Nat.zero_add, Nat.reduceAdd] <;> rfl)) (by simp only [na, nb, nc, nd, nf, ng, nh, ni, nj, nk] <;> rfl)) ?_
      refine rts _ rfl (storeAN rfl sz41_u9b lz (ls rfl (ls rfl lz)) (ones_cons (one_sl _ _ _ _) (ones_cons (one_pl rfl) ones_nil)) rfl rfl (Nat.le_of_ble_eq_true rfl) (List.cons_ne_nil _ _) (bnd_cons (sl_b (kb_I _)) (bnd_cons (pl_bnd _ _ _) bnd_nil)) (by simp only [na, nb, nc, nd, nf, ng, nh, ni, nj, nk] <;> rfl) (by simp only [na, nb, nc, nd, nf, ng, nh, ni, nj, nk] <;> rfl)) ?_
      refine rts _ rfl (opD_assign (lx (ls rfl lz))) ?_
      refine .nil ?_
      refine aw_keep [(2, _), (4, _), (5, _), (6, _), (7, _), (8, _), (9, _), (10, _)] ⟨lg (ls rfl (lx (ls rfl (ls rfl (ls rfl (ls rfl (ls rfl (ls rfl oz)))))))), lg (ls rfl (lx (ls rfl (ls rfl (ls rfl (ls rfl (ls rfl (ls rfl (os rfl oz))))))))), lg (ls rfl (lx (ls rfl (ls rfl (ls rfl (ls rfl (ls rfl (ls rfl (os rfl (os rfl oz)))))))))), lg (ls rfl (lx (ls rfl (ls rfl (ls rfl (ls rfl (ls rfl (ls rfl (os rfl (os rfl (os rfl oz))))))))))), lg (ls rfl (lx (ls rfl (ls rfl (ls rfl (ls rfl (ls rfl (ls rfl (os rfl (os rfl (os rfl (os rfl oz)))))))))))), lg (ls rfl (lx (ls rfl (ls rfl (ls rfl (ls rfl (ls rfl (ls rfl (os rfl (os rfl (os rfl (os rfl (os rfl oz))))))))))))), lg (ls rfl (lx lz)), lg lz, trivial⟩ ?_
      refine aw_seq ?_
      refine aw_region (by decide) ?_
      refine rts _ rfl (opD_load_aggX (qs := [_, _]) ag41_u9b sz41_u9b (os rfl (os rfl (os rfl (os rfl (os rfl (os rfl oz)))))) (loc_getN rfl rfl) (Nat.le_of_ble_eq_true rfl) rfl) ?_
      replace hz_5 := bnd_some hz_5
      obtain ⟨x_7, hx_7, hz_5⟩ := hz_5
      refine rts _ rfl (opD_pure ht31_u9b (c_oDByte hx_7) ⟨(le_of_eq lz).trans (agg_le ⟨(Pd.le_refl _), (Pd.le_refl _), trivial⟩), trivial⟩) ?_
      refine rts _ rfl (opD_move lz) ?_
      refine rts _ rfl (opD_extract lz rfl) ?_
      refine rts _ rfl (opD_extract (ls rfl lz) rfl) ?_
      refine rts _ rfl (storeAN rfl sz41_u9b (ls rfl (ls rfl (ls rfl (ls rfl (ls rfl (os rfl (os rfl (os rfl (os rfl (os rfl (os rfl oz))))))))))) (ls rfl lz) (ones_cons (one_sl _ _ _ _) (ones_cons (one_pl rfl) ones_nil)) rfl rfl (Nat.le_of_ble_eq_true rfl) (List.cons_ne_nil _ _) (bnd_cons (sl_b (kb_I _)) (bnd_cons (pl_bnd _ _ _) bnd_nil)) (by simp only [na, nb, nc, nd, nf, ng, nh, ni, nj, nk] <;> rfl) (by simp only [na, nb, nc, nd, nf, ng, nh, ni, nj, nk] <;> rfl)) ?_
      refine rts _ rfl (opD_assign (lx lz)) ?_
      refine .nil ?_
      refine aw_keep [(2, _), (4, _), (5, _), (6, _), (7, _), (8, _), (9, _), (10, _), (11, _)] ⟨lg (ls rfl (lx (ls rfl (ls rfl (ls rfl (ls rfl (ls rfl oz))))))), lg (ls rfl (lx (ls rfl (ls rfl (ls rfl (ls rfl (ls rfl (os rfl oz)))))))), lg (ls rfl (lx (ls rfl (ls rfl (ls rfl (ls rfl (ls rfl (os rfl (os rfl oz))))))))), lg (ls rfl (lx (ls rfl (ls rfl (ls rfl (ls rfl (ls rfl (os rfl (os rfl (os rfl oz)))))))))), lg (ls rfl (lx (ls rfl (ls rfl (ls rfl (ls rfl (ls rfl (os rfl (os rfl (os rfl (os rfl oz))))))))))), lg (ls rfl (lx (ls rfl (ls rfl (ls rfl (ls rfl (ls rfl (os rfl (os rfl (os rfl (os rfl (os rfl oz)))))))))))), lg (ls rfl (lx (ls rfl (ls rfl (ls rfl (ls rfl (ls rfl (os rfl (os rfl (os rfl (os rfl (os rfl (os rfl oz))))))))))))), lg (ls rfl (lx (ls rfl (ls rfl (ls rfl (ls rfl (ls rfl (os rfl (os rfl (os rfl (os rfl (os rfl (os rfl (os rfl oz)))))))))))))), lg lz, trivial⟩ ?_
      refine aw_seq ?_
      refine aw_region (by decide) ?_
      refine rts _ rfl (opD_load_aggX (qs := [_, _]) ag41_u9b sz41_u9b (os rfl (os rfl (os rfl (os rfl (os rfl (os rfl oz)))))) (loc_getN rfl rfl) (Nat.le_of_ble_eq_true rfl) rfl) ?_
      replace hz_5 := bnd_some hz_5
      obtain ⟨x_8, hx_8, hz_5⟩ := hz_5
      refine rts _ rfl (opD_pure ht32_u9b (c_oDNum hx_8) ⟨(le_of_eq lz).trans (agg_le ⟨(Pd.le_refl _), (Pd.le_refl _), trivial⟩), le_of_eq (ev_const _ _), trivial⟩) ?_
      refine rts _ rfl (opD_move lz) ?_
      refine rts _ rfl (opD_extract lz rfl) ?_
      refine rts _ rfl (opD_extract (ls rfl lz) rfl) ?_
      refine rts _ rfl (storeAN rfl sz41_u9b (ls rfl (ls rfl (ls rfl (ls rfl (ls rfl (os rfl (os rfl (os rfl (os rfl (os rfl (os rfl oz))))))))))) (ls rfl lz) (ones_cons (one_sl _ _ _ _) (ones_cons (one_pl rfl) ones_nil)) rfl rfl (Nat.le_of_ble_eq_true rfl) (List.cons_ne_nil _ _) (bnd_cons (sl_b (kb_I _)) (bnd_cons (pl_bnd _ _ _) bnd_nil)) (by simp only [na, nb, nc, nd, nf, ng, nh, ni, nj, nk] <;> rfl) (by simp only [na, nb, nc, nd, nf, ng, nh, ni, nj, nk] <;> rfl)) ?_
      refine rts _ rfl (opD_assign (lx lz)) ?_
      refine .nil ?_
      refine aw_keep [(2, _), (4, _), (5, _), (6, _), (7, _), (8, _), (9, _), (10, _), (11, _), (12, _)] ⟨lg (ls rfl (lx (ls rfl (ls rfl (ls rfl (ls rfl (ls rfl oz))))))), lg (ls rfl (lx (ls rfl (ls rfl (ls rfl (ls rfl (ls rfl (os rfl oz)))))))), lg (ls rfl (lx (ls rfl (ls rfl (ls rfl (ls rfl (ls rfl (os rfl (os rfl oz))))))))), lg (ls rfl (lx (ls rfl (ls rfl (ls rfl (ls rfl (ls rfl (os rfl (os rfl (os rfl oz)))))))))), lg (ls rfl (lx (ls rfl (ls rfl (ls rfl (ls rfl (ls rfl (os rfl (os rfl (os rfl (os rfl oz))))))))))), lg (ls rfl (lx (ls rfl (ls rfl (ls rfl (ls rfl (ls rfl (os rfl (os rfl (os rfl (os rfl (os rfl oz)))))))))))), lg (ls rfl (lx (ls rfl (ls rfl (ls rfl (ls rfl (ls rfl (os rfl (os rfl (os rfl (os rfl (os rfl (os rfl oz))))))))))))), lg (ls rfl (lx (ls rfl (ls rfl (ls rfl (ls rfl (ls rfl (os rfl (os rfl (os rfl (os rfl (os rfl (os rfl (os rfl oz)))))))))))))), lg (ls rfl (lx (ls rfl (ls rfl (ls rfl (ls rfl (ls rfl (os rfl (os rfl (os rfl (os rfl (os rfl (os rfl (os rfl (os rfl oz))))))))))))))), lg lz, trivial⟩ ?_
      refine aw_seq ?_
      refine aw_region (by decide) ?_
      refine rts _ rfl (opD_load_aggX (qs := [_, _]) ag41_u9b sz41_u9b (os rfl (os rfl (os rfl (os rfl (os rfl (os rfl oz)))))) (loc_getN rfl rfl) (Nat.le_of_ble_eq_true rfl) rfl) ?_
      replace hz_5 := bnd_some hz_5
      obtain ⟨x_9, hx_9, hz_5⟩ := hz_5
      refine rts _ rfl (opD_pure ht33_u9b (c_oDBytes hx_9) ⟨(le_of_eq lz).trans (agg_le ⟨(Pd.le_refl _), (Pd.le_refl _), trivial⟩), le_of_eq (ev_const _ _), trivial⟩) ?_
      refine rts _ rfl (opD_move lz) ?_
      refine rts _ rfl (opD_extract lz rfl) ?_
      refine rts _ rfl (opD_extract (ls rfl lz) rfl) ?_
      refine rts _ rfl (storeAN rfl sz41_u9b (ls rfl (ls rfl (ls rfl (ls rfl (ls rfl (os rfl (os rfl (os rfl (os rfl (os rfl (os rfl oz))))))))))) (ls rfl lz) (ones_cons (one_sl _ _ _ _) (ones_cons (one_pl rfl) ones_nil)) rfl rfl (Nat.le_of_ble_eq_true rfl) (List.cons_ne_nil _ _) (bnd_cons (sl_b (kb_I _)) (bnd_cons (pl_bnd _ _ _) bnd_nil)) (by simp only [na, nb, nc, nd, nf, ng, nh, ni, nj, nk] <;> rfl) (by simp only [na, nb, nc, nd, nf, ng, nh, ni, nj, nk] <;> rfl)) ?_
      refine rts _ rfl (opD_assign (lx lz)) ?_
      refine .nil ?_
      refine aw_keep [(2, _), (4, _), (5, _), (6, _), (7, _), (8, _), (9, _), (10, _), (11, _), (12, _), (13, _)] ⟨lg (ls rfl (lx (ls rfl (ls rfl (ls rfl (ls rfl (ls rfl oz))))))), lg (ls rfl (lx (ls rfl (ls rfl (ls rfl (ls rfl (ls rfl (os rfl oz)))))))), lg (ls rfl (lx (ls rfl (ls rfl (ls rfl (ls rfl (ls rfl (os rfl (os rfl oz))))))))), lg (ls rfl (lx (ls rfl (ls rfl (ls rfl (ls rfl (ls rfl (os rfl (os rfl (os rfl oz)))))))))), lg (ls rfl (lx (ls rfl (ls rfl (ls rfl (ls rfl (ls rfl (os rfl (os rfl (os rfl (os rfl oz))))))))))), lg (ls rfl (lx (ls rfl (ls rfl (ls rfl (ls rfl (ls rfl (os rfl (os rfl (os rfl (os rfl (os rfl oz)))))))))))), lg (ls rfl (lx (ls rfl (ls rfl (ls rfl (ls rfl (ls rfl (os rfl (os rfl (os rfl (os rfl (os rfl (os rfl oz))))))))))))), lg (ls rfl (lx (ls rfl (ls rfl (ls rfl (ls rfl (ls rfl (os rfl (os rfl (os rfl (os rfl (os rfl (os rfl (os rfl oz)))))))))))))), lg (ls rfl (lx (ls rfl (ls rfl (ls rfl (ls rfl (ls rfl (os rfl (os rfl (os rfl (os rfl (os rfl (os rfl (os rfl (os rfl oz))))))))))))))), lg (ls rfl (lx (ls rfl (ls rfl (ls rfl (ls rfl (ls rfl (os rfl (os rfl (os rfl (os rfl (os rfl (os rfl (os rfl (os rfl (os rfl oz)))))))))))))))), lg lz, trivial⟩ ?_
      refine aw_seq ?_
      refine aw_seq ?_
      refine aw_region (by decide) ?_
      refine rts _ rfl (opD_fieldAddr fo41_1_u9b (os rfl (os rfl (os rfl (os rfl (os rfl (os rfl oz))))))) ?_
      refine rts _ rfl (opD_load_one ag4_u9b lz (loc_getN rfl rfl) rfl) ?_
      refine .nil ?_
      refine aw_keep [(2, _), (4, _), (5, _), (6, _), (7, _), (8, _), (9, _), (10, _), (11, _), (12, _), (13, _), (58, _)] ⟨lg (ls rfl (ls rfl oz)), lg (ls rfl (ls rfl (os rfl oz))), lg (ls rfl (ls rfl (os rfl (os rfl oz)))), lg (ls rfl (ls rfl (os rfl (os rfl (os rfl oz))))), lg (ls rfl (ls rfl (os rfl (os rfl (os rfl (os rfl oz)))))), lg (ls rfl (ls rfl (os rfl (os rfl (os rfl (os rfl (os rfl oz))))))), lg (ls rfl (ls rfl (os rfl (os rfl (os rfl (os rfl (os rfl (os rfl oz)))))))), lg (ls rfl (ls rfl (os rfl (os rfl (os rfl (os rfl (os rfl (os rfl (os rfl oz))))))))), lg (ls rfl (ls rfl (os rfl (os rfl (os rfl (os rfl (os rfl (os rfl (os rfl (os rfl oz)))))))))), lg (ls rfl (ls rfl (os rfl (os rfl (os rfl (os rfl (os rfl (os rfl (os rfl (os rfl (os rfl oz))))))))))), lg (ls rfl (ls rfl (os rfl (os rfl (os rfl (os rfl (os rfl (os rfl (os rfl (os rfl (os rfl (os rfl oz)))))))))))), lg lz, trivial⟩ ?_
      refine aw_cond _ (os rfl (os rfl (os rfl (os rfl (os rfl (os rfl (os rfl (os rfl (os rfl (os rfl (os rfl oz))))))))))) (fun hc => ?_) (fun hc => ?_)
      · skip
        replace hz_5 := ifb_t hz_5 hc
        clear hc
        refine aw_seq ?_
        refine aw_region (by decide) ?_
        refine rts _ rfl (opD_build_struct (rs := [_, _]) Go.Proofs.Tryd.underlying70 pt70_u9b zt70_u9b parts_nil rfl) ?_
        refine rts _ rfl (storeAN rfl sz70_u9b (ls rfl oz) lz (ones_cons (one_pl rfl) (ones_cons (one_pl rfl) ones_nil)) rfl rfl (Nat.le_of_ble_eq_true rfl) (List.cons_ne_nil _ _) (bnd_cons (pl_bnd _ _ _) (bnd_cons (pl_bnd _ _ _) bnd_nil)) (by simp only [na, nb, nc, nd, nf, ng, nh, ni, nj, nk] <;> rfl) (by simp only [na, nb, nc, nd, nf, ng, nh, ni, nj, nk] <;> rfl)) ?_
        refine rts _ rfl (opD_assign (ev_const _ _)) ?_
        refine .nil ?_
        refine aw_keep [(2, _), (3, _)] ⟨lg (ls rfl (lx (ls rfl oz))), lg lz, trivial⟩ ?_
        refine aw_ret ?_
        obtain rfl := some_of hz_5
        replace hz_3 := ocs_r hz_3
        obtain rfl := some_of hz_3
        replace h0 := ocs_l h0
        refine wk_no ?_
        refine wk_no ?_
        obtain rfl := some_of h0
        exact done_ext (.inr rfl) ((res_list (rs := [_, _]) (ps := [_, _]) rfl rfl ⟨it_cellA (B := ⟨70, [_, _]⟩) ag70_u9b sz70_u9b oz (loc_getN rfl rfl) rfl, it_tmp (os rfl oz), trivial⟩).le (tup_le ⟨(agg_le ⟨(Pd.le_refl _), (le_nil rfl), trivial⟩), (Pd.le_refl _), trivial⟩)) (tup_bnd (bnd_cons (agg_bnd (bnd_cons (pl_bnd _ _ _) (bnd_cons (sl_b kb_Lin) bnd_nil))) (bnd_cons (pl_bnd _ _ _) bnd_nil)))
      · skip
        replace hz_5 := ifb_f hz_5 hc
        clear hc
        refine aw_skip ?_
        refine aw_keep [(2, _), (4, _), (5, _), (6, _), (7, _), (8, _), (9, _), (10, _), (11, _), (12, _), (13, _)] ⟨lg oz, lg (os rfl oz), lg (os rfl (os rfl oz)), lg (os rfl (os rfl (os rfl oz))), lg (os rfl (os rfl (os rfl (os rfl oz)))), lg (os rfl (os rfl (os rfl (os rfl (os rfl oz))))), lg (os rfl (os rfl (os rfl (os rfl (os rfl (os rfl oz)))))), lg (os rfl (os rfl (os rfl (os rfl (os rfl (os rfl (os rfl oz))))))), lg (os rfl (os rfl (os rfl (os rfl (os rfl (os rfl (os rfl (os rfl oz)))))))), lg (os rfl (os rfl (os rfl (os rfl (os rfl (os rfl (os rfl (os rfl (os rfl oz))))))))), lg (os rfl (os rfl (os rfl (os rfl (os rfl (os rfl (os rfl (os rfl (os rfl (os rfl oz)))))))))), trivial⟩ ?_
        refine aw_seq ?_
        refine aw_region (by decide) ?_
        refine rts _ rfl (opD_load_aggX (qs := [_, _]) ag41_u9b sz41_u9b (os rfl (os rfl (os rfl (os rfl (os rfl (os rfl oz)))))) (loc_getN rfl rfl) (Nat.le_of_ble_eq_true rfl) rfl) ?_
        refine rts _ rfl (storeAN rfl sz41_u9b (ls rfl (os rfl oz)) lz (ones_cons (one_sl _ _ _ _) (ones_cons (one_pl rfl) ones_nil)) rfl rfl (Nat.le_of_ble_eq_true rfl) (List.cons_ne_nil _ _) (bnd_cons (sl_b (kb_I _)) (bnd_cons (pl_bnd _ _ _) bnd_nil)) (by simp only [na, nb, nc, nd, nf, ng, nh, ni, nj, nk] <;> rfl) (by simp only [na, nb, nc, nd, nf, ng, nh, ni, nj, nk] <;> rfl)) ?_
        refine .nil ?_
        refine aw_keep [(2, _), (4, _), (5, _), (6, _), (7, _), (8, _), (10, _), (11, _), (12, _), (13, _)] ⟨lg (lx (ls rfl oz)), lg (lx (ls rfl (os rfl oz))), lg (lx (ls rfl (os rfl (os rfl oz)))), lg (lx (ls rfl (os rfl (os rfl (os rfl oz))))), lg (lx (ls rfl (os rfl (os rfl (os rfl (os rfl oz)))))), lg (lx (ls rfl (os rfl (os rfl (os rfl (os rfl (os rfl oz))))))), lg (lx (ls rfl (os rfl (os rfl (os rfl (os rfl (os rfl (os rfl (os rfl oz))))))))), lg (lx (ls rfl (os rfl (os rfl (os rfl (os rfl (os rfl (os rfl (os rfl (os rfl oz)))))))))), lg (lx (ls rfl (os rfl (os rfl (os rfl (os rfl (os rfl (os rfl (os rfl (os rfl (os rfl oz))))))))))), lg (lx (ls rfl (os rfl (os rfl (os rfl (os rfl (os rfl (os rfl (os rfl (os rfl (os rfl (os rfl oz)))))))))))), trivial⟩ ?_
        refine aw_region (by decide) ?_
        refine rts _ rfl (opD_fieldAddr fo70_1_u9b (os rfl (os rfl (os rfl (os rfl oz))))) ?_
        refine rts _ rfl (opD_load_one ag54_u9b lz (loc_getN rfl rfl) rfl) ?_
        refine rts _ rfl (opD_move (ls rfl (ls rfl (os rfl (os rfl oz))))) ?_
        refine rts _ rfl (opD_move (ls rfl (ls rfl (ls rfl (os rfl (os rfl (os rfl (os rfl (os rfl oz))))))))) ?_
        refine rts _ rfl (opD_add (ls rfl lz) lz rfl) ?_
        refine rts _ rfl (opD_add lz (ev_const _ _) rfl) ?_
        refine rts _ rfl (opD_move (ls rfl (ls rfl (ls rfl (ls rfl (ls rfl (ls rfl (os rfl (os rfl (os rfl (os rfl (os rfl (os rfl oz))))))))))))) ?_
        refine rts _ rfl (opD_move (ls rfl (ls rfl (ls rfl (ls rfl (ls rfl (ls rfl (ls rfl (os rfl (os rfl (os rfl (os rfl (os rfl (os rfl (os rfl oz))))))))))))))) ?_
        refine rts _ rfl (opD_move (ls rfl (ls rfl (ls rfl (ls rfl (ls rfl (ls rfl (ls rfl (ls rfl (os rfl (os rfl (os rfl (os rfl (os rfl (os rfl (os rfl (os rfl oz))))))))))))))))) ?_
        refine rts _ rfl (opD_conv_int Go.Proofs.Tryd.underlying22 Go.Proofs.Tryd.underlying58 lz rfl) ?_
        refine rts _ rfl (opD_move (ls rfl (ls rfl (ls rfl (ls rfl (ls rfl (ls rfl (ls rfl (ls rfl (ls rfl (ls rfl (os rfl (os rfl (os rfl (os rfl (os rfl (os rfl (os rfl (os rfl (os rfl oz)))))))))))))))))))) ?_
        refine rts _ rfl (opD_bytes_str Go.Proofs.Tryd.underlying23 Go.Proofs.Tryd.underlying5 Go.Proofs.Tryd.underlying9 lz) ?_
        refine rts _ rfl (opD_build_struct (rs := [_, _, _, _, _]) Go.Proofs.Tryd.underlying60 pt60_u9b zt60_u9b (parts_cons (cells1 (ls rfl (ls rfl (ls rfl (ls rfl (ls rfl (ls rfl lz)))))) (one_pl rfl)) (parts_cons (cells1 (ls rfl (ls rfl (ls rfl (ls rfl (ls rfl lz))))) (one_pl rfl)) (parts_cons (cells1 (ls rfl (ls rfl (ls rfl (ls rfl lz)))) (one_pl rfl)) (parts_cons (cells1 (ls rfl (ls rfl lz)) (one_pl rfl)) (parts_cons (cells1 lz (one_pl rfl)) parts_nil))))) (fill_step rfl (by rfl) (by rfl) (by simp only [na, nb, nl, nc, nd, nh, ni, nj, nk, nm, Nat.reduceAdd] <;> rfl) (fill_step rfl (by rfl) (by rfl) (by simp only [na, nb, nl, nc, nd, nh, ni, nj, nk, nm, Nat.reduceAdd] <;> rfl) (fill_step rfl (by rfl) (by rfl) (by simp only [na, nb, nl, nc, nd, nh, ni, nj, nk, nm, Nat.reduceAdd] <;> rfl) (fill_step rfl (by rfl) (by rfl) (by simp only [na, nb, nl, nc, nd, nh, ni, nj, nk, nm, Nat.reduceAdd] <;> rfl) (fill_step rfl (by rfl) (by rfl) (by simp only [na, nb, nl, nc, nd, nh, ni, nj, nk, nm, Nat.reduceAdd] <;> rfl) fill_nil)))))) ?_
        refine rts _ rfl (opD_buildOwn (k := kLin) ([(⟨IntKind.u64.wrap ((IntKind.u64.wrap (x_1.2 + t_4.1)) + 1), x_6.2, x_7.2, IntKind.u16.wrap (x_8.2), (strOf x_9.2)⟩ : Lin)] : (List Lin)) Go.Proofs.Tryd.underlying54 sz60_u9b zt60_u9b (by decide) rfl (parts_cons (cellsA lz) parts_nil) rfl rfl (by first | exact List.length_nil | (simp only [List.length_cons, List.length_nil, Nat.zero_add, Nat.reduceAdd] <;> rfl)) (by simp only [na, nb, nc, nd, nf, ng, nh, ni, nj, nk] <;> rfl)) ?_
        replace hz_5 := grd_some hz_5
        obtain ⟨hg_24, hz_5⟩ := hz_5
        refine rts _ rfl (opD_appendX Go.Proofs.Tryd.underlying54 el60_u9b (ls rfl (ls rfl (ls rfl (ls rfl (ls rfl (ls rfl (ls rfl (ls rfl (ls rfl (ls rfl (ls rfl (ls rfl lz)))))))))))) lz rfl hg_24.1 hg_24.2 rfl (by simp only [na, nb, nc, nd, nf, ng, nh, ni, nj, nk] <;> rfl)) ?_
        refine rts _ rfl (opD_fieldAddr fo70_1_u9b (ls rfl (ls rfl (ls rfl (ls rfl (ls rfl (ls rfl (ls rfl (ls rfl (ls rfl (ls rfl (ls rfl (ls rfl (ls rfl (ls rfl (ls rfl (os rfl (os rfl (os rfl (os rfl oz)))))))))))))))))))) ?_
        refine rts _ rfl (storeON rfl sz54_u9b lz (le_of_eq (ls rfl lz)) (one_sl _ _ _ _) rfl (Nat.le_of_ble_eq_true rfl) (sl_ob kb_Lin (by first | omega | (simp only [List.length_append, List.length_cons, List.length_nil, ext_fr_length, upd_fr_length]; omega))) (by simp only [na, nb, nc, nd, nf, ng, nh, ni, nj, nk] <;> rfl) (by simp only [na, nb, nc, nd, nf, ng, nh, ni, nj, nk] <;> rfl)) ?_
        refine .nil ?_
        refine aw_keep [(2, _), (4, _), (5, _), (6, _), (7, _), (8, _)] ⟨lg (lx (ls rfl (ls rfl (ls rfl (ls rfl (ls rfl (ls rfl (ls rfl (ls rfl (ls rfl (ls rfl (ls rfl (ls rfl (ls rfl (ls rfl (ls rfl (ls rfl oz))))))))))))))))), lg (lx (ls rfl (ls rfl (ls rfl (ls rfl (ls rfl (ls rfl (ls rfl (ls rfl (ls rfl (ls rfl (ls rfl (ls rfl (ls rfl (ls rfl (ls rfl (ls rfl (os rfl oz)))))))))))))))))), lg (lx (ls rfl (ls rfl (ls rfl (ls rfl (ls rfl (ls rfl (ls rfl (ls rfl (ls rfl (ls rfl (ls rfl (ls rfl (ls rfl (ls rfl (ls rfl (ls rfl (os rfl (os rfl oz))))))))))))))))))), lg (lx (ls rfl (ls rfl (ls rfl (ls rfl (ls rfl (ls rfl (ls rfl (ls rfl (ls rfl (ls rfl (ls rfl (ls rfl (ls rfl (ls rfl (ls rfl (ls rfl (os rfl (os rfl (os rfl oz)))))))))))))))))))), lg (lx (ls rfl (ls rfl (ls rfl (ls rfl (ls rfl (ls rfl (ls rfl (ls rfl (ls rfl (ls rfl (ls rfl (ls rfl (ls rfl (ls rfl (ls rfl (ls rfl (os rfl (os rfl (os rfl (os rfl oz))))))))))))))))))))), lg (lx (ls rfl (ls rfl (ls rfl (ls rfl (ls rfl (ls rfl (ls rfl (ls rfl (ls rfl (ls rfl (ls rfl (ls rfl (ls rfl (ls rfl (ls rfl (ls rfl (os rfl (os rfl (os rfl (os rfl (os rfl oz)))))))))))))))))))))), trivial⟩ ?_
        refine aw_region (by decide) ?_
        refine rts _ rfl (opD_move (os rfl (os rfl (os rfl (os rfl (os rfl oz)))))) ?_
        refine rts _ rfl (opD_add lz (ev_const _ _) rfl) ?_
        refine rts _ rfl (opD_assign lz) ?_
        refine .nil ?_
        obtain rfl := some_of hz_5
        replace hz_3 := ocs_l hz_3
        refine wk_yesN rfl (l := [(2, ptr (s.boxes.length + 0) 0), (4, ptr (s.boxes.length + 1) 0), (5, pl (.int .u64 x_1.2)), (6, pl (.int .u64 x_2.2)), (7, ptr (s.boxes.length + 2) 0), (8, pl (.int .u64 (IntKind.u64.wrap (t_4.1 + 1))))]) (bs' := [⟨70, [pl (.int .u64 0), pl (.slice none 0 0)]⟩, ⟨41, [sl (kI .u8) none none x_9.1.b_, pl (.bool x_9.1.wrong_)]⟩, ⟨70, [pl (.int .u64 x_1.2), sl kLin (some (s.fr.length + 0)) none (t_4.2.2 ++ ([(⟨IntKind.u64.wrap ((IntKind.u64.wrap (x_1.2 + t_4.1)) + 1), x_6.2, x_7.2, IntKind.u16.wrap (x_8.2), (strOf x_9.2)⟩ : Lin)] : (List Lin)))]⟩]) ⟨le_of_eq (eg (ls rfl (ls rfl (ls rfl oz)))), le_of_eq (eg (ls rfl (ls rfl (ls rfl (os rfl oz))))), le_of_eq (eg (ls rfl (ls rfl (ls rfl (os rfl (os rfl oz)))))), le_of_eq (eg (ls rfl (ls rfl (ls rfl (os rfl (os rfl (os rfl oz))))))), le_of_eq (eg (ls rfl (ls rfl (ls rfl (os rfl (os rfl (os rfl (os rfl oz)))))))), le_of_eq (eg lz), trivial⟩ (bnd_cons (ptr_bnd _ (by first | omega | (simp only [List.length_append, List.length_cons, List.length_nil]; omega))) (bnd_cons (ptr_bnd _ (by first | omega | (simp only [List.length_append, List.length_cons, List.length_nil]; omega))) (bnd_cons (pl_bnd _ _ _) (bnd_cons (pl_bnd _ _ _) (bnd_cons (ptr_bnd _ (by first | omega | (simp only [List.length_append, List.length_cons, List.length_nil]; omega))) (bnd_cons (pl_bnd _ _ _) bnd_nil)))))) (Nat.le_of_ble_eq_true rfl) (by simp only [na, nb, nc, nd, nf, ng, nh, ni, nj, nk] <;> rfl) (bxle_same (bxle_same (bxle_same bxle_nil))) rfl (by simp only [na, nb, nc, nd, nf, ng, nh, ni, nj, nk] <;> rfl) (bl_cons (bnd_cons (pl_bnd _ _ _) (bnd_cons (pl_bnd _ _ _) bnd_nil)) (bl_cons (bnd_cons (sl_b (kb_I _)) (bnd_cons (pl_bnd _ _ _) bnd_nil)) (bl_cons (bnd_cons (pl_bnd _ _ _) (bnd_cons (sl_ob kb_Lin (by first | omega | (simp only [List.length_append, List.length_cons, List.length_nil, ext_fr_length, upd_fr_length]; omega))) bnd_nil)) bl_nil))) ?_
        exact ⟨m_z_5, Nat.lt_succ_self _, (IntKind.u64.wrap (t_4.1 + 1), x_9.1, (t_4.2.2 ++ ([(⟨IntKind.u64.wrap ((IntKind.u64.wrap (x_1.2 + t_4.1)) + 1), x_6.2, x_7.2, IntKind.u16.wrap (x_8.2), (strOf x_9.2)⟩ : Lin)] : (List Lin)))), ⟨le_of_eq (eg oz), le_of_eq (eg (os rfl oz)), le_of_eq (eg (os rfl (os rfl oz))), le_of_eq (eg (os rfl (os rfl (os rfl oz)))), le_of_eq (eg (os rfl (os rfl (os rfl (os rfl oz))))), le_of_eq (eg (os rfl (os rfl (os rfl (os rfl (os rfl oz)))))), trivial⟩, rfl, hz_3⟩
    · skip
      replace hz_5 := ifb_f hz_5 hc
      clear hc
      refine aw_exit ?_
      obtain rfl := some_of hz_5
      replace hz_3 := ocs_r hz_3
      refine wk_no ?_
      refine wk_yesN rfl (l := [(2, ptr (s.boxes.length + 0) 0), (4, ptr (s.boxes.length + 1) 0), (7, ptr (s.boxes.length + 2) 0)]) (bs' := [⟨70, [pl (.int .u64 0), pl (.slice none 0 0)]⟩, ⟨41, [sl (kI .u8) none none t_4.2.1.b_, pl (.bool t_4.2.1.wrong_)]⟩, ⟨70, [pl (.int .u64 x_1.2), sl kLin none none t_4.2.2]⟩]) ⟨le_of_eq (eg oz), le_of_eq (eg (os rfl oz)), le_of_eq (eg (os rfl (os rfl (os rfl (os rfl oz))))), trivial⟩ (bnd_cons (ptr_bnd _ (by first | omega | (simp only [List.length_append, List.length_cons, List.length_nil]; omega))) (bnd_cons (ptr_bnd _ (by first | omega | (simp only [List.length_append, List.length_cons, List.length_nil]; omega))) (bnd_cons (ptr_bnd _ (by first | omega | (simp only [List.length_append, List.length_cons, List.length_nil]; omega))) bnd_nil))) (Nat.le_of_ble_eq_true rfl) (by simp only [na, nb, nc, nd, nf, ng, nh, ni, nj, nk] <;> rfl) (bxle_same (bxle_same (bxle_cons (B := ⟨70, [_, _]⟩) (@Eq.refl TypeId 70) (lel_cons (Pd.le_refl _) (lel_cons (sl_le _ (some (s.fr.length + 0)) none _) lel_nil)) bxle_nil))) rfl (by simp only [na, nb, nc, nd, nf, ng, nh, ni, nj, nk] <;> rfl) (bl_cons (bnd_cons (pl_bnd _ _ _) (bnd_cons (pl_bnd _ _ _) bnd_nil)) (bl_cons (bnd_cons (sl_b (kb_I _)) (bnd_cons (pl_bnd _ _ _) bnd_nil)) (bl_cons (bnd_cons (pl_bnd _ _ _) (bnd_cons (sl_b kb_Lin) bnd_nil)) bl_nil))) ?_
      exact ⟨(t_4.2.1, t_4.2.2), ⟨le_of_eq (eg oz), le_of_eq (eg (os rfl oz)), le_of_eq (eg (os rfl (os rfl oz))), trivial⟩, rfl, some_of hz_3⟩
  · rintro e st ⟨vz_3, hH, rfl, rfl⟩
    refine aw_keep _ hH ?_
    replace h0 := ocs_r h0
    refine aw_keep [(2, _), (4, _), (7, _)] ⟨lg oz, lg (os rfl oz), lg (os rfl (os rfl oz)), trivial⟩ ?_
    refine aw_seq ?_
    refine aw_seq ?_
    refine aw_region (by decide) ?_
    refine rts _ rfl (opD_load_aggX (qs := [_, _]) ag41_u9b sz41_u9b (os rfl oz) (loc_getN rfl rfl) (Nat.le_of_ble_eq_true rfl) rfl) ?_
    replace h0 := bnd_some h0
    obtain ⟨x_10, hx_10, h0⟩ := h0
    refine rts _ rfl (opD_pure ht34_u9b (c_oDDone hx_10) ⟨(le_of_eq lz).trans (agg_le ⟨(Pd.le_refl _), (Pd.le_refl _), trivial⟩), trivial⟩) ?_
    refine rts _ rfl (opD_not lz) ?_
    refine rts _ rfl (opD_move lz) ?_
    refine rtg _ rfl lz (fun hg15_4_25 => opD_load_aggX (qs := [_, _]) ag70_u9b sz70_u9b (ls rfl (ls rfl (ls rfl (ls rfl (os rfl (os rfl oz)))))) (loc_getN rfl rfl) (Nat.le_of_ble_eq_true rfl) rfl) ?_
    replace h0 := bnd_some h0
    obtain ⟨x_11, hx_11, h0⟩ := h0
    refine rtg _ rfl (ls rfl lz) (fun hg15_5_26 => opD_pure ht48_u9b (c_lmay2 (gif_some hx_11 hg15_5_26)) ⟨(le_of_eq (lz.trans (pif_pos hg15_5_26))).trans (agg_le ⟨(Pd.le_refl _), (Pd.le_refl _), trivial⟩), trivial⟩) ?_
    refine rtg _ rfl (ls rfl (ls rfl lz)) (fun hg15_6_27 => opD_not (lz.trans (pif_pos hg15_6_27))) ?_
    refine rts _ rfl (opD_or (ls rfl (ls rfl (ls rfl lz))) lz) ?_
    refine .nil ?_
    refine aw_keep [(2, _), (7, _), (84, _)] ⟨lg (ls rfl (ls rfl (ls rfl (ls rfl (ls rfl (ls rfl (ls rfl (ls rfl oz)))))))), lg (ls rfl (ls rfl (ls rfl (ls rfl (ls rfl (ls rfl (ls rfl (ls rfl (os rfl (os rfl oz)))))))))), lg lz, trivial⟩ ?_
    refine aw_cond _ (os rfl (os rfl oz)) (fun hc => ?_) (fun hc => ?_)
    · skip
      replace h0 := ifb_t h0 hc
      clear hc
      refine aw_seq ?_
      refine aw_region (by decide) ?_
      refine rts _ rfl (opD_build_struct (rs := [_, _]) Go.Proofs.Tryd.underlying70 pt70_u9b zt70_u9b parts_nil rfl) ?_
      refine rts _ rfl (storeAN rfl sz70_u9b (ls rfl oz) lz (ones_cons (one_pl rfl) (ones_cons (one_pl rfl) ones_nil)) rfl rfl (Nat.le_of_ble_eq_true rfl) (List.cons_ne_nil _ _) (bnd_cons (pl_bnd _ _ _) (bnd_cons (pl_bnd _ _ _) bnd_nil)) (by simp only [na, nb, nc, nd, nf, ng, nh, ni, nj, nk] <;> rfl) (by simp only [na, nb, nc, nd, nf, ng, nh, ni, nj, nk] <;> rfl)) ?_
      refine rts _ rfl (opD_assign (ev_const _ _)) ?_
      refine .nil ?_
      refine aw_keep [(2, _), (3, _)] ⟨lg (ls rfl (lx (ls rfl oz))), lg lz, trivial⟩ ?_
      refine aw_ret ?_
      obtain rfl := some_of h0
      exact done_ext (.inr rfl) ((res_list (rs := [_, _]) (ps := [_, _]) rfl rfl ⟨it_cellA (B := ⟨70, [_, _]⟩) ag70_u9b sz70_u9b oz (loc_getN rfl rfl) rfl, it_tmp (os rfl oz), trivial⟩).le (tup_le ⟨(agg_le ⟨(Pd.le_refl _), (le_nil rfl), trivial⟩), (Pd.le_refl _), trivial⟩)) (tup_bnd (bnd_cons (agg_bnd (bnd_cons (pl_bnd _ _ _) (bnd_cons (sl_b kb_Lin) bnd_nil))) (bnd_cons (pl_bnd _ _ _) bnd_nil)))
    · skip
      replace h0 := ifb_f h0 hc
      clear hc
      refine aw_skip ?_
      refine aw_keep [(2, _), (7, _)] ⟨lg oz, lg (os rfl oz), trivial⟩ ?_
      refine aw_seq ?_
      refine aw_region (by decide) ?_
      refine rts _ rfl (opD_load_aggX (qs := [_, _]) ag70_u9b sz70_u9b (os rfl oz) (loc_getN rfl rfl) (Nat.le_of_ble_eq_true rfl) rfl) ?_
      refine rts _ rfl (storeAN rfl sz70_u9b (ls rfl oz) lz (ones_cons (one_pl rfl) (ones_cons (one_sl _ _ _ _) ones_nil)) rfl rfl (Nat.le_of_ble_eq_true rfl) (List.cons_ne_nil _ _) (bnd_cons (pl_bnd _ _ _) (bnd_cons (sl_b kb_Lin) bnd_nil)) (by simp only [na, nb, nc, nd, nf, ng, nh, ni, nj, nk] <;> rfl) (by simp only [na, nb, nc, nd, nf, ng, nh, ni, nj, nk] <;> rfl)) ?_
      refine rts _ rfl (opD_assign (ev_const _ _)) ?_
      refine .nil ?_
      refine aw_keep [(2, _), (3, _)] ⟨lg (ls rfl (lx (ls rfl oz))), lg lz, trivial⟩ ?_
      refine aw_ret ?_
      obtain rfl := some_of h0
      exact done_ext (.inr rfl) ((res_list (rs := [_, _]) (ps := [_, _]) rfl rfl ⟨it_cellA (B := ⟨70, [_, _]⟩) ag70_u9b sz70_u9b oz (loc_getN rfl rfl) rfl, it_tmp (os rfl oz), trivial⟩).le (tup_le ⟨(agg_le ⟨(Pd.le_refl _), (Pd.le_refl _), trivial⟩), (Pd.le_refl _), trivial⟩)) (tup_bnd (bnd_cons (agg_bnd (bnd_cons (pl_bnd _ _ _) (bnd_cons (sl_b kb_Lin) bnd_nil))) (bnd_cons (pl_bnd _ _ _) bnd_nil)))
end Go.Proofs.YtmnhfpcbfdgbcaaDoor.Eng.A
