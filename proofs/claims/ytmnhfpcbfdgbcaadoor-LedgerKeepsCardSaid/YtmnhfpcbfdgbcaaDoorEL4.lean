/- EL4: what functions do, walked; used by the laws of this seat. -/
import Derived.Test.YtmnhfpcbfdgbcaaDoorEL3
namespace Go.Proofs.YtmnhfpcbfdgbcaaDoor.Eng.A
set_option linter.unusedVariables false
set_option linter.unusedSimpArgs false
open Go.RowKit Go.Proofs.YtmnhfpcbfdgbcaaDoor.Plain Go.Proofs.YtmnhfpcbfdgbcaaDoor.Eng Go.Proofs.YtmnhfpcbfdgbcaaDoor.Eng.Pk Go.Proofs.YtmnhfpcbfdgbcaaDoor.Eng.Rd

theorem zt57_u9c : zeroT Go.Proofs.Tryd.prog 57 = some [.int .u64 0, .slice none 0 0] := by kernel_rfl
theorem fo70_0_u9c : fieldOff Go.Proofs.Tryd.prog 70 0 = some 0 := by kernel_rfl
theorem ag22_u9c : aggT Go.Proofs.Tryd.prog 22 = some false := by kernel_rfl
theorem pt57_u9c : placesT Go.Proofs.Tryd.prog 57 2 = some [(0, 1), (1, 1)] := by kernel_rfl
theorem sz57_u9c : sizeT Go.Proofs.Tryd.prog 57 = some 2 := by kernel_rfl
theorem fo70_1_u9c : fieldOff Go.Proofs.Tryd.prog 70 1 = some 1 := by kernel_rfl
theorem ag54_u9c : aggT Go.Proofs.Tryd.prog 54 = some false := by kernel_rfl
theorem fo57_1_u9c : fieldOff Go.Proofs.Tryd.prog 57 1 = some 1 := by kernel_rfl
theorem ag55_u9c : aggT Go.Proofs.Tryd.prog 55 = some false := by kernel_rfl
theorem sz60_u9c : sizeT Go.Proofs.Tryd.prog 60 = some 5 := by kernel_rfl
theorem ag60_u9c : aggT Go.Proofs.Tryd.prog 60 = some true := by kernel_rfl
theorem sz63_u9c : sizeT Go.Proofs.Tryd.prog 63 = some 5 := by kernel_rfl
theorem zt63_u9c : zeroT Go.Proofs.Tryd.prog 63 = some [.int .u64 0, .int .u64 0, .int .u8 0, .int .u16 0, .string ⟨#[]⟩] := by kernel_rfl
theorem el63_u9c : elT Go.Proofs.Tryd.prog 63 = some (5, 40) := by kernel_rfl
theorem sz55_u9c : sizeT Go.Proofs.Tryd.prog 55 = some 1 := by kernel_rfl
theorem mixed_u9c : Go.Proofs.Tryd.prog.follows .mixedOrders = true := by kernel_rfl
theorem ag57_u9c : aggT Go.Proofs.Tryd.prog 57 = some true := by kernel_rfl
theorem ag63_u9c : aggT Go.Proofs.Tryd.prog 63 = some true := by kernel_rfl
theorem pt63_u9c : placesT Go.Proofs.Tryd.prog 63 5 = some [(0, 1), (1, 1), (2, 1), (3, 1), (4, 1)] := by kernel_rfl
theorem ht35_u9c : hasText Go.Proofs.Tryd.prog 35 = true := by kernel_rfl
theorem ht37_u9c : hasText Go.Proofs.Tryd.prog 37 = true := by kernel_rfl
theorem ht38_u9c : hasText Go.Proofs.Tryd.prog 38 = true := by kernel_rfl
theorem ht46_u9c : hasText Go.Proofs.Tryd.prog 46 = true := by kernel_rfl
theorem fo60_4_u9c : fieldOff Go.Proofs.Tryd.prog 60 4 = some 4 := by kernel_rfl
theorem ag9_u9c : aggT Go.Proofs.Tryd.prog 9 = some false := by kernel_rfl
theorem ht39_u9c : hasText Go.Proofs.Tryd.prog 39 = true := by kernel_rfl
theorem ag70_u9c : aggT Go.Proofs.Tryd.prog 70 = some true := by kernel_rfl
theorem sz70_u9c : sizeT Go.Proofs.Tryd.prog 70 = some 2 := by kernel_rfl
theorem ht40_u9c : hasText Go.Proofs.Tryd.prog 40 = true := by kernel_rfl
theorem ht41_u9c : hasText Go.Proofs.Tryd.prog 41 = true := by kernel_rfl
theorem zt70_u9c : zeroT Go.Proofs.Tryd.prog 70 = some [.int .u64 0, .slice none 0 0] := by kernel_rfl
theorem fo60_0_u9c : fieldOff Go.Proofs.Tryd.prog 60 0 = some 0 := by kernel_rfl
theorem ht42_u9c : hasText Go.Proofs.Tryd.prog 42 = true := by kernel_rfl
theorem ht43_u9c : hasText Go.Proofs.Tryd.prog 43 = true := by kernel_rfl
theorem ht44_u9c : hasText Go.Proofs.Tryd.prog 44 = true := by kernel_rfl
theorem ht45_u9c : hasText Go.Proofs.Tryd.prog 45 = true := by kernel_rfl
theorem fo57_0_u9c : fieldOff Go.Proofs.Tryd.prog 57 0 = some 0 := by kernel_rfl
theorem ht36_u9c : hasText Go.Proofs.Tryd.prog 36 = true := by kernel_rfl
theorem ht47_u9c : hasText Go.Proofs.Tryd.prog 47 = true := by kernel_rfl
theorem ht48_u9c : hasText Go.Proofs.Tryd.prog 48 = true := by kernel_rfl
theorem fo60_1_u9c : fieldOff Go.Proofs.Tryd.prog 60 1 = some 1 := by kernel_rfl
theorem zt60_u9c : zeroT Go.Proofs.Tryd.prog 60 = some [.int .u64 0, .int .u64 0, .int .u8 0, .int .u16 0, .string ⟨#[]⟩] := by kernel_rfl
theorem sz22_u9c : sizeT Go.Proofs.Tryd.prog 22 = some 1 := by kernel_rfl
theorem el60_u9c : elT Go.Proofs.Tryd.prog 60 = some (5, 40) := by kernel_rfl

open Go.Proofs.YtmnhfpcbfdgbcaaDoor.Eng.Er Go.Proofs.YtmnhfpcbfdgbcaaDoor.Eng.Er2

def F_lgive_b0 (p0 : Lgr) (t_2 : Int × (List Lin)) : Option ((Int × (List Lin)) ⊕ (((List Lin)))) :=
  ifb (decide (t_2.1 < (p0.L.length : Int))) (ixb p0.L t_2.1 fun x_4 => grd (Fits 40 (t_2.2.length + ([x_4] : (List Lin)).length)) <| some (.inl (IntKind.i64.wrap (t_2.1 + 1), (t_2.2 ++ ([x_4] : (List Lin)))))) (some (.inr t_2.2))
def F_lgive (fl : Nat) (p0 : Lgr) : Option (Lgr) :=
  bnd (lp (F_lgive_b0 p0) fl (0, ([] : (List Lin)))) fun z_1 => some (⟨p0.Dropped, z_1⟩ : Lgr)
set_option maxRecDepth 100000 in
set_option maxHeartbeats 2000000 in
theorem c_lgive {fl : Nat} {p0 : Lgr} {R : Lgr} (h0 : F_lgive fl p0 = some R) : Pure Go.Proofs.Tryd.prog 40 [agg [pl (.int .u64 p0.Dropped), sl kLin none none p0.L]] (agg [pl (.int .u64 R.Dropped), sl kLin none none R.L]) := by
  intro s
  unfold F_lgive at h0
  refine ac_of_aw s.boxes.length s.fr.length Go.Proofs.Tryd.func40 rfl (by simp [Go.Proofs.Tryd.ntmps40]) ?_
  refine aw_ext0 ?_
  refine aw_keep [(0, _)] ⟨lg ez, trivial⟩ ?_
  refine aw_seq ?_
  refine aw_region (by decide) ?_
  refine rts _ rfl (boxAN rfl oz (bnd_cons (pl_bnd _ _ _) (bnd_cons (sl_b kb_Lin) bnd_nil)) (by first | exact List.length_nil | (simp only [List.length_cons, List.length_nil, Nat.zero_add, Nat.reduceAdd] <;> rfl)) (by simp only [na, nb, nc, nd, nf, ng, nh, ni, nj, nk] <;> rfl)) ?_
  refine rts _ rfl (allocN rfl zt57_u9c (by first | exact List.length_nil | (simp only [List.length_cons, List.length_nil, Nat.zero_add, Nat.reduceAdd] <;> rfl)) (by simp only [na, nb, nc, nd, nf, ng, nh, ni, nj, nk] <;> rfl)) ?_
  refine .nil ?_
  refine aw_keep [(1, _), (2, _)] ⟨lg (ls rfl lz), lg lz, trivial⟩ ?_
  refine aw_seq ?_
  refine aw_region (by decide) ?_
  refine rts _ rfl (opD_fieldAddr fo70_0_u9c oz) ?_
  refine rts _ rfl (opD_load_one ag22_u9c lz (loc_getN rfl rfl) rfl) ?_
  refine rts _ rfl (opD_build_struct (rs := [_, _]) Go.Proofs.Tryd.underlying57 pt57_u9c zt57_u9c (parts_cons (cells1 lz (one_pl rfl)) parts_nil) rfl) ?_
  refine rts _ rfl (allocN rfl zt57_u9c (by first | exact List.length_nil | (simp only [List.length_cons, List.length_nil, Nat.zero_add, Nat.reduceAdd] <;> rfl)) (by simp only [na, nb, nc, nd, nf, ng, nh, ni, nj, nk] <;> rfl)) ?_
  refine rts _ rfl (storeAN rfl sz57_u9c lz (ls rfl lz) (ones_cons (one_pl rfl) (ones_cons (one_pl rfl) ones_nil)) rfl rfl (Nat.le_of_ble_eq_true rfl) (List.cons_ne_nil _ _) (bnd_cons (pl_bnd _ _ _) (bnd_cons (pl_bnd _ _ _) bnd_nil)) (by simp only [na, nb, nc, nd, nf, ng, nh, ni, nj, nk] <;> rfl) (by simp only [na, nb, nc, nd, nf, ng, nh, ni, nj, nk] <;> rfl)) ?_
  refine .nil ?_
  refine aw_keep [(1, _), (2, _), (3, _)] ⟨lg (lx (ls rfl (ls rfl (ls rfl (ls rfl oz))))), lg (lx (ls rfl (ls rfl (ls rfl (ls rfl (os rfl oz)))))), lg (lx lz), trivial⟩ ?_
  refine aw_seq ?_
  refine aw_seq ?_
  refine aw_region (by decide) ?_
  refine rts _ rfl (opD_assign (ev_const _ _)) ?_
  refine .nil ?_
  refine aw_keep [(1, _), (2, _), (3, _), (4, _)] ⟨lg (ls rfl oz), lg (ls rfl (os rfl oz)), lg (ls rfl (os rfl (os rfl oz))), lg lz, trivial⟩ ?_
  replace h0 := bnd_some h0
  obtain ⟨z_1, hz_1, h0⟩ := h0
  refine aw_mid (fun e st => ∃ v : (List Lin), Holds e [(2, ptr (s.boxes.length + 1) 0), (3, ptr (s.boxes.length + 2) 0)] ∧ st = s.ext [⟨70, [pl (.int .u64 p0.Dropped), sl kLin none none p0.L]⟩, ⟨57, [pl (.int .u64 0), pl (.slice none 0 0)]⟩, ⟨57, [pl (.int .u64 p0.Dropped), sl kLin none none v]⟩] [] ∧ v = z_1) ?_ ?_
  · skip
    refine aw_wkN rfl 3 0 rfl rfl ?_
    refine aw_block ?_
    refine aw_fr ⟨63, 5, 0⟩ ?_
    refine aw_wkBN rfl (bs' := [⟨70, [pl (.int .u64 p0.Dropped), sl kLin none none p0.L]⟩, ⟨57, [pl (.int .u64 0), pl (.slice none 0 0)]⟩, ⟨57, [pl (.int .u64 p0.Dropped), sl kLin (some (s.fr.length + 0)) none []]⟩]) (bxle_same (bxle_same (bxle_cons (B := ⟨57, [_, _]⟩) (@Eq.refl TypeId 57) (lel_cons (Pd.le_refl _) (lel_cons (nil_own rfl) lel_nil)) bxle_nil))) (bl_cons (bnd_cons (pl_bnd _ _ _) (bnd_cons (sl_b kb_Lin) bnd_nil)) (bl_cons (bnd_cons (pl_bnd _ _ _) (bnd_cons (pl_bnd _ _ _) bnd_nil)) (bl_cons (bnd_cons (pl_bnd _ _ _) (bnd_cons (sl_ob kb_Lin (by first | omega | (simp only [List.length_append, List.length_cons, List.length_nil, ext_fr_length, upd_fr_length]; omega))) bnd_nil)) bl_nil))) ?_
    refine aw_loop (fun n e st => ∃ v : Int × (List Lin), Holds e [(1, ptr (s.boxes.length + 0) 0), (2, ptr (s.boxes.length + 1) 0), (3, ptr (s.boxes.length + 2) 0), (4, pl (.int .i64 v.1))] ∧ st = s.ext [⟨70, [pl (.int .u64 p0.Dropped), sl kLin none none p0.L]⟩, ⟨57, [pl (.int .u64 0), pl (.slice none 0 0)]⟩, ⟨57, [pl (.int .u64 p0.Dropped), sl kLin (some (s.fr.length + 0)) none v.2]⟩] [⟨63, 5, v.2.length⟩] ∧ lp (F_lgive_b0 p0) n v = some z_1) fl ⟨(0, ([] : (List Lin))), ⟨le_of_eq (eg oz), le_of_eq (eg (os rfl oz)), le_of_eq (eg (os rfl (os rfl oz))), le_of_eq (eg (os rfl (os rfl (os rfl oz)))), trivial⟩, rfl, hz_1⟩ ?_
    rintro n e st ⟨t_2, hH, rfl, hz_1⟩
    replace hz_1 := lp_some hz_1
    obtain ⟨m_z_3, z_3, rfl, hz_3, hz_1⟩ := hz_1
    unfold F_lgive_b0 at hz_3
    refine aw_keep _ hH ?_
    refine aw_wkN rfl 3 1 rfl rfl ?_
    refine aw_seq ?_
    refine aw_seq ?_
    refine aw_region (by decide) ?_
    refine rts _ rfl (opD_move (os rfl (os rfl (os rfl oz)))) ?_
    refine rts _ rfl (opD_fieldAddr fo70_1_u9c (ls rfl oz)) ?_
    refine rts _ rfl (opD_load_one ag54_u9c lz (loc_getN rfl rfl) rfl) ?_
    refine rts _ rfl (opD_len_sl Go.Proofs.Tryd.underlying54 lz) ?_
    refine rts _ rfl (opD_lss (ls rfl (ls rfl (ls rfl lz))) lz) ?_
    refine .nil ?_
    refine aw_keep [(1, _), (2, _), (3, _), (4, _), (12, _)] ⟨lg (ls rfl (ls rfl (ls rfl (ls rfl (ls rfl oz))))), lg (ls rfl (ls rfl (ls rfl (ls rfl (ls rfl (os rfl oz)))))), lg (ls rfl (ls rfl (ls rfl (ls rfl (ls rfl (os rfl (os rfl oz))))))), lg (ls rfl (ls rfl (ls rfl (ls rfl (ls rfl (os rfl (os rfl (os rfl oz)))))))), lg lz, trivial⟩ ?_
    refine aw_cond _ (os rfl (os rfl (os rfl (os rfl oz)))) (fun hc => ?_) (fun hc => ?_)
    · skip
      replace hz_3 := ifb_t hz_3 hc
      clear hc
      refine aw_skip ?_
      refine aw_keep [(1, _), (2, _), (3, _), (4, _)] ⟨lg oz, lg (os rfl oz), lg (os rfl (os rfl oz)), lg (os rfl (os rfl (os rfl oz))), trivial⟩ ?_
      refine aw_seq ?_
      refine aw_block ?_
      refine aw_drawn [false, false, false, false, false, false, false, false, true, false, true] [[0], [0], [0], [0], [0], [0], [0], [0], [0, 1], [1], [1, 2]] mixed_u9c (by decide +kernel) ?_
      refine dtp _ rfl (fun s => opD_fieldAddr fo57_1_u9c (os rfl (os rfl oz))) ?_
      refine dtlG1 ag55_u9c lz (loc_getN rfl rfl) rfl rfl ?_
      refine dtp _ rfl (fun s => opD_fieldAddr fo70_1_u9c (ls rfl (ls rfl oz))) ?_
      refine dtlG1 ag54_u9c lz (loc_getN rfl rfl) rfl rfl ?_
      refine dtp _ rfl (fun s => opD_move (ls rfl (ls rfl (ls rfl (ls rfl (os rfl (os rfl (os rfl oz)))))))) ?_
      replace hz_3 := ixb_some hz_3
      obtain ⟨x_4, hx_4, hbx_4, hz_3⟩ := hz_3
      refine dtp _ rfl (fun s => opD_indexAddr_sl (i := t_2.1.toNat) Go.Proofs.Tryd.underlying54 sz60_u9c (ls rfl lz) lz hbx_4.2.2 hbx_4.2.1) ?_
      refine dtp _ rfl (fun s => opD_load_el_aggX (qs := [_, _, _, _, _]) ag60_u9c sz60_u9c lz hx_4 (Nat.le_of_ble_eq_true rfl) rfl) ?_
      refine dtp _ rfl (fun s => opD_buildSlice (k := kLin) ([x_4] : (List Lin)) Go.Proofs.Tryd.underlying55 sz63_u9c zt63_u9c (by decide) rfl (parts_cons (cellsA lz) parts_nil) rfl rfl) ?_
      replace hz_3 := grd_some hz_3
      obtain ⟨hg_12, hz_3⟩ := hz_3
      refine dta _ rfl (opD_appendX Go.Proofs.Tryd.underlying55 el63_u9c (ls rfl (ls rfl (ls rfl (ls rfl (ls rfl (ls rfl lz)))))) lz rfl hg_12.1 hg_12.2 rfl (by simp only [na, nb, nc, nd, nf, ng, nh, ni, nj, nk] <;> rfl)) ?_
      refine dtp _ rfl (fun s => opD_fieldAddr fo57_1_u9c (ls rfl (ls rfl (ls rfl (ls rfl (ls rfl (ls rfl (ls rfl (ls rfl (ls rfl (os rfl (os rfl oz)))))))))))) ?_
      refine dta _ rfl (storeON rfl sz55_u9c lz (le_of_eq (ls rfl lz)) (one_sl _ _ _ _) rfl (Nat.le_of_ble_eq_true rfl) (sl_ob kb_Lin (by first | omega | (simp only [List.length_append, List.length_cons, List.length_nil, ext_fr_length, upd_fr_length]; omega))) (by simp only [na, nb, nc, nd, nf, ng, nh, ni, nj, nk] <;> rfl) (by simp only [na, nb, nc, nd, nf, ng, nh, ni, nj, nk] <;> rfl)) ?_
      refine .nil ?_
      dsimp only [List.nil_append, List.cons_append]
      refine ⟨rfl, ⟨trivial, ⟨(by first | exact loc_getN rfl rfl | exact updx_get hlt | exact upd2_g hgh hlt | exact upd2_h hlt2), trivial⟩, trivial, ⟨(by first | exact loc_getN rfl rfl | exact updx_get hlt | exact upd2_g hgh hlt | exact upd2_h hlt2), trivial⟩, trivial, trivial, trivial, trivial, trivial, trivial, trivial, trivial⟩, ?_⟩
      refine aw_keep [(1, _), (2, _), (3, _), (4, _)] ⟨lg (lx (ls rfl (ls rfl (ls rfl (ls rfl (ls rfl (ls rfl (ls rfl (ls rfl (ls rfl (ls rfl oz))))))))))), lg (lx (ls rfl (ls rfl (ls rfl (ls rfl (ls rfl (ls rfl (ls rfl (ls rfl (ls rfl (ls rfl (os rfl oz)))))))))))), lg (lx (ls rfl (ls rfl (ls rfl (ls rfl (ls rfl (ls rfl (ls rfl (ls rfl (ls rfl (ls rfl (os rfl (os rfl oz))))))))))))), lg (lx (ls rfl (ls rfl (ls rfl (ls rfl (ls rfl (ls rfl (ls rfl (ls rfl (ls rfl (ls rfl (os rfl (os rfl (os rfl oz)))))))))))))), trivial⟩ ?_
      refine aw_region (by decide) ?_
      refine rts _ rfl (opD_move (os rfl (os rfl (os rfl oz)))) ?_
      refine rts _ rfl (opD_add lz (ev_const _ _) rfl) ?_
      refine rts _ rfl (opD_assign lz) ?_
      refine .nil ?_
      obtain rfl := some_of hz_3
      replace hz_1 := ocs_l hz_1
      refine wk_yesN rfl (l := [(1, ptr (s.boxes.length + 0) 0), (2, ptr (s.boxes.length + 1) 0), (3, ptr (s.boxes.length + 2) 0), (4, pl (.int .i64 (IntKind.i64.wrap (t_2.1 + 1))))]) (bs' := [⟨70, [pl (.int .u64 p0.Dropped), sl kLin none none p0.L]⟩, ⟨57, [pl (.int .u64 0), pl (.slice none 0 0)]⟩, ⟨57, [pl (.int .u64 p0.Dropped), sl kLin (some (s.fr.length + 0)) none (t_2.2 ++ ([x_4] : (List Lin)))]⟩]) ⟨le_of_eq (eg (ls rfl (ls rfl (ls rfl oz)))), le_of_eq (eg (ls rfl (ls rfl (ls rfl (os rfl oz))))), le_of_eq (eg (ls rfl (ls rfl (ls rfl (os rfl (os rfl oz)))))), le_of_eq (eg lz), trivial⟩ (bnd_cons (ptr_bnd _ (by first | omega | (simp only [List.length_append, List.length_cons, List.length_nil]; omega))) (bnd_cons (ptr_bnd _ (by first | omega | (simp only [List.length_append, List.length_cons, List.length_nil]; omega))) (bnd_cons (ptr_bnd _ (by first | omega | (simp only [List.length_append, List.length_cons, List.length_nil]; omega))) (bnd_cons (pl_bnd _ _ _) bnd_nil)))) (Nat.le_of_ble_eq_true rfl) (by simp only [na, nb, nc, nd, nf, ng, nh, ni, nj, nk] <;> rfl) (bxle_same (bxle_same (bxle_same bxle_nil))) rfl (by simp only [na, nb, nc, nd, nf, ng, nh, ni, nj, nk] <;> rfl) (bl_cons (bnd_cons (pl_bnd _ _ _) (bnd_cons (sl_b kb_Lin) bnd_nil)) (bl_cons (bnd_cons (pl_bnd _ _ _) (bnd_cons (pl_bnd _ _ _) bnd_nil)) (bl_cons (bnd_cons (pl_bnd _ _ _) (bnd_cons (sl_ob kb_Lin (by first | omega | (simp only [List.length_append, List.length_cons, List.length_nil, ext_fr_length, upd_fr_length]; omega))) bnd_nil)) bl_nil))) ?_
      exact ⟨m_z_3, Nat.lt_succ_self _, (IntKind.i64.wrap (t_2.1 + 1), (t_2.2 ++ ([x_4] : (List Lin)))), ⟨le_of_eq (eg oz), le_of_eq (eg (os rfl oz)), le_of_eq (eg (os rfl (os rfl oz))), le_of_eq (eg (os rfl (os rfl (os rfl oz)))), trivial⟩, rfl, hz_1⟩
    · skip
      replace hz_3 := ifb_f hz_3 hc
      clear hc
      refine aw_exit ?_
      obtain rfl := some_of hz_3
      replace hz_1 := ocs_r hz_1
      refine wk_no ?_
      refine wk_yesN rfl (l := [(2, ptr (s.boxes.length + 1) 0), (3, ptr (s.boxes.length + 2) 0)]) (bs' := [⟨70, [pl (.int .u64 p0.Dropped), sl kLin none none p0.L]⟩, ⟨57, [pl (.int .u64 0), pl (.slice none 0 0)]⟩, ⟨57, [pl (.int .u64 p0.Dropped), sl kLin none none t_2.2]⟩]) ⟨le_of_eq (eg (os rfl oz)), le_of_eq (eg (os rfl (os rfl oz))), trivial⟩ (bnd_cons (ptr_bnd _ (by first | omega | (simp only [List.length_append, List.length_cons, List.length_nil]; omega))) (bnd_cons (ptr_bnd _ (by first | omega | (simp only [List.length_append, List.length_cons, List.length_nil]; omega))) bnd_nil)) (Nat.le_of_ble_eq_true rfl) (by simp only [na, nb, nc, nd, nf, ng, nh, ni, nj, nk] <;> rfl) (bxle_same (bxle_same (bxle_cons (B := ⟨57, [_, _]⟩) (@Eq.refl TypeId 57) (lel_cons (Pd.le_refl _) (lel_cons (sl_le _ (some (s.fr.length + 0)) none _) lel_nil)) bxle_nil))) rfl (by simp only [na, nb, nc, nd, nf, ng, nh, ni, nj, nk] <;> rfl) (bl_cons (bnd_cons (pl_bnd _ _ _) (bnd_cons (sl_b kb_Lin) bnd_nil)) (bl_cons (bnd_cons (pl_bnd _ _ _) (bnd_cons (pl_bnd _ _ _) bnd_nil)) (bl_cons (bnd_cons (pl_bnd _ _ _) (bnd_cons (sl_b kb_Lin) bnd_nil)) bl_nil))) ?_
      exact ⟨t_2.2, ⟨le_of_eq (eg oz), le_of_eq (eg (os rfl oz)), trivial⟩, rfl, some_of hz_1⟩
  · rintro e st ⟨vz_1, hH, rfl, rfl⟩
    refine aw_keep _ hH ?_
    refine aw_keep [(2, _), (3, _)] ⟨lg oz, lg (os rfl oz), trivial⟩ ?_
    refine aw_seq ?_
    refine aw_region (by decide) ?_
    refine rts _ rfl (opD_load_aggX (qs := [_, _]) ag57_u9c sz57_u9c (os rfl oz) (loc_getN rfl rfl) (Nat.le_of_ble_eq_true rfl) rfl) ?_
    refine rts _ rfl (storeAN rfl sz57_u9c (ls rfl oz) lz (ones_cons (one_pl rfl) (ones_cons (one_sl _ _ _ _) ones_nil)) rfl rfl (Nat.le_of_ble_eq_true rfl) (List.cons_ne_nil _ _) (bnd_cons (pl_bnd _ _ _) (bnd_cons (sl_b kb_Lin) bnd_nil)) (by simp only [na, nb, nc, nd, nf, ng, nh, ni, nj, nk] <;> rfl) (by simp only [na, nb, nc, nd, nf, ng, nh, ni, nj, nk] <;> rfl)) ?_
    refine .nil ?_
    refine aw_keep [(2, _)] ⟨lg (lx (ls rfl oz)), trivial⟩ ?_
    refine aw_ret ?_
    obtain rfl := some_of h0
    exact done_ext (.inr rfl) ((res_one rfl (it_cellA (B := ⟨57, [_, _]⟩) ag57_u9c sz57_u9c oz (loc_getN rfl rfl) rfl)).le (agg_le ⟨(Pd.le_refl _), (Pd.le_refl _), trivial⟩)) (agg_bnd (bnd_cons (pl_bnd _ _ _) (bnd_cons (sl_b kb_Lin) bnd_nil)))

def F_lare_b0 (p0 : (List Lin)) (p1 : (List Lin)) (t_2 : Int) : Option ((Int) ⊕ ((Bool) ⊕ (Unit))) :=
  ifb (decide (t_2 < (p1.length : Int))) (ixb p0 t_2 fun x_4 => ixb p1 t_2 fun x_5 => ifb (!(decide (x_4.Seq = x_5.Seq) && (decide (x_4.Who = x_5.Who) && (decide (x_4.What = x_5.What) && (decide (x_4.Code = x_5.Code) && (decide (x_4.Key = x_5.Key) && true)))))) (some (.inr (.inl false))) (some (.inl (IntKind.i64.wrap (t_2 + 1))))) (some (.inr (.inr ())))
def F_lare (fl : Nat) (p0 : (List Lin)) (p1 : (List Lin)) : Option (Bool) :=
  ifb (decide ((p0.length : Int) ≠ (p1.length : Int))) (some false) (bnd (lp (F_lare_b0 p0 p1) fl 0) fun z_1 => ocs z_1 (fun qz_1_0 => some qz_1_0) fun z_1_0 => some true)
set_option maxRecDepth 100000 in
set_option maxHeartbeats 2000000 in
theorem c_lare {fl : Nat} {p0 : (List Lin)} {p1 : (List Lin)} {R : Bool} (h0 : F_lare fl p0 p1 = some R) : Pure Go.Proofs.Tryd.prog 36 [sl kLin none none p0, sl kLin none none p1] (pl (.bool R)) := by
  intro s
  unfold F_lare at h0
  refine ac_of_aw s.boxes.length s.fr.length Go.Proofs.Tryd.func36 rfl (by simp [Go.Proofs.Tryd.ntmps36]) ?_
  refine aw_ext0 ?_
  refine aw_keep [(0, _), (1, _)] ⟨lg ez, lg (es ez), trivial⟩ ?_
  refine aw_seq ?_
  refine aw_region (by decide) ?_
  refine rts _ rfl (opD_assign (ev_const _ _)) ?_
  refine .nil ?_
  refine aw_keep [(0, _), (1, _)] ⟨lg (ls rfl oz), lg (ls rfl (os rfl oz)), trivial⟩ ?_
  refine aw_seq ?_
  refine aw_seq ?_
  refine aw_region (by decide) ?_
  refine rts _ rfl (opD_move oz) ?_
  refine rts _ rfl (opD_len_sl Go.Proofs.Tryd.underlying55 lz) ?_
  refine rts _ rfl (opD_move (ls rfl (ls rfl (os rfl oz)))) ?_
  refine rts _ rfl (opD_len_sl Go.Proofs.Tryd.underlying54 lz) ?_
  refine rts _ rfl (opD_neq (ls rfl (ls rfl lz)) lz) ?_
  refine .nil ?_
  refine aw_keep [(0, _), (1, _), (10, _)] ⟨lg (ls rfl (ls rfl (ls rfl (ls rfl (ls rfl oz))))), lg (ls rfl (ls rfl (ls rfl (ls rfl (ls rfl (os rfl oz)))))), lg lz, trivial⟩ ?_
  refine aw_cond _ (os rfl (os rfl oz)) (fun hc => ?_) (fun hc => ?_)
  · skip
    replace h0 := ifb_t h0 hc
    clear hc
    refine aw_seq ?_
    refine aw_region (by decide) ?_
    refine rts _ rfl (opD_assign (ev_const _ _)) ?_
    refine .nil ?_
    refine aw_keep [(4, _)] ⟨lg lz, trivial⟩ ?_
    refine aw_ret ?_
    obtain rfl := some_of h0
    exact done_ext (.inr rfl) ((res_one rfl (it_tmp oz)).le (Pd.le_refl _)) (pl_bnd _ _ _)
  · skip
    replace h0 := ifb_f h0 hc
    clear hc
    refine aw_skip ?_
    refine aw_keep [(0, _), (1, _)] ⟨lg oz, lg (os rfl oz), trivial⟩ ?_
    refine aw_seq ?_
    refine aw_seq ?_
    refine aw_region (by decide) ?_
    refine rts _ rfl (opD_assign (ev_const _ _)) ?_
    refine .nil ?_
    refine aw_keep [(0, _), (1, _), (5, _)] ⟨lg (ls rfl oz), lg (ls rfl (os rfl oz)), lg lz, trivial⟩ ?_
    replace h0 := bnd_some h0
    obtain ⟨z_1, hz_1, h0⟩ := h0
    refine aw_mid (fun e st => ∃ v : Unit, Holds e [] ∧ st = s.ext [] [] ∧ (.inr v) = z_1) ?_ ?_
    · skip
      refine aw_wkN rfl 0 0 rfl rfl ?_
      refine aw_block ?_
      refine aw_loop (fun n e st => ∃ v : Int, Holds e [(0, sl kLin none none p0), (1, sl kLin none none p1), (5, pl (.int .i64 v))] ∧ st = s.ext [] [] ∧ lp (F_lare_b0 p0 p1) n v = some z_1) fl ⟨0, ⟨le_of_eq (eg oz), le_of_eq (eg (os rfl oz)), le_of_eq (eg (os rfl (os rfl oz))), trivial⟩, rfl, hz_1⟩ ?_
      rintro n e st ⟨t_2, hH, rfl, hz_1⟩
      replace hz_1 := lp_some hz_1
      obtain ⟨m_z_3, z_3, rfl, hz_3, hz_1⟩ := hz_1
      unfold F_lare_b0 at hz_3
      refine aw_keep _ hH ?_
      refine aw_wkN rfl 0 0 rfl rfl ?_
      refine aw_seq ?_
      refine aw_seq ?_
      refine aw_region (by decide) ?_
      refine rts _ rfl (opD_move (os rfl (os rfl oz))) ?_
      refine rts _ rfl (opD_move (ls rfl (os rfl oz))) ?_
      refine rts _ rfl (opD_len_sl Go.Proofs.Tryd.underlying54 lz) ?_
      refine rts _ rfl (opD_lss (ls rfl (ls rfl lz)) lz) ?_
      refine .nil ?_
      refine aw_keep [(0, _), (1, _), (5, _), (14, _)] ⟨lg (ls rfl (ls rfl (ls rfl (ls rfl oz)))), lg (ls rfl (ls rfl (ls rfl (ls rfl (os rfl oz))))), lg (ls rfl (ls rfl (ls rfl (ls rfl (os rfl (os rfl oz)))))), lg lz, trivial⟩ ?_
      refine aw_cond _ (os rfl (os rfl (os rfl oz))) (fun hc => ?_) (fun hc => ?_)
      · skip
        replace hz_3 := ifb_t hz_3 hc
        clear hc
        refine aw_skip ?_
        refine aw_keep [(0, _), (1, _), (5, _)] ⟨lg oz, lg (os rfl oz), lg (os rfl (os rfl oz)), trivial⟩ ?_
        refine aw_seq ?_
        refine aw_block ?_
        refine aw_seq ?_
        refine aw_flat mixed_u9c (by decide +kernel) ?_
        refine zts _ rfl (opD_move oz) ?_
        refine zts _ rfl (opD_move (ls rfl (os rfl (os rfl oz)))) ?_
        replace hz_3 := ixb_some hz_3
        obtain ⟨x_4, hx_4, hbx_4, hz_3⟩ := hz_3
        refine zts _ rfl (opD_indexAddr_sl (i := t_2.toNat) Go.Proofs.Tryd.underlying55 sz63_u9c (ls rfl lz) lz hbx_4.2.2 hbx_4.2.1) ?_
        refine zts _ rfl (opD_load_el_aggX (qs := [_, _, _, _, _]) ag63_u9c sz63_u9c lz hx_4 (Nat.le_of_ble_eq_true rfl) rfl) ?_
        refine zts _ rfl (opD_move (ls rfl (ls rfl (ls rfl (ls rfl (os rfl oz)))))) ?_
        refine zts _ rfl (opD_move (ls rfl (ls rfl (ls rfl (ls rfl (ls rfl (os rfl (os rfl oz)))))))) ?_
        replace hz_3 := ixb_some hz_3
        obtain ⟨x_5, hx_5, hbx_5, hz_3⟩ := hz_3
        refine zts _ rfl (opD_indexAddr_sl (i := t_2.toNat) Go.Proofs.Tryd.underlying54 sz60_u9c (ls rfl lz) lz hbx_5.2.2 hbx_5.2.1) ?_
        refine zts _ rfl (opD_load_el_aggX (qs := [_, _, _, _, _]) ag60_u9c sz60_u9c lz hx_5 (Nat.le_of_ble_eq_true rfl) rfl) ?_
        refine zts _ rfl (opD_binA [.int .u64 x_4.Seq, .int .u64 x_4.Who, .int .u8 x_4.What, .int .u16 x_4.Code, .string x_4.Key] [.int .u64 x_5.Seq, .int .u64 x_5.Who, .int .u8 x_5.What, .int .u16 x_5.Code, .string x_5.Key] (ls rfl (ls rfl (ls rfl (ls rfl lz)))) lz (fun w => (eq_Lin_g _ _ _ _ _ w)) (fun w => (eq_Lin _ _ _ _ _ _ _ _ _ _ w).2)) ?_
        refine .nil ?_
        refine aw_keep [(0, _), (1, _), (5, _), (25, _)] ⟨lg (ls rfl (ls rfl (ls rfl (ls rfl (ls rfl (ls rfl (ls rfl (ls rfl (ls rfl oz))))))))), lg (ls rfl (ls rfl (ls rfl (ls rfl (ls rfl (ls rfl (ls rfl (ls rfl (ls rfl (os rfl oz)))))))))), lg (ls rfl (ls rfl (ls rfl (ls rfl (ls rfl (ls rfl (ls rfl (ls rfl (ls rfl (os rfl (os rfl oz))))))))))), lg lz, trivial⟩ ?_
        refine aw_cond _ (os rfl (os rfl (os rfl oz))) (fun hc => ?_) (fun hc => ?_)
        · skip
          replace hz_3 := ifb_t hz_3 hc
          clear hc
          refine aw_seq ?_
          refine aw_region (by decide) ?_
          refine rts _ rfl (opD_assign (ev_const _ _)) ?_
          refine .nil ?_
          refine aw_keep [(4, _)] ⟨lg lz, trivial⟩ ?_
          refine aw_ret ?_
          obtain rfl := some_of hz_3
          replace hz_1 := ocs_r hz_1
          obtain rfl := some_of hz_1
          replace h0 := ocs_l h0
          refine wk_no ?_
          refine wk_no ?_
          obtain rfl := some_of h0
          exact done_ext (.inr rfl) ((res_one rfl (it_tmp oz)).le (Pd.le_refl _)) (pl_bnd _ _ _)
        · skip
          replace hz_3 := ifb_f hz_3 hc
          clear hc
          refine aw_skip ?_
          refine aw_keep [(0, _), (1, _), (5, _)] ⟨lg oz, lg (os rfl oz), lg (os rfl (os rfl oz)), trivial⟩ ?_
          refine aw_region (by decide) ?_
          refine rts _ rfl (opD_move (os rfl (os rfl oz))) ?_
          refine rts _ rfl (opD_add lz (ev_const _ _) rfl) ?_
          refine rts _ rfl (opD_assign lz) ?_
          refine .nil ?_
          obtain rfl := some_of hz_3
          replace hz_1 := ocs_l hz_1
          refine wk_yesN rfl (l := [(0, sl kLin none none p0), (1, sl kLin none none p1), (5, pl (.int .i64 (IntKind.i64.wrap (t_2 + 1))))]) (bs' := []) ⟨le_of_eq (eg (ls rfl (ls rfl (ls rfl oz)))), le_of_eq (eg (ls rfl (ls rfl (ls rfl (os rfl oz))))), le_of_eq (eg lz), trivial⟩ (bnd_cons (sl_b kb_Lin) (bnd_cons (sl_b kb_Lin) (bnd_cons (pl_bnd _ _ _) bnd_nil))) (Nat.le_of_ble_eq_true rfl) (by simp only [na, nb, nc, nd, nf, ng, nh, ni, nj, nk] <;> rfl) bxle_nil rfl (by simp only [na, nb, nc, nd, nf, ng, nh, ni, nj, nk] <;> rfl) bl_nil ?_
          exact ⟨m_z_3, Nat.lt_succ_self _, IntKind.i64.wrap (t_2 + 1), ⟨le_of_eq (eg oz), le_of_eq (eg (os rfl oz)), le_of_eq (eg (os rfl (os rfl oz))), trivial⟩, rfl, hz_1⟩
      · skip
        replace hz_3 := ifb_f hz_3 hc
        clear hc
        refine aw_exit ?_
        obtain rfl := some_of hz_3
        replace hz_1 := ocs_r hz_1
        refine wk_no ?_
        refine wk_yesN rfl (l := []) (bs' := []) trivial bnd_nil (Nat.le_of_ble_eq_true rfl) (by simp only [na, nb, nc, nd, nf, ng, nh, ni, nj, nk] <;> rfl) bxle_nil rfl (by simp only [na, nb, nc, nd, nf, ng, nh, ni, nj, nk] <;> rfl) bl_nil ?_
        exact ⟨(), trivial, rfl, some_of hz_1⟩
    · rintro e st ⟨vz_1, hH, rfl, rfl⟩
      refine aw_keep _ hH ?_
      replace h0 := ocs_r h0
      refine aw_keep [] trivial ?_
      refine aw_seq ?_
      refine aw_region (by decide) ?_
      refine rts _ rfl (opD_assign (ev_const _ _)) ?_
      refine .nil ?_
      refine aw_keep [(4, _)] ⟨lg lz, trivial⟩ ?_
      refine aw_ret ?_
      obtain rfl := some_of h0
      exact done_ext (.inr rfl) ((res_one rfl (it_tmp oz)).le (Pd.le_refl _)) (pl_bnd _ _ _)

def F_sure30 (fl : Nat) : Option (Bool) :=
  bnd (F_ladd fl (⟨0, []⟩ : Lgr) (⟨0, 7, 2, 12, ⟨#[97]⟩⟩ : Lin)) fun x_1 => bnd (F_lenc fl x_1.1) fun x_2 => bnd (F_ldec fl x_2.1) fun x_3 => bnd (F_ldec fl []) fun x_4 => grd (((((x_1.2.isNone && x_2.2.isNone) && x_3.2.isNone) && (decide ((x_3.1.L.length : Int) = 1))) == true) = true → Below 0 x_3.1.L.length) <| bnd (gif (((((x_1.2.isNone && x_2.2.isNone) && x_3.2.isNone) && (decide ((x_3.1.L.length : Int) = 1))) && (decide ((x_3.1.L.getD (0 : Int).toNat default).Seq = 1) && (decide ((x_3.1.L.getD (0 : Int).toNat default).Who = 7) && (decide ((x_3.1.L.getD (0 : Int).toNat default).What = 2) && (decide ((x_3.1.L.getD (0 : Int).toNat default).Code = 12) && (decide ((x_3.1.L.getD (0 : Int).toNat default).Key = ⟨#[97]⟩) && true)))))) == true) (oNumG x_4.2)) fun x_5 => some ((((((x_1.2.isNone && x_2.2.isNone) && x_3.2.isNone) && (decide ((x_3.1.L.length : Int) = 1))) && (decide ((x_3.1.L.getD (0 : Int).toNat default).Seq = 1) && (decide ((x_3.1.L.getD (0 : Int).toNat default).Who = 7) && (decide ((x_3.1.L.getD (0 : Int).toNat default).What = 2) && (decide ((x_3.1.L.getD (0 : Int).toNat default).Code = 12) && (decide ((x_3.1.L.getD (0 : Int).toNat default).Key = ⟨#[97]⟩) && true)))))) && (decide (x_5 = 3))) && (decide ((x_2.1.length : Int) = 7)))
set_option maxRecDepth 100000 in
set_option maxHeartbeats 2000000 in
theorem c_sure30 {fl : Nat} {R : Bool} {s : St} (h0 : F_sure30 fl = some R) (hst : StGV s) : AC Go.Proofs.Tryd.prog 39 [] s (pl (.bool R)) s := by
  unfold F_sure30 at h0
  refine ac_of_aw s.boxes.length s.fr.length Go.Proofs.Tryd.func39 rfl (by simp [Go.Proofs.Tryd.ntmps39]) ?_
  refine aw_ext0 ?_
  refine aw_keep [] trivial ?_
  refine aw_seq ?_
  refine aw_region (by decide) ?_
  refine rts _ rfl (opD_assign (ev_const _ _)) ?_
  refine .nil ?_
  refine aw_keep [] trivial ?_
  refine aw_seq ?_
  refine aw_region (by decide) ?_
  refine rts _ rfl (opD_build_struct (rs := [_, _]) Go.Proofs.Tryd.underlying57 pt57_u9c zt57_u9c parts_nil rfl) ?_
  refine rts _ rfl (opD_build_struct (rs := [_, _, _, _, _]) Go.Proofs.Tryd.underlying63 pt63_u9c zt63_u9c (parts_cons (cells1 (ev_const _ _) (one_pl rfl)) (parts_cons (cells1 (ev_const _ _) (one_pl rfl)) (parts_cons (cells1 (ev_const _ _) (one_pl rfl)) (parts_cons (cells1 (ev_const _ _) (one_pl rfl)) parts_nil)))) (fill_step rfl (by rfl) (by rfl) (by simp only [na, nb, nl, nc, nd, nh, ni, nj, nk, nm, Nat.reduceAdd] <;> rfl) (fill_step rfl (by rfl) (by rfl) (by simp only [na, nb, nl, nc, nd, nh, ni, nj, nk, nm, Nat.reduceAdd] <;> rfl) (fill_step rfl (by rfl) (by rfl) (by simp only [na, nb, nl, nc, nd, nh, ni, nj, nk, nm, Nat.reduceAdd] <;> rfl) (fill_step rfl (by rfl) (by rfl) (by simp only [na, nb, nl, nc, nd, nh, ni, nj, nk, nm, Nat.reduceAdd] <;> rfl) fill_nil))))) ?_
  replace h0 := bnd_some h0
  obtain ⟨x_1, hx_1, h0⟩ := h0
  refine rts _ rfl (opD_pure ht35_u9c (c_ladd hx_1) ⟨(le_of_eq (ls rfl lz)).trans (agg_le ⟨(Pd.le_refl _), (le_nil rfl), trivial⟩), (le_of_eq lz).trans (agg_le ⟨(Pd.le_refl _), (Pd.le_refl _), (Pd.le_refl _), (Pd.le_refl _), (Pd.le_refl _), trivial⟩), trivial⟩) ?_
  refine rts _ rfl (opD_move lz) ?_
  refine rts _ rfl (opD_extract lz rfl) ?_
  refine rts _ rfl (opD_extract (ls rfl lz) rfl) ?_
  refine rts _ rfl (allocN rfl zt57_u9c (by first | exact List.length_nil | (simp only [List.length_cons, List.length_nil, Nat.zero_add, Nat.reduceAdd] <;> rfl)) (by simp only [na, nb, nc, nd, nf, ng, nh, ni, nj, nk] <;> rfl)) ?_
  refine rts _ rfl (storeAN rfl sz57_u9c lz (ls rfl (ls rfl lz)) (ones_cons (one_pl rfl) (ones_cons (one_sl _ _ _ _) ones_nil)) rfl rfl (Nat.le_of_ble_eq_true rfl) (List.cons_ne_nil _ _) (bnd_cons (pl_bnd _ _ _) (bnd_cons (sl_b kb_Lin) bnd_nil)) (by simp only [na, nb, nc, nd, nf, ng, nh, ni, nj, nk] <;> rfl) (by simp only [na, nb, nc, nd, nf, ng, nh, ni, nj, nk] <;> rfl)) ?_
  refine rts _ rfl (opD_assign (lx (ls rfl lz))) ?_
  refine .nil ?_
  refine aw_keep [(1, _), (2, _)] ⟨lg (ls rfl (lx lz)), lg lz, trivial⟩ ?_
  refine aw_seq ?_
  refine aw_region (by decide) ?_
  refine rts _ rfl (opD_load_aggX (qs := [_, _]) ag57_u9c sz57_u9c oz (loc_getN rfl rfl) (Nat.le_of_ble_eq_true rfl) rfl) ?_
  replace h0 := bnd_some h0
  obtain ⟨x_2, hx_2, h0⟩ := h0
  refine rts _ rfl (opD_pure ht37_u9c (c_lenc hx_2) ⟨(le_of_eq lz).trans (agg_le ⟨(Pd.le_refl _), (Pd.le_refl _), trivial⟩), trivial⟩) ?_
  refine rts _ rfl (opD_move lz) ?_
  refine rts _ rfl (opD_extract lz rfl) ?_
  refine rts _ rfl (opD_extract (ls rfl lz) rfl) ?_
  refine rts _ rfl (opD_assign (ls rfl lz)) ?_
  refine rts _ rfl (opD_assign (ls rfl lz)) ?_
  refine .nil ?_
  refine aw_keep [(2, _), (3, _), (4, _)] ⟨lg (ls rfl (ls rfl (ls rfl (ls rfl (ls rfl (ls rfl (ls rfl (os rfl oz)))))))), lg (ls rfl lz), lg lz, trivial⟩ ?_
  refine aw_seq ?_
  refine aw_region (by decide) ?_
  refine rts _ rfl (opD_move (os rfl oz)) ?_
  replace h0 := bnd_some h0
  obtain ⟨x_3, hx_3, h0⟩ := h0
  refine rts _ rfl (opD_pure ht38_u9c (c_ldec hx_3) ⟨le_of_eq lz, trivial⟩) ?_
  refine rts _ rfl (opD_move lz) ?_
  refine rts _ rfl (opD_extract lz rfl) ?_
  refine rts _ rfl (opD_extract (ls rfl lz) rfl) ?_
  refine rts _ rfl (allocN rfl zt57_u9c (by first | exact List.length_nil | (simp only [List.length_cons, List.length_nil, Nat.zero_add, Nat.reduceAdd] <;> rfl)) (by simp only [na, nb, nc, nd, nf, ng, nh, ni, nj, nk] <;> rfl)) ?_
  refine rts _ rfl (storeAN rfl sz57_u9c lz (ls rfl (ls rfl lz)) (ones_cons (one_pl rfl) (ones_cons (one_sl _ _ _ _) ones_nil)) rfl rfl (Nat.le_of_ble_eq_true rfl) (List.cons_ne_nil _ _) (bnd_cons (pl_bnd _ _ _) (bnd_cons (sl_b kb_Lin) bnd_nil)) (by simp only [na, nb, nc, nd, nf, ng, nh, ni, nj, nk] <;> rfl) (by simp only [na, nb, nc, nd, nf, ng, nh, ni, nj, nk] <;> rfl)) ?_
  refine rts _ rfl (opD_assign (lx (ls rfl lz))) ?_
  refine .nil ?_
  refine aw_keep [(2, _), (3, _), (4, _), (5, _), (6, _)] ⟨lg (ls rfl (lx (ls rfl (ls rfl (ls rfl (ls rfl (ls rfl (ls rfl oz)))))))), lg (ls rfl (lx (ls rfl (ls rfl (ls rfl (ls rfl (ls rfl (ls rfl (os rfl oz))))))))), lg (ls rfl (lx (ls rfl (ls rfl (ls rfl (ls rfl (ls rfl (ls rfl (os rfl (os rfl oz)))))))))), lg (ls rfl (lx lz)), lg lz, trivial⟩ ?_
  refine aw_seq ?_
  refine aw_region (by decide) ?_
  replace h0 := bnd_some h0
  obtain ⟨x_4, hx_4, h0⟩ := h0
  refine rts _ rfl (opD_pure ht38_u9c (c_ldec hx_4) ⟨(le_of_eq (ev_const _ _)).trans (le_nil rfl), trivial⟩) ?_
  refine rts _ rfl (opD_move lz) ?_
  refine rts _ rfl (opD_extract lz rfl) ?_
  refine rts _ rfl (opD_extract (ls rfl lz) rfl) ?_
  refine rts _ rfl (allocN rfl zt57_u9c (by first | exact List.length_nil | (simp only [List.length_cons, List.length_nil, Nat.zero_add, Nat.reduceAdd] <;> rfl)) (by simp only [na, nb, nc, nd, nf, ng, nh, ni, nj, nk] <;> rfl)) ?_
  refine rts _ rfl (storeAN rfl sz57_u9c lz (ls rfl (ls rfl lz)) (ones_cons (one_pl rfl) (ones_cons (one_sl _ _ _ _) ones_nil)) rfl rfl (Nat.le_of_ble_eq_true rfl) (List.cons_ne_nil _ _) (bnd_cons (pl_bnd _ _ _) (bnd_cons (sl_b kb_Lin) bnd_nil)) (by simp only [na, nb, nc, nd, nf, ng, nh, ni, nj, nk] <;> rfl) (by simp only [na, nb, nc, nd, nf, ng, nh, ni, nj, nk] <;> rfl)) ?_
  refine rts _ rfl (opD_assign (lx (ls rfl lz))) ?_
  refine .nil ?_
  refine aw_keep [(2, _), (3, _), (4, _), (5, _), (6, _), (8, _)] ⟨lg (ls rfl (lx (ls rfl (ls rfl (ls rfl (ls rfl (ls rfl oz))))))), lg (ls rfl (lx (ls rfl (ls rfl (ls rfl (ls rfl (ls rfl (os rfl oz)))))))), lg (ls rfl (lx (ls rfl (ls rfl (ls rfl (ls rfl (ls rfl (os rfl (os rfl oz))))))))), lg (ls rfl (lx (ls rfl (ls rfl (ls rfl (ls rfl (ls rfl (os rfl (os rfl (os rfl oz)))))))))), lg (ls rfl (lx (ls rfl (ls rfl (ls rfl (ls rfl (ls rfl (os rfl (os rfl (os rfl (os rfl oz))))))))))), lg lz, trivial⟩ ?_
  refine aw_seq ?_
  refine aw_region (by decide) ?_
  refine rts _ rfl (opD_move oz) ?_
  refine rts _ rfl (opD_bin lz (ev_const _ _) (fun w => errV_geql _ w _) (fun w => errV_eql _ w)) ?_
  refine rts _ rfl (opD_move lz) ?_
  refine rtg _ rfl lz (fun hg5_3_1 => opD_move (ls rfl (ls rfl (ls rfl (os rfl (os rfl oz)))))) ?_
  refine rtg _ rfl (ls rfl lz) (fun hg5_4_2 => opD_bin (lz.trans (pif_pos hg5_4_2)) (ev_const _ _) (fun w => errV_geql _ w _) (fun w => errV_eql _ w)) ?_
  refine rts _ rfl (opD_and (ls rfl (ls rfl lz)) lz) ?_
  refine rts _ rfl (opD_move lz) ?_
  refine rtg _ rfl lz (fun hg5_7_3 => opD_move (ls rfl (ls rfl (ls rfl (ls rfl (ls rfl (ls rfl (ls rfl (os rfl (os rfl (os rfl (os rfl oz)))))))))))) ?_
  refine rtg _ rfl (ls rfl lz) (fun hg5_8_4 => opD_bin (lz.trans (pif_pos hg5_8_4)) (ev_const _ _) (fun w => errV_geql _ w _) (fun w => errV_eql _ w)) ?_
  refine rts _ rfl (opD_and (ls rfl (ls rfl lz)) lz) ?_
  refine rts _ rfl (opD_move lz) ?_
  refine rtg _ rfl lz (fun hg5_11_5 => opD_fieldAddr fo57_1_u9c (ls rfl (ls rfl (ls rfl (ls rfl (ls rfl (ls rfl (ls rfl (ls rfl (ls rfl (ls rfl (ls rfl (os rfl (os rfl (os rfl oz))))))))))))))) ?_
  refine rtg _ rfl (ls rfl lz) (fun hg5_12_6 => opD_load_one ag55_u9c (lz.trans (pif_pos hg5_12_6)) (loc_getN rfl rfl) rfl) ?_
  refine rtg _ rfl (ls rfl (ls rfl lz)) (fun hg5_13_7 => opD_len_sl Go.Proofs.Tryd.underlying55 (lz.trans (pif_pos hg5_13_7))) ?_
  refine rtg _ rfl (ls rfl (ls rfl (ls rfl lz))) (fun hg5_14_8 => opD_eql (lz.trans (pif_pos hg5_14_8)) (ev_const _ _)) ?_
  refine rts _ rfl (opD_and (ls rfl (ls rfl (ls rfl (ls rfl lz)))) lz) ?_
  refine rts _ rfl (opD_move lz) ?_
  refine rtg _ rfl lz (fun hg5_17_9 => opD_fieldAddr fo57_1_u9c (ls rfl (ls rfl (ls rfl (ls rfl (ls rfl (ls rfl (ls rfl (ls rfl (ls rfl (ls rfl (ls rfl (ls rfl (ls rfl (ls rfl (ls rfl (ls rfl (ls rfl (os rfl (os rfl (os rfl oz))))))))))))))))))))) ?_
  refine rtg _ rfl (ls rfl lz) (fun hg5_18_10 => opD_load_one ag55_u9c (lz.trans (pif_pos hg5_18_10)) (loc_getN rfl rfl) rfl) ?_
  replace h0 := grd_some h0
  obtain ⟨hg_12, h0⟩ := h0
  refine rtg _ rfl (ls rfl (ls rfl lz)) (fun hg5_19_11 => opD_indexAddr_sl (i := (0 : Int).toNat) Go.Proofs.Tryd.underlying55 sz63_u9c (lz.trans (pif_pos hg5_19_11)) (ev_const _ _) (hg_12 hg5_19_11).eq (hg_12 hg5_19_11).2) ?_
  refine rtg _ rfl (ls rfl (ls rfl (ls rfl lz))) (fun hg5_20_13 => opD_load_el_aggX (qs := [_, _, _, _, _]) ag63_u9c sz63_u9c (lz.trans (pif_pos hg5_20_13)) (at_getD default (hg_12 hg5_20_13).2) (Nat.le_of_ble_eq_true rfl) rfl) ?_
  refine rtg _ rfl (ls rfl (ls rfl (ls rfl (ls rfl lz)))) (fun hg5_21_14 => opD_build_struct (rs := [_, _, _, _, _]) Go.Proofs.Tryd.underlying63 pt63_u9c zt63_u9c (parts_cons (cells1 (ev_const _ _) (one_pl rfl)) (parts_cons (cells1 (ev_const _ _) (one_pl rfl)) (parts_cons (cells1 (ev_const _ _) (one_pl rfl)) (parts_cons (cells1 (ev_const _ _) (one_pl rfl)) (parts_cons (cells1 (ev_const _ _) (one_pl rfl)) parts_nil))))) (fill_step rfl (by rfl) (by rfl) (by simp only [na, nb, nl, nc, nd, nh, ni, nj, nk, nm, Nat.reduceAdd] <;> rfl) (fill_step rfl (by rfl) (by rfl) (by simp only [na, nb, nl, nc, nd, nh, ni, nj, nk, nm, Nat.reduceAdd] <;> rfl) (fill_step rfl (by rfl) (by rfl) (by simp only [na, nb, nl, nc, nd, nh, ni, nj, nk, nm, Nat.reduceAdd] <;> rfl) (fill_step rfl (by rfl) (by rfl) (by simp only [na, nb, nl, nc, nd, nh, ni, nj, nk, nm, Nat.reduceAdd] <;> rfl) (fill_step rfl (by rfl) (by rfl) (by simp only [na, nb, nl, nc, nd, nh, ni, nj, nk, nm, Nat.reduceAdd] <;> rfl) fill_nil)))))) ?_
  refine rtg _ rfl (ls rfl (ls rfl (ls rfl (ls rfl (ls rfl lz))))) (fun hg5_22_15 => opD_binA [.int .u64 ((x_3.1.L.getD (0 : Int).toNat default).Seq), .int .u64 ((x_3.1.L.getD (0 : Int).toNat default).Who), .int .u8 ((x_3.1.L.getD (0 : Int).toNat default).What), .int .u16 ((x_3.1.L.getD (0 : Int).toNat default).Code), .string ((x_3.1.L.getD (0 : Int).toNat default).Key)] [.int .u64 1, .int .u64 7, .int .u8 2, .int .u16 12, .string ⟨#[97]⟩] ((ls rfl lz).trans (pif_pos hg5_22_15)) (lz.trans (pif_pos hg5_22_15)) (fun w => (eq_Lin_g _ _ _ _ _ w)) (fun w => (eq_Lin _ _ _ _ _ _ _ _ _ _ w).1)) ?_
  refine rts _ rfl (opD_and (ls rfl (ls rfl (ls rfl (ls rfl (ls rfl (ls rfl lz)))))) lz) ?_
  refine rts _ rfl (opD_move lz) ?_
  refine rtg _ rfl lz (fun hg5_25_16 => opD_move (ls rfl (ls rfl (ls rfl (ls rfl (ls rfl (ls rfl (ls rfl (ls rfl (ls rfl (ls rfl (ls rfl (ls rfl (ls rfl (ls rfl (ls rfl (ls rfl (ls rfl (ls rfl (ls rfl (ls rfl (ls rfl (ls rfl (ls rfl (ls rfl (ls rfl (os rfl (os rfl (os rfl (os rfl (os rfl oz))))))))))))))))))))))))))))))) ?_
  replace h0 := bnd_some h0
  obtain ⟨x_5, hx_5, h0⟩ := h0
  refine rtg _ rfl (ls rfl lz) (fun hg5_26_17 => opD_call ht46_u9c (c_num30 (gif_some hx_5 hg5_26_17) hst) ⟨le_of_eq (lz.trans (pif_pos hg5_26_17)), trivial⟩) ?_
  refine rtg _ rfl (ls rfl (ls rfl lz)) (fun hg5_27_18 => opD_eql (lz.trans (pif_pos hg5_27_18)) (ev_const _ _)) ?_
  refine rts _ rfl (opD_and (ls rfl (ls rfl (ls rfl lz))) lz) ?_
  refine rts _ rfl (opD_move lz) ?_
  refine rtg _ rfl lz (fun hg5_30_19 => opD_move (ls rfl (ls rfl (ls rfl (ls rfl (ls rfl (ls rfl (ls rfl (ls rfl (ls rfl (ls rfl (ls rfl (ls rfl (ls rfl (ls rfl (ls rfl (ls rfl (ls rfl (ls rfl (ls rfl (ls rfl (ls rfl (ls rfl (ls rfl (ls rfl (ls rfl (ls rfl (ls rfl (ls rfl (ls rfl (ls rfl (os rfl oz)))))))))))))))))))))))))))))))) ?_
  refine rtg _ rfl (ls rfl lz) (fun hg5_31_20 => opD_len_sl Go.Proofs.Tryd.underlying23 (lz.trans (pif_pos hg5_31_20))) ?_
  refine rtg _ rfl (ls rfl (ls rfl lz)) (fun hg5_32_21 => opD_eql (lz.trans (pif_pos hg5_32_21)) (ev_const _ _)) ?_
  refine rts _ rfl (opD_and (ls rfl (ls rfl (ls rfl lz))) lz) ?_
  refine rts _ rfl (opD_assign lz) ?_
  refine .nil ?_
  refine aw_keep [(0, _)] ⟨lg lz, trivial⟩ ?_
  refine aw_ret ?_
  obtain rfl := some_of h0
  exact done_ext (.inr rfl) ((res_one rfl (it_tmp oz)).le (Pd.le_refl _)) (pl_bnd _ _ _)

def F_lTells_b0 (fl : Nat) (p0 : Lgr) (t_3 : Int) : Option ((Int) ⊕ ((Bool) ⊕ (Unit))) :=
  ifb (decide (t_3 < (p0.L.length : Int))) (ixb p0.L t_3 fun x_5 => ifb (decide (100 < (x_5.Key.size : Int))) (bnd (F_sure30 fl) fun x_6 => some (.inr (.inl x_6))) (some (.inl (IntKind.i64.wrap (t_3 + 1))))) (some (.inr (.inr ())))
def F_lTells (fl : Nat) (p0 : Lgr) (p1 : Lin) (p2 : (List Int)) : Option (Bool) :=
  ifb (((decide (60 < (p0.L.length : Int))) || (decide (100 < (p1.Key.size : Int)))) || (decide (3000 < (p2.length : Int)))) (bnd (F_sure30 fl) fun x_1 => some x_1) (bnd (lp (F_lTells_b0 fl p0) fl 0) fun z_2 => ocs z_2 (fun qz_2_0 => some qz_2_0) fun z_2_0 => bnd (F_lgive fl p0) fun x_7 => bnd (F_ladd fl x_7 p1) fun x_8 => bnd (F_ladd2 fl p0 p1) fun x_9 => bnd (F_lsince fl x_7 p1.Seq) fun x_10 => bnd (F_lsince2 fl p0 p1.Seq) fun x_11 => bnd (F_lenc fl x_7) fun x_12 => bnd (F_lenc2 fl p0) fun x_13 => bnd (F_ldec fl p2) fun x_14 => bnd (F_ldec2 fl p2) fun x_15 => bnd (gif ((decide (x_8.1.Dropped ≠ x_9.1.Dropped)) == false) (F_lare fl x_8.1.L x_9.1.L)) fun x_16 => bnd (gif (((decide (x_8.1.Dropped ≠ x_9.1.Dropped)) || (!x_16)) == false) (oNumG x_8.2)) fun x_17 => bnd (gif ((((decide (x_8.1.Dropped ≠ x_9.1.Dropped)) || (!x_16)) || (decide (x_17 ≠ x_9.2))) == false) (F_lare fl x_10.1 x_11.1)) fun x_18 => bnd (gif (((((decide (x_8.1.Dropped ≠ x_9.1.Dropped)) || (!x_16)) || (decide (x_17 ≠ x_9.2))) || (!x_18)) == false) (oNumG x_10.2)) fun x_19 => bnd (gif (((((((decide (x_8.1.Dropped ≠ x_9.1.Dropped)) || (!x_16)) || (decide (x_17 ≠ x_9.2))) || (!x_18)) || (decide (x_19 ≠ x_11.2))) || (decide ((strOf x_12.1) ≠ (strOf x_13.1)))) == false) (oNumG x_12.2)) fun x_20 => ifb (((((((decide (x_8.1.Dropped ≠ x_9.1.Dropped)) || (!x_16)) || (decide (x_17 ≠ x_9.2))) || (!x_18)) || (decide (x_19 ≠ x_11.2))) || (decide ((strOf x_12.1) ≠ (strOf x_13.1)))) || (decide (x_20 ≠ x_13.2))) (some false) (bnd (gif ((decide (x_14.1.Dropped = x_15.1.Dropped)) == true) (F_lare fl x_14.1.L x_15.1.L)) fun x_21 => bnd (gif (((decide (x_14.1.Dropped = x_15.1.Dropped)) && x_21) == true) (oNumG x_14.2)) fun x_22 => bnd (gif ((((decide (x_14.1.Dropped = x_15.1.Dropped)) && x_21) && (decide (x_22 = x_15.2))) == true) (F_lcheck fl x_7)) fun x_23 => bnd (gif ((((decide (x_14.1.Dropped = x_15.1.Dropped)) && x_21) && (decide (x_22 = x_15.2))) == true) (F_lmay2 fl p0)) fun x_24 => bnd (gif (((((decide (x_14.1.Dropped = x_15.1.Dropped)) && x_21) && (decide (x_22 = x_15.2))) && (x_23.isNone == x_24)) == true) (F_lare fl x_7.L p0.L)) fun x_25 => bnd (gif ((((((decide (x_14.1.Dropped = x_15.1.Dropped)) && x_21) && (decide (x_22 = x_15.2))) && (x_23.isNone == x_24)) && x_25) == true) (F_sure30 fl)) fun x_26 => some ((((((decide (x_14.1.Dropped = x_15.1.Dropped)) && x_21) && (decide (x_22 = x_15.2))) && (x_23.isNone == x_24)) && x_25) && x_26)))
set_option maxRecDepth 100000 in
set_option maxHeartbeats 2000000 in
theorem c_lTells {fl : Nat} {p0 : Lgr} {p1 : Lin} {p2 : (List Int)} {R : Bool} {s : St} (h0 : F_lTells fl p0 p1 p2 = some R) (hst : StGV s) : AC Go.Proofs.Tryd.prog 7 [agg [pl (.int .u64 p0.Dropped), sl kLin none none p0.L], agg [pl (.int .u64 p1.Seq), pl (.int .u64 p1.Who), pl (.int .u8 p1.What), pl (.int .u16 p1.Code), pl (.string p1.Key)], sl (kI .u8) none none p2] s (pl (.bool R)) s := by
  unfold F_lTells at h0
  refine ac_of_aw s.boxes.length s.fr.length Go.Proofs.Tryd.func7 rfl (by simp [Go.Proofs.Tryd.ntmps7]) ?_
  refine aw_ext0 ?_
  refine aw_keep [(0, _), (1, _), (2, _)] ⟨lg ez, lg (es ez), lg (es (es ez)), trivial⟩ ?_
  refine aw_seq ?_
  refine aw_region (by decide) ?_
  refine rts _ rfl (boxAN rfl oz (bnd_cons (pl_bnd _ _ _) (bnd_cons (sl_b kb_Lin) bnd_nil)) (by first | exact List.length_nil | (simp only [List.length_cons, List.length_nil, Nat.zero_add, Nat.reduceAdd] <;> rfl)) (by simp only [na, nb, nc, nd, nf, ng, nh, ni, nj, nk] <;> rfl)) ?_
  refine rts _ rfl (boxAN rfl (ls rfl (os rfl oz)) (bnd_cons (pl_bnd _ _ _) (bnd_cons (pl_bnd _ _ _) (bnd_cons (pl_bnd _ _ _) (bnd_cons (pl_bnd _ _ _) (bnd_cons (pl_bnd _ _ _) bnd_nil))))) (by first | exact List.length_nil | (simp only [List.length_cons, List.length_nil, Nat.zero_add, Nat.reduceAdd] <;> rfl)) (by simp only [na, nb, nc, nd, nf, ng, nh, ni, nj, nk] <;> rfl)) ?_
  refine rts _ rfl (opD_assign (ev_const _ _)) ?_
  refine .nil ?_
  refine aw_keep [(2, _), (3, _), (4, _)] ⟨lg (ls rfl (ls rfl (ls rfl (os rfl (os rfl oz))))), lg (ls rfl (ls rfl lz)), lg (ls rfl lz), trivial⟩ ?_
  refine aw_seq ?_
  refine aw_seq ?_
  refine aw_region (by decide) ?_
  refine rts _ rfl (opD_fieldAddr fo70_1_u9c (os rfl oz)) ?_
  refine rts _ rfl (opD_load_one ag54_u9c lz (loc_getN rfl rfl) rfl) ?_
  refine rts _ rfl (opD_len_sl Go.Proofs.Tryd.underlying54 lz) ?_
  refine rts _ rfl (opD_gtr lz (ev_const _ _)) ?_
  refine rts _ rfl (opD_move lz) ?_
  refine rtg _ rfl lz (fun hg1_5_1 => opD_fieldAddr fo60_4_u9c (ls rfl (ls rfl (ls rfl (ls rfl (ls rfl (os rfl (os rfl oz)))))))) ?_
  refine rtg _ rfl (ls rfl lz) (fun hg1_6_2 => opD_load_one ag9_u9c (lz.trans (pif_pos hg1_6_2)) (loc_getN rfl rfl) rfl) ?_
  refine rtg _ rfl (ls rfl (ls rfl lz)) (fun hg1_7_3 => opD_len_str Go.Proofs.Tryd.underlying9 (lz.trans (pif_pos hg1_7_3))) ?_
  refine rtg _ rfl (ls rfl (ls rfl (ls rfl lz))) (fun hg1_8_4 => opD_gtr (lz.trans (pif_pos hg1_8_4)) (ev_const _ _)) ?_
  refine rts _ rfl (opD_or (ls rfl (ls rfl (ls rfl (ls rfl lz)))) lz) ?_
  refine rts _ rfl (opD_move lz) ?_
  refine rtg _ rfl lz (fun hg1_11_5 => opD_move (ls rfl (ls rfl (ls rfl (ls rfl (ls rfl (ls rfl (ls rfl (ls rfl (ls rfl (ls rfl (ls rfl oz)))))))))))) ?_
  refine rtg _ rfl (ls rfl lz) (fun hg1_12_6 => opD_len_sl Go.Proofs.Tryd.underlying23 (lz.trans (pif_pos hg1_12_6))) ?_
  refine rtg _ rfl (ls rfl (ls rfl lz)) (fun hg1_13_7 => opD_gtr (lz.trans (pif_pos hg1_13_7)) (ev_const _ _)) ?_
  refine rts _ rfl (opD_or (ls rfl (ls rfl (ls rfl lz))) lz) ?_
  refine .nil ?_
  refine aw_keep [(2, _), (3, _), (4, _), (39, _)] ⟨lg (ls rfl (ls rfl (ls rfl (ls rfl (ls rfl (ls rfl (ls rfl (ls rfl (ls rfl (ls rfl (ls rfl (ls rfl (ls rfl (ls rfl (ls rfl oz))))))))))))))), lg (ls rfl (ls rfl (ls rfl (ls rfl (ls rfl (ls rfl (ls rfl (ls rfl (ls rfl (ls rfl (ls rfl (ls rfl (ls rfl (ls rfl (ls rfl (os rfl oz)))))))))))))))), lg (ls rfl (ls rfl (ls rfl (ls rfl (ls rfl (ls rfl (ls rfl (ls rfl (ls rfl (ls rfl (ls rfl (ls rfl (ls rfl (ls rfl (ls rfl (os rfl (os rfl oz))))))))))))))))), lg lz, trivial⟩ ?_
  refine aw_cond _ (os rfl (os rfl (os rfl oz))) (fun hc => ?_) (fun hc => ?_)
  · skip
    replace h0 := ifb_t h0 hc
    clear hc
    refine aw_seq ?_
    refine aw_region (by decide) ?_
    replace h0 := bnd_some h0
    obtain ⟨x_1, hx_1, h0⟩ := h0
    refine rts _ rfl (opD_call ht39_u9c (c_sure30 hx_1 hst) trivial) ?_
    refine rts _ rfl (opD_assign lz) ?_
    refine .nil ?_
    refine aw_keep [(6, _)] ⟨lg lz, trivial⟩ ?_
    refine aw_ret ?_
    obtain rfl := some_of h0
    exact done_ext (.inr rfl) ((res_one rfl (it_tmp oz)).le (Pd.le_refl _)) (pl_bnd _ _ _)
  · skip
    replace h0 := ifb_f h0 hc
    clear hc
    refine aw_skip ?_
    refine aw_keep [(2, _), (3, _), (4, _)] ⟨lg oz, lg (os rfl oz), lg (os rfl (os rfl oz)), trivial⟩ ?_
    refine aw_seq ?_
    refine aw_seq ?_
    refine aw_region (by decide) ?_
    refine rts _ rfl (opD_assign (ev_const _ _)) ?_
    refine .nil ?_
    refine aw_keep [(2, _), (3, _), (4, _), (7, _)] ⟨lg (ls rfl oz), lg (ls rfl (os rfl oz)), lg (ls rfl (os rfl (os rfl oz))), lg lz, trivial⟩ ?_
    replace h0 := bnd_some h0
    obtain ⟨z_2, hz_2, h0⟩ := h0
    refine aw_mid (fun e st => ∃ v : Unit, Holds e [(2, sl (kI .u8) none none p2), (3, ptr (s.boxes.length + 0) 0), (4, ptr (s.boxes.length + 1) 0)] ∧ st = s.ext [⟨70, [pl (.int .u64 p0.Dropped), sl kLin none none p0.L]⟩, ⟨60, [pl (.int .u64 p1.Seq), pl (.int .u64 p1.Who), pl (.int .u8 p1.What), pl (.int .u16 p1.Code), pl (.string p1.Key)]⟩] [] ∧ (.inr v) = z_2) ?_ ?_
    · skip
      refine aw_wkN rfl 2 0 rfl rfl ?_
      refine aw_block ?_
      refine aw_loop (fun n e st => ∃ v : Int, Holds e [(2, sl (kI .u8) none none p2), (3, ptr (s.boxes.length + 0) 0), (4, ptr (s.boxes.length + 1) 0), (7, pl (.int .i64 v))] ∧ st = s.ext [⟨70, [pl (.int .u64 p0.Dropped), sl kLin none none p0.L]⟩, ⟨60, [pl (.int .u64 p1.Seq), pl (.int .u64 p1.Who), pl (.int .u8 p1.What), pl (.int .u16 p1.Code), pl (.string p1.Key)]⟩] [] ∧ lp (F_lTells_b0 fl p0) n v = some z_2) fl ⟨0, ⟨le_of_eq (eg oz), le_of_eq (eg (os rfl oz)), le_of_eq (eg (os rfl (os rfl oz))), le_of_eq (eg (os rfl (os rfl (os rfl oz)))), trivial⟩, rfl, hz_2⟩ ?_
      rintro n e st ⟨t_3, hH, rfl, hz_2⟩
      replace hz_2 := lp_some hz_2
      obtain ⟨m_z_4, z_4, rfl, hz_4, hz_2⟩ := hz_2
      unfold F_lTells_b0 at hz_4
      refine aw_keep _ hH ?_
      refine aw_wkN rfl 2 0 rfl rfl ?_
      refine aw_seq ?_
      refine aw_seq ?_
      refine aw_region (by decide) ?_
      refine rts _ rfl (opD_move (os rfl (os rfl (os rfl oz)))) ?_
      refine rts _ rfl (opD_fieldAddr fo70_1_u9c (ls rfl (os rfl oz))) ?_
      refine rts _ rfl (opD_load_one ag54_u9c lz (loc_getN rfl rfl) rfl) ?_
      refine rts _ rfl (opD_len_sl Go.Proofs.Tryd.underlying54 lz) ?_
      refine rts _ rfl (opD_lss (ls rfl (ls rfl (ls rfl lz))) lz) ?_
      refine .nil ?_
      refine aw_keep [(2, _), (3, _), (4, _), (7, _), (45, _)] ⟨lg (ls rfl (ls rfl (ls rfl (ls rfl (ls rfl oz))))), lg (ls rfl (ls rfl (ls rfl (ls rfl (ls rfl (os rfl oz)))))), lg (ls rfl (ls rfl (ls rfl (ls rfl (ls rfl (os rfl (os rfl oz))))))), lg (ls rfl (ls rfl (ls rfl (ls rfl (ls rfl (os rfl (os rfl (os rfl oz)))))))), lg lz, trivial⟩ ?_
      refine aw_cond _ (os rfl (os rfl (os rfl (os rfl oz)))) (fun hc => ?_) (fun hc => ?_)
      · skip
        replace hz_4 := ifb_t hz_4 hc
        clear hc
        refine aw_skip ?_
        refine aw_keep [(2, _), (3, _), (4, _), (7, _)] ⟨lg oz, lg (os rfl oz), lg (os rfl (os rfl oz)), lg (os rfl (os rfl (os rfl oz))), trivial⟩ ?_
        refine aw_seq ?_
        refine aw_block ?_
        refine aw_seq ?_
        refine aw_region (by decide) ?_
        refine rts _ rfl (opD_fieldAddr fo70_1_u9c (os rfl oz)) ?_
        refine rts _ rfl (opD_load_one ag54_u9c lz (loc_getN rfl rfl) rfl) ?_
        refine rts _ rfl (opD_move (ls rfl (ls rfl (os rfl (os rfl (os rfl oz)))))) ?_
        replace hz_4 := ixb_some hz_4
        obtain ⟨x_5, hx_5, hbx_5, hz_4⟩ := hz_4
        refine rts _ rfl (opD_indexAddr_sl (i := t_3.toNat) Go.Proofs.Tryd.underlying54 sz60_u9c (ls rfl lz) lz hbx_5.2.2 hbx_5.2.1) ?_
        refine rts _ rfl (opD_fieldAddr_el fo60_4_u9c lz) ?_
        refine rts _ rfl (opD_load_el_one ag9_u9c lz hx_5 rfl) ?_
        refine rts _ rfl (opD_len_str Go.Proofs.Tryd.underlying9 lz) ?_
        refine rts _ rfl (opD_gtr lz (ev_const _ _)) ?_
        refine .nil ?_
        refine aw_keep [(2, _), (3, _), (4, _), (7, _), (55, _)] ⟨lg (ls rfl (ls rfl (ls rfl (ls rfl (ls rfl (ls rfl (ls rfl (ls rfl oz)))))))), lg (ls rfl (ls rfl (ls rfl (ls rfl (ls rfl (ls rfl (ls rfl (ls rfl (os rfl oz))))))))), lg (ls rfl (ls rfl (ls rfl (ls rfl (ls rfl (ls rfl (ls rfl (ls rfl (os rfl (os rfl oz)))))))))), lg (ls rfl (ls rfl (ls rfl (ls rfl (ls rfl (ls rfl (ls rfl (ls rfl (os rfl (os rfl (os rfl oz))))))))))), lg lz, trivial⟩ ?_
        refine aw_cond _ (os rfl (os rfl (os rfl (os rfl oz)))) (fun hc => ?_) (fun hc => ?_)
        · skip
          replace hz_4 := ifb_t hz_4 hc
          clear hc
          refine aw_seq ?_
          refine aw_region (by decide) ?_
          replace hz_4 := bnd_some hz_4
          obtain ⟨x_6, hx_6, hz_4⟩ := hz_4
          refine rts _ rfl (opD_call ht39_u9c (c_sure30 hx_6 hst) trivial) ?_
          refine rts _ rfl (opD_assign lz) ?_
          refine .nil ?_
          refine aw_keep [(6, _)] ⟨lg lz, trivial⟩ ?_
          refine aw_ret ?_
          obtain rfl := some_of hz_4
          replace hz_2 := ocs_r hz_2
          obtain rfl := some_of hz_2
          replace h0 := ocs_l h0
          refine wk_no ?_
          refine wk_no ?_
          obtain rfl := some_of h0
          exact done_ext (.inr rfl) ((res_one rfl (it_tmp oz)).le (Pd.le_refl _)) (pl_bnd _ _ _)
        · skip
          replace hz_4 := ifb_f hz_4 hc
          clear hc
          refine aw_skip ?_
          refine aw_keep [(2, _), (3, _), (4, _), (7, _)] ⟨lg oz, lg (os rfl oz), lg (os rfl (os rfl oz)), lg (os rfl (os rfl (os rfl oz))), trivial⟩ ?_
          refine aw_region (by decide) ?_
          refine rts _ rfl (opD_move (os rfl (os rfl (os rfl oz)))) ?_
          refine rts _ rfl (opD_add lz (ev_const _ _) rfl) ?_
          refine rts _ rfl (opD_assign lz) ?_
          refine .nil ?_
          obtain rfl := some_of hz_4
          replace hz_2 := ocs_l hz_2
          refine wk_yesN rfl (l := [(2, sl (kI .u8) none none p2), (3, ptr (s.boxes.length + 0) 0), (4, ptr (s.boxes.length + 1) 0), (7, pl (.int .i64 (IntKind.i64.wrap (t_3 + 1))))]) (bs' := [⟨70, [pl (.int .u64 p0.Dropped), sl kLin none none p0.L]⟩, ⟨60, [pl (.int .u64 p1.Seq), pl (.int .u64 p1.Who), pl (.int .u8 p1.What), pl (.int .u16 p1.Code), pl (.string p1.Key)]⟩]) ⟨le_of_eq (eg (ls rfl (ls rfl (ls rfl oz)))), le_of_eq (eg (ls rfl (ls rfl (ls rfl (os rfl oz))))), le_of_eq (eg (ls rfl (ls rfl (ls rfl (os rfl (os rfl oz)))))), le_of_eq (eg lz), trivial⟩ (bnd_cons (sl_b (kb_I _)) (bnd_cons (ptr_bnd _ (by first | omega | (simp only [List.length_append, List.length_cons, List.length_nil]; omega))) (bnd_cons (ptr_bnd _ (by first | omega | (simp only [List.length_append, List.length_cons, List.length_nil]; omega))) (bnd_cons (pl_bnd _ _ _) bnd_nil)))) (Nat.le_of_ble_eq_true rfl) (by simp only [na, nb, nc, nd, nf, ng, nh, ni, nj, nk] <;> rfl) (bxle_same (bxle_same bxle_nil)) rfl (by simp only [na, nb, nc, nd, nf, ng, nh, ni, nj, nk] <;> rfl) (bl_cons (bnd_cons (pl_bnd _ _ _) (bnd_cons (sl_b kb_Lin) bnd_nil)) (bl_cons (bnd_cons (pl_bnd _ _ _) (bnd_cons (pl_bnd _ _ _) (bnd_cons (pl_bnd _ _ _) (bnd_cons (pl_bnd _ _ _) (bnd_cons (pl_bnd _ _ _) bnd_nil))))) bl_nil)) ?_
          exact ⟨m_z_4, Nat.lt_succ_self _, IntKind.i64.wrap (t_3 + 1), ⟨le_of_eq (eg oz), le_of_eq (eg (os rfl oz)), le_of_eq (eg (os rfl (os rfl oz))), le_of_eq (eg (os rfl (os rfl (os rfl oz)))), trivial⟩, rfl, hz_2⟩
      · skip
        replace hz_4 := ifb_f hz_4 hc
        clear hc
        refine aw_exit ?_
        obtain rfl := some_of hz_4
        replace hz_2 := ocs_r hz_2
        refine wk_no ?_
        refine wk_yesN rfl (l := [(2, sl (kI .u8) none none p2), (3, ptr (s.boxes.length + 0) 0), (4, ptr (s.boxes.length + 1) 0)]) (bs' := [⟨70, [pl (.int .u64 p0.Dropped), sl kLin none none p0.L]⟩, ⟨60, [pl (.int .u64 p1.Seq), pl (.int .u64 p1.Who), pl (.int .u8 p1.What), pl (.int .u16 p1.Code), pl (.string p1.Key)]⟩]) ⟨le_of_eq (eg oz), le_of_eq (eg (os rfl oz)), le_of_eq (eg (os rfl (os rfl oz))), trivial⟩ (bnd_cons (sl_b (kb_I _)) (bnd_cons (ptr_bnd _ (by first | omega | (simp only [List.length_append, List.length_cons, List.length_nil]; omega))) (bnd_cons (ptr_bnd _ (by first | omega | (simp only [List.length_append, List.length_cons, List.length_nil]; omega))) bnd_nil))) (Nat.le_of_ble_eq_true rfl) (by simp only [na, nb, nc, nd, nf, ng, nh, ni, nj, nk] <;> rfl) (bxle_same (bxle_same bxle_nil)) rfl (by simp only [na, nb, nc, nd, nf, ng, nh, ni, nj, nk] <;> rfl) (bl_cons (bnd_cons (pl_bnd _ _ _) (bnd_cons (sl_b kb_Lin) bnd_nil)) (bl_cons (bnd_cons (pl_bnd _ _ _) (bnd_cons (pl_bnd _ _ _) (bnd_cons (pl_bnd _ _ _) (bnd_cons (pl_bnd _ _ _) (bnd_cons (pl_bnd _ _ _) bnd_nil))))) bl_nil)) ?_
        exact ⟨(), ⟨le_of_eq (eg oz), le_of_eq (eg (os rfl oz)), le_of_eq (eg (os rfl (os rfl oz))), trivial⟩, rfl, some_of hz_2⟩
    · rintro e st ⟨vz_2, hH, rfl, rfl⟩
      refine aw_keep _ hH ?_
      replace h0 := ocs_r h0
      refine aw_keep [(2, _), (3, _), (4, _)] ⟨lg oz, lg (os rfl oz), lg (os rfl (os rfl oz)), trivial⟩ ?_
      refine aw_seq ?_
      refine aw_region (by decide) ?_
      refine rts _ rfl (opD_load_aggX (qs := [_, _]) ag70_u9c sz70_u9c (os rfl oz) (loc_getN rfl rfl) (Nat.le_of_ble_eq_true rfl) rfl) ?_
      replace h0 := bnd_some h0
      obtain ⟨x_7, hx_7, h0⟩ := h0
      refine rts _ rfl (opD_pure ht40_u9c (c_lgive hx_7) ⟨(le_of_eq lz).trans (agg_le ⟨(Pd.le_refl _), (Pd.le_refl _), trivial⟩), trivial⟩) ?_
      refine rts _ rfl (allocN rfl zt57_u9c (by first | exact List.length_nil | (simp only [List.length_cons, List.length_nil, Nat.zero_add, Nat.reduceAdd] <;> rfl)) (by simp only [na, nb, nc, nd, nf, ng, nh, ni, nj, nk] <;> rfl)) ?_
      refine rts _ rfl (storeAN rfl sz57_u9c lz (ls rfl lz) (ones_cons (one_pl rfl) (ones_cons (one_sl _ _ _ _) ones_nil)) rfl rfl (Nat.le_of_ble_eq_true rfl) (List.cons_ne_nil _ _) (bnd_cons (pl_bnd _ _ _) (bnd_cons (sl_b kb_Lin) bnd_nil)) (by simp only [na, nb, nc, nd, nf, ng, nh, ni, nj, nk] <;> rfl) (by simp only [na, nb, nc, nd, nf, ng, nh, ni, nj, nk] <;> rfl)) ?_
      refine .nil ?_
      refine aw_keep [(2, _), (3, _), (4, _), (8, _)] ⟨lg (lx (ls rfl (ls rfl (ls rfl oz)))), lg (lx (ls rfl (ls rfl (ls rfl (os rfl oz))))), lg (lx (ls rfl (ls rfl (ls rfl (os rfl (os rfl oz)))))), lg (lx lz), trivial⟩ ?_
      refine aw_seq ?_
      refine aw_region (by decide) ?_
      refine rts _ rfl (opD_load_aggX (qs := [_, _]) ag57_u9c sz57_u9c (os rfl (os rfl (os rfl oz))) (loc_getN rfl rfl) (Nat.le_of_ble_eq_true rfl) rfl) ?_
      refine rts _ rfl (opD_load_aggX (qs := [_, _, _, _, _]) ag60_u9c sz60_u9c (ls rfl (os rfl (os rfl oz))) (loc_getN rfl rfl) (Nat.le_of_ble_eq_true rfl) rfl) ?_
      replace h0 := bnd_some h0
      obtain ⟨x_8, hx_8, h0⟩ := h0
      refine rts _ rfl (opD_pure ht35_u9c (c_ladd hx_8) ⟨(le_of_eq (ls rfl lz)).trans (agg_le ⟨(Pd.le_refl _), (Pd.le_refl _), trivial⟩), (le_of_eq lz).trans (agg_le ⟨(Pd.le_refl _), (Pd.le_refl _), (Pd.le_refl _), (Pd.le_refl _), (Pd.le_refl _), trivial⟩), trivial⟩) ?_
      refine rts _ rfl (opD_move lz) ?_
      refine rts _ rfl (opD_extract lz rfl) ?_
      refine rts _ rfl (opD_extract (ls rfl lz) rfl) ?_
      refine rts _ rfl (allocN rfl zt57_u9c (by first | exact List.length_nil | (simp only [List.length_cons, List.length_nil, Nat.zero_add, Nat.reduceAdd] <;> rfl)) (by simp only [na, nb, nc, nd, nf, ng, nh, ni, nj, nk] <;> rfl)) ?_
      refine rts _ rfl (storeAN rfl sz57_u9c lz (ls rfl (ls rfl lz)) (ones_cons (one_pl rfl) (ones_cons (one_sl _ _ _ _) ones_nil)) rfl rfl (Nat.le_of_ble_eq_true rfl) (List.cons_ne_nil _ _) (bnd_cons (pl_bnd _ _ _) (bnd_cons (sl_b kb_Lin) bnd_nil)) (by simp only [na, nb, nc, nd, nf, ng, nh, ni, nj, nk] <;> rfl) (by simp only [na, nb, nc, nd, nf, ng, nh, ni, nj, nk] <;> rfl)) ?_
      refine rts _ rfl (opD_assign (lx (ls rfl lz))) ?_
      refine .nil ?_
      refine aw_keep [(2, _), (3, _), (4, _), (8, _), (9, _), (10, _)] ⟨lg (ls rfl (lx (ls rfl (ls rfl (ls rfl (ls rfl (ls rfl (ls rfl (ls rfl oz))))))))), lg (ls rfl (lx (ls rfl (ls rfl (ls rfl (ls rfl (ls rfl (ls rfl (ls rfl (os rfl oz)))))))))), lg (ls rfl (lx (ls rfl (ls rfl (ls rfl (ls rfl (ls rfl (ls rfl (ls rfl (os rfl (os rfl oz))))))))))), lg (ls rfl (lx (ls rfl (ls rfl (ls rfl (ls rfl (ls rfl (ls rfl (ls rfl (os rfl (os rfl (os rfl oz)))))))))))), lg (ls rfl (lx lz)), lg lz, trivial⟩ ?_
      refine aw_seq ?_
      refine aw_region (by decide) ?_
      refine rts _ rfl (opD_load_aggX (qs := [_, _]) ag70_u9c sz70_u9c (os rfl oz) (loc_getN rfl rfl) (Nat.le_of_ble_eq_true rfl) rfl) ?_
      refine rts _ rfl (opD_load_aggX (qs := [_, _, _, _, _]) ag60_u9c sz60_u9c (ls rfl (os rfl (os rfl oz))) (loc_getN rfl rfl) (Nat.le_of_ble_eq_true rfl) rfl) ?_
      replace h0 := bnd_some h0
      obtain ⟨x_9, hx_9, h0⟩ := h0
      refine rts _ rfl (opD_pure ht41_u9c (c_ladd2 hx_9) ⟨(le_of_eq (ls rfl lz)).trans (agg_le ⟨(Pd.le_refl _), (Pd.le_refl _), trivial⟩), (le_of_eq lz).trans (agg_le ⟨(Pd.le_refl _), (Pd.le_refl _), (Pd.le_refl _), (Pd.le_refl _), (Pd.le_refl _), trivial⟩), trivial⟩) ?_
      refine rts _ rfl (opD_move lz) ?_
      refine rts _ rfl (opD_extract lz rfl) ?_
      refine rts _ rfl (opD_extract (ls rfl lz) rfl) ?_
      refine rts _ rfl (allocN rfl zt70_u9c (by first | exact List.length_nil | (simp only [List.length_cons, List.length_nil, Nat.zero_add, Nat.reduceAdd] <;> rfl)) (by simp only [na, nb, nc, nd, nf, ng, nh, ni, nj, nk] <;> rfl)) ?_
      refine rts _ rfl (storeAN rfl sz70_u9c lz (ls rfl (ls rfl lz)) (ones_cons (one_pl rfl) (ones_cons (one_sl _ _ _ _) ones_nil)) rfl rfl (Nat.le_of_ble_eq_true rfl) (List.cons_ne_nil _ _) (bnd_cons (pl_bnd _ _ _) (bnd_cons (sl_b kb_Lin) bnd_nil)) (by simp only [na, nb, nc, nd, nf, ng, nh, ni, nj, nk] <;> rfl) (by simp only [na, nb, nc, nd, nf, ng, nh, ni, nj, nk] <;> rfl)) ?_
      refine rts _ rfl (opD_assign (lx (ls rfl lz))) ?_
      refine .nil ?_
      refine aw_keep [(2, _), (3, _), (4, _), (8, _), (9, _), (10, _), (11, _), (12, _)] ⟨lg (ls rfl (lx (ls rfl (ls rfl (ls rfl (ls rfl (ls rfl (ls rfl (ls rfl oz))))))))), lg (ls rfl (lx (ls rfl (ls rfl (ls rfl (ls rfl (ls rfl (ls rfl (ls rfl (os rfl oz)))))))))), lg (ls rfl (lx (ls rfl (ls rfl (ls rfl (ls rfl (ls rfl (ls rfl (ls rfl (os rfl (os rfl oz))))))))))), lg (ls rfl (lx (ls rfl (ls rfl (ls rfl (ls rfl (ls rfl (ls rfl (ls rfl (os rfl (os rfl (os rfl oz)))))))))))), lg (ls rfl (lx (ls rfl (ls rfl (ls rfl (ls rfl (ls rfl (ls rfl (ls rfl (os rfl (os rfl (os rfl (os rfl oz))))))))))))), lg (ls rfl (lx (ls rfl (ls rfl (ls rfl (ls rfl (ls rfl (ls rfl (ls rfl (os rfl (os rfl (os rfl (os rfl (os rfl oz)))))))))))))), lg (ls rfl (lx lz)), lg lz, trivial⟩ ?_
      refine aw_seq ?_
      refine aw_region (by decide) ?_
      refine rts _ rfl (opD_load_aggX (qs := [_, _]) ag57_u9c sz57_u9c (os rfl (os rfl (os rfl oz))) (loc_getN rfl rfl) (Nat.le_of_ble_eq_true rfl) rfl) ?_
      refine rts _ rfl (opD_fieldAddr fo60_0_u9c (ls rfl (os rfl (os rfl oz)))) ?_
      refine rts _ rfl (opD_load_one ag22_u9c lz (loc_getN rfl rfl) rfl) ?_
      replace h0 := bnd_some h0
      obtain ⟨x_10, hx_10, h0⟩ := h0
      refine rts _ rfl (opD_pure ht42_u9c (c_lsince hx_10) ⟨(le_of_eq (ls rfl (ls rfl lz))).trans (agg_le ⟨(Pd.le_refl _), (Pd.le_refl _), trivial⟩), le_of_eq lz, trivial⟩) ?_
      refine rts _ rfl (opD_move lz) ?_
      refine rts _ rfl (opD_extract lz rfl) ?_
      refine rts _ rfl (opD_extract (ls rfl lz) rfl) ?_
      refine rts _ rfl (opD_assign (ls rfl lz)) ?_
      refine rts _ rfl (opD_assign (ls rfl lz)) ?_
      refine .nil ?_
      refine aw_keep [(2, _), (3, _), (4, _), (8, _), (9, _), (10, _), (11, _), (12, _), (13, _), (14, _)] ⟨lg (ls rfl (ls rfl (ls rfl (ls rfl (ls rfl (ls rfl (ls rfl (ls rfl (ls rfl oz))))))))), lg (ls rfl (ls rfl (ls rfl (ls rfl (ls rfl (ls rfl (ls rfl (ls rfl (ls rfl (os rfl oz)))))))))), lg (ls rfl (ls rfl (ls rfl (ls rfl (ls rfl (ls rfl (ls rfl (ls rfl (ls rfl (os rfl (os rfl oz))))))))))), lg (ls rfl (ls rfl (ls rfl (ls rfl (ls rfl (ls rfl (ls rfl (ls rfl (ls rfl (os rfl (os rfl (os rfl oz)))))))))))), lg (ls rfl (ls rfl (ls rfl (ls rfl (ls rfl (ls rfl (ls rfl (ls rfl (ls rfl (os rfl (os rfl (os rfl (os rfl oz))))))))))))), lg (ls rfl (ls rfl (ls rfl (ls rfl (ls rfl (ls rfl (ls rfl (ls rfl (ls rfl (os rfl (os rfl (os rfl (os rfl (os rfl oz)))))))))))))), lg (ls rfl (ls rfl (ls rfl (ls rfl (ls rfl (ls rfl (ls rfl (ls rfl (ls rfl (os rfl (os rfl (os rfl (os rfl (os rfl (os rfl oz))))))))))))))), lg (ls rfl (ls rfl (ls rfl (ls rfl (ls rfl (ls rfl (ls rfl (ls rfl (ls rfl (os rfl (os rfl (os rfl (os rfl (os rfl (os rfl (os rfl oz)))))))))))))))), lg (ls rfl lz), lg lz, trivial⟩ ?_
      refine aw_seq ?_
      refine aw_region (by decide) ?_
      refine rts _ rfl (opD_load_aggX (qs := [_, _]) ag70_u9c sz70_u9c (os rfl oz) (loc_getN rfl rfl) (Nat.le_of_ble_eq_true rfl) rfl) ?_
      refine rts _ rfl (opD_fieldAddr fo60_0_u9c (ls rfl (os rfl (os rfl oz)))) ?_
      refine rts _ rfl (opD_load_one ag22_u9c lz (loc_getN rfl rfl) rfl) ?_
      replace h0 := bnd_some h0
      obtain ⟨x_11, hx_11, h0⟩ := h0
      refine rts _ rfl (opD_pure ht43_u9c (c_lsince2 hx_11) ⟨(le_of_eq (ls rfl (ls rfl lz))).trans (agg_le ⟨(Pd.le_refl _), (Pd.le_refl _), trivial⟩), le_of_eq lz, trivial⟩) ?_
      refine rts _ rfl (opD_move lz) ?_
      refine rts _ rfl (opD_extract lz rfl) ?_
      refine rts _ rfl (opD_extract (ls rfl lz) rfl) ?_
      refine rts _ rfl (opD_assign (ls rfl lz)) ?_
      refine rts _ rfl (opD_assign (ls rfl lz)) ?_
      refine .nil ?_
      refine aw_keep [(2, _), (3, _), (8, _), (9, _), (10, _), (11, _), (12, _), (13, _), (14, _), (15, _), (16, _)] ⟨lg (ls rfl (ls rfl (ls rfl (ls rfl (ls rfl (ls rfl (ls rfl (ls rfl (ls rfl oz))))))))), lg (ls rfl (ls rfl (ls rfl (ls rfl (ls rfl (ls rfl (ls rfl (ls rfl (ls rfl (os rfl oz)))))))))), lg (ls rfl (ls rfl (ls rfl (ls rfl (ls rfl (ls rfl (ls rfl (ls rfl (ls rfl (os rfl (os rfl (os rfl oz)))))))))))), lg (ls rfl (ls rfl (ls rfl (ls rfl (ls rfl (ls rfl (ls rfl (ls rfl (ls rfl (os rfl (os rfl (os rfl (os rfl oz))))))))))))), lg (ls rfl (ls rfl (ls rfl (ls rfl (ls rfl (ls rfl (ls rfl (ls rfl (ls rfl (os rfl (os rfl (os rfl (os rfl (os rfl oz)))))))))))))), lg (ls rfl (ls rfl (ls rfl (ls rfl (ls rfl (ls rfl (ls rfl (ls rfl (ls rfl (os rfl (os rfl (os rfl (os rfl (os rfl (os rfl oz))))))))))))))), lg (ls rfl (ls rfl (ls rfl (ls rfl (ls rfl (ls rfl (ls rfl (ls rfl (ls rfl (os rfl (os rfl (os rfl (os rfl (os rfl (os rfl (os rfl oz)))))))))))))))), lg (ls rfl (ls rfl (ls rfl (ls rfl (ls rfl (ls rfl (ls rfl (ls rfl (ls rfl (os rfl (os rfl (os rfl (os rfl (os rfl (os rfl (os rfl (os rfl oz))))))))))))))))), lg (ls rfl (ls rfl (ls rfl (ls rfl (ls rfl (ls rfl (ls rfl (ls rfl (ls rfl (os rfl (os rfl (os rfl (os rfl (os rfl (os rfl (os rfl (os rfl (os rfl oz)))))))))))))))))), lg (ls rfl lz), lg lz, trivial⟩ ?_
      refine aw_seq ?_
      refine aw_region (by decide) ?_
      refine rts _ rfl (opD_load_aggX (qs := [_, _]) ag57_u9c sz57_u9c (os rfl (os rfl oz)) (loc_getN rfl rfl) (Nat.le_of_ble_eq_true rfl) rfl) ?_
      replace h0 := bnd_some h0
      obtain ⟨x_12, hx_12, h0⟩ := h0
      refine rts _ rfl (opD_pure ht37_u9c (c_lenc hx_12) ⟨(le_of_eq lz).trans (agg_le ⟨(Pd.le_refl _), (Pd.le_refl _), trivial⟩), trivial⟩) ?_
      refine rts _ rfl (opD_move lz) ?_
      refine rts _ rfl (opD_extract lz rfl) ?_
      refine rts _ rfl (opD_extract (ls rfl lz) rfl) ?_
      refine rts _ rfl (opD_assign (ls rfl lz)) ?_
      refine rts _ rfl (opD_assign (ls rfl lz)) ?_
      refine .nil ?_
      refine aw_keep [(2, _), (3, _), (8, _), (9, _), (10, _), (11, _), (12, _), (13, _), (14, _), (15, _), (16, _), (17, _), (18, _)] ⟨lg (ls rfl (ls rfl (ls rfl (ls rfl (ls rfl (ls rfl (ls rfl oz))))))), lg (ls rfl (ls rfl (ls rfl (ls rfl (ls rfl (ls rfl (ls rfl (os rfl oz)))))))), lg (ls rfl (ls rfl (ls rfl (ls rfl (ls rfl (ls rfl (ls rfl (os rfl (os rfl oz))))))))), lg (ls rfl (ls rfl (ls rfl (ls rfl (ls rfl (ls rfl (ls rfl (os rfl (os rfl (os rfl oz)))))))))), lg (ls rfl (ls rfl (ls rfl (ls rfl (ls rfl (ls rfl (ls rfl (os rfl (os rfl (os rfl (os rfl oz))))))))))), lg (ls rfl (ls rfl (ls rfl (ls rfl (ls rfl (ls rfl (ls rfl (os rfl (os rfl (os rfl (os rfl (os rfl oz)))))))))))), lg (ls rfl (ls rfl (ls rfl (ls rfl (ls rfl (ls rfl (ls rfl (os rfl (os rfl (os rfl (os rfl (os rfl (os rfl oz))))))))))))), lg (ls rfl (ls rfl (ls rfl (ls rfl (ls rfl (ls rfl (ls rfl (os rfl (os rfl (os rfl (os rfl (os rfl (os rfl (os rfl oz)))))))))))))), lg (ls rfl (ls rfl (ls rfl (ls rfl (ls rfl (ls rfl (ls rfl (os rfl (os rfl (os rfl (os rfl (os rfl (os rfl (os rfl (os rfl oz))))))))))))))), lg (ls rfl (ls rfl (ls rfl (ls rfl (ls rfl (ls rfl (ls rfl (os rfl (os rfl (os rfl (os rfl (os rfl (os rfl (os rfl (os rfl (os rfl oz)))))))))))))))), lg (ls rfl (ls rfl (ls rfl (ls rfl (ls rfl (ls rfl (ls rfl (os rfl (os rfl (os rfl (os rfl (os rfl (os rfl (os rfl (os rfl (os rfl (os rfl oz))))))))))))))))), lg (ls rfl lz), lg lz, trivial⟩ ?_
      refine aw_seq ?_
      refine aw_region (by decide) ?_
      refine rts _ rfl (opD_load_aggX (qs := [_, _]) ag70_u9c sz70_u9c (os rfl oz) (loc_getN rfl rfl) (Nat.le_of_ble_eq_true rfl) rfl) ?_
      replace h0 := bnd_some h0
      obtain ⟨x_13, hx_13, h0⟩ := h0
      refine rts _ rfl (opD_pure ht44_u9c (c_lenc2 hx_13) ⟨(le_of_eq lz).trans (agg_le ⟨(Pd.le_refl _), (Pd.le_refl _), trivial⟩), trivial⟩) ?_
      refine rts _ rfl (opD_move lz) ?_
      refine rts _ rfl (opD_extract lz rfl) ?_
      refine rts _ rfl (opD_extract (ls rfl lz) rfl) ?_
      refine rts _ rfl (opD_assign (ls rfl lz)) ?_
      refine rts _ rfl (opD_assign (ls rfl lz)) ?_
      refine .nil ?_
      refine aw_keep [(2, _), (3, _), (8, _), (9, _), (10, _), (11, _), (12, _), (13, _), (14, _), (15, _), (16, _), (17, _), (18, _), (19, _), (20, _)] ⟨lg (ls rfl (ls rfl (ls rfl (ls rfl (ls rfl (ls rfl (ls rfl oz))))))), lg (ls rfl (ls rfl (ls rfl (ls rfl (ls rfl (ls rfl (ls rfl (os rfl oz)))))))), lg (ls rfl (ls rfl (ls rfl (ls rfl (ls rfl (ls rfl (ls rfl (os rfl (os rfl oz))))))))), lg (ls rfl (ls rfl (ls rfl (ls rfl (ls rfl (ls rfl (ls rfl (os rfl (os rfl (os rfl oz)))))))))), lg (ls rfl (ls rfl (ls rfl (ls rfl (ls rfl (ls rfl (ls rfl (os rfl (os rfl (os rfl (os rfl oz))))))))))), lg (ls rfl (ls rfl (ls rfl (ls rfl (ls rfl (ls rfl (ls rfl (os rfl (os rfl (os rfl (os rfl (os rfl oz)))))))))))), lg (ls rfl (ls rfl (ls rfl (ls rfl (ls rfl (ls rfl (ls rfl (os rfl (os rfl (os rfl (os rfl (os rfl (os rfl oz))))))))))))), lg (ls rfl (ls rfl (ls rfl (ls rfl (ls rfl (ls rfl (ls rfl (os rfl (os rfl (os rfl (os rfl (os rfl (os rfl (os rfl oz)))))))))))))), lg (ls rfl (ls rfl (ls rfl (ls rfl (ls rfl (ls rfl (ls rfl (os rfl (os rfl (os rfl (os rfl (os rfl (os rfl (os rfl (os rfl oz))))))))))))))), lg (ls rfl (ls rfl (ls rfl (ls rfl (ls rfl (ls rfl (ls rfl (os rfl (os rfl (os rfl (os rfl (os rfl (os rfl (os rfl (os rfl (os rfl oz)))))))))))))))), lg (ls rfl (ls rfl (ls rfl (ls rfl (ls rfl (ls rfl (ls rfl (os rfl (os rfl (os rfl (os rfl (os rfl (os rfl (os rfl (os rfl (os rfl (os rfl oz))))))))))))))))), lg (ls rfl (ls rfl (ls rfl (ls rfl (ls rfl (ls rfl (ls rfl (os rfl (os rfl (os rfl (os rfl (os rfl (os rfl (os rfl (os rfl (os rfl (os rfl (os rfl oz)))))))))))))))))), lg (ls rfl (ls rfl (ls rfl (ls rfl (ls rfl (ls rfl (ls rfl (os rfl (os rfl (os rfl (os rfl (os rfl (os rfl (os rfl (os rfl (os rfl (os rfl (os rfl (os rfl oz))))))))))))))))))), lg (ls rfl lz), lg lz, trivial⟩ ?_
      refine aw_seq ?_
      refine aw_region (by decide) ?_
      refine rts _ rfl (opD_move oz) ?_
      replace h0 := bnd_some h0
      obtain ⟨x_14, hx_14, h0⟩ := h0
      refine rts _ rfl (opD_pure ht38_u9c (c_ldec hx_14) ⟨le_of_eq lz, trivial⟩) ?_
      refine rts _ rfl (opD_move lz) ?_
      refine rts _ rfl (opD_extract lz rfl) ?_
      refine rts _ rfl (opD_extract (ls rfl lz) rfl) ?_
      refine rts _ rfl (allocN rfl zt57_u9c (by first | exact List.length_nil | (simp only [List.length_cons, List.length_nil, Nat.zero_add, Nat.reduceAdd] <;> rfl)) (by simp only [na, nb, nc, nd, nf, ng, nh, ni, nj, nk] <;> rfl)) ?_
      refine rts _ rfl (storeAN rfl sz57_u9c lz (ls rfl (ls rfl lz)) (ones_cons (one_pl rfl) (ones_cons (one_sl _ _ _ _) ones_nil)) rfl rfl (Nat.le_of_ble_eq_true rfl) (List.cons_ne_nil _ _) (bnd_cons (pl_bnd _ _ _) (bnd_cons (sl_b kb_Lin) bnd_nil)) (by simp only [na, nb, nc, nd, nf, ng, nh, ni, nj, nk] <;> rfl) (by simp only [na, nb, nc, nd, nf, ng, nh, ni, nj, nk] <;> rfl)) ?_
      refine rts _ rfl (opD_assign (lx (ls rfl lz))) ?_
      refine .nil ?_
      refine aw_keep [(2, _), (3, _), (8, _), (9, _), (10, _), (11, _), (12, _), (13, _), (14, _), (15, _), (16, _), (17, _), (18, _), (19, _), (20, _), (21, _), (22, _)] ⟨lg (ls rfl (lx (ls rfl (ls rfl (ls rfl (ls rfl (ls rfl (ls rfl oz)))))))), lg (ls rfl (lx (ls rfl (ls rfl (ls rfl (ls rfl (ls rfl (ls rfl (os rfl oz))))))))), lg (ls rfl (lx (ls rfl (ls rfl (ls rfl (ls rfl (ls rfl (ls rfl (os rfl (os rfl oz)))))))))), lg (ls rfl (lx (ls rfl (ls rfl (ls rfl (ls rfl (ls rfl (ls rfl (os rfl (os rfl (os rfl oz))))))))))), lg (ls rfl (lx (ls rfl (ls rfl (ls rfl (ls rfl (ls rfl (ls rfl (os rfl (os rfl (os rfl (os rfl oz)))))))))))), lg (ls rfl (lx (ls rfl (ls rfl (ls rfl (ls rfl (ls rfl (ls rfl (os rfl (os rfl (os rfl (os rfl (os rfl oz))))))))))))), lg (ls rfl (lx (ls rfl (ls rfl (ls rfl (ls rfl (ls rfl (ls rfl (os rfl (os rfl (os rfl (os rfl (os rfl (os rfl oz)))))))))))))), lg (ls rfl (lx (ls rfl (ls rfl (ls rfl (ls rfl (ls rfl (ls rfl (os rfl (os rfl (os rfl (os rfl (os rfl (os rfl (os rfl oz))))))))))))))), lg (ls rfl (lx (ls rfl (ls rfl (ls rfl (ls rfl (ls rfl (ls rfl (os rfl (os rfl (os rfl (os rfl (os rfl (os rfl (os rfl (os rfl oz)))))))))))))))), lg (ls rfl (lx (ls rfl (ls rfl (ls rfl (ls rfl (ls rfl (ls rfl (os rfl (os rfl (os rfl (os rfl (os rfl (os rfl (os rfl (os rfl (os rfl oz))))))))))))))))), lg (ls rfl (lx (ls rfl (ls rfl (ls rfl (ls rfl (ls rfl (ls rfl (os rfl (os rfl (os rfl (os rfl (os rfl (os rfl (os rfl (os rfl (os rfl (os rfl oz)))))))))))))))))), lg (ls rfl (lx (ls rfl (ls rfl (ls rfl (ls rfl (ls rfl (ls rfl (os rfl (os rfl (os rfl (os rfl (os rfl (os rfl (os rfl (os rfl (os rfl (os rfl (os rfl oz))))))))))))))))))), lg (ls rfl (lx (ls rfl (ls rfl (ls rfl (ls rfl (ls rfl (ls rfl (os rfl (os rfl (os rfl (os rfl (os rfl (os rfl (os rfl (os rfl (os rfl (os rfl (os rfl (os rfl oz)))))))))))))))))))), lg (ls rfl (lx (ls rfl (ls rfl (ls rfl (ls rfl (ls rfl (ls rfl (os rfl (os rfl (os rfl (os rfl (os rfl (os rfl (os rfl (os rfl (os rfl (os rfl (os rfl (os rfl (os rfl oz))))))))))))))))))))), lg (ls rfl (lx (ls rfl (ls rfl (ls rfl (ls rfl (ls rfl (ls rfl (os rfl (os rfl (os rfl (os rfl (os rfl (os rfl (os rfl (os rfl (os rfl (os rfl (os rfl (os rfl (os rfl (os rfl oz)))))))))))))))))))))), lg (ls rfl (lx lz)), lg lz, trivial⟩ ?_
      refine aw_seq ?_
      refine aw_region (by decide) ?_
      refine rts _ rfl (opD_move oz) ?_
      replace h0 := bnd_some h0
      obtain ⟨x_15, hx_15, h0⟩ := h0
      refine rts _ rfl (opD_pure ht45_u9c (c_ldec2 hx_15) ⟨le_of_eq lz, trivial⟩) ?_
      refine rts _ rfl (opD_move lz) ?_
      refine rts _ rfl (opD_extract lz rfl) ?_
      refine rts _ rfl (opD_extract (ls rfl lz) rfl) ?_
      refine rts _ rfl (allocN rfl zt70_u9c (by first | exact List.length_nil | (simp only [List.length_cons, List.length_nil, Nat.zero_add, Nat.reduceAdd] <;> rfl)) (by simp only [na, nb, nc, nd, nf, ng, nh, ni, nj, nk] <;> rfl)) ?_
      refine rts _ rfl (storeAN rfl sz70_u9c lz (ls rfl (ls rfl lz)) (ones_cons (one_pl rfl) (ones_cons (one_sl _ _ _ _) ones_nil)) rfl rfl (Nat.le_of_ble_eq_true rfl) (List.cons_ne_nil _ _) (bnd_cons (pl_bnd _ _ _) (bnd_cons (sl_b kb_Lin) bnd_nil)) (by simp only [na, nb, nc, nd, nf, ng, nh, ni, nj, nk] <;> rfl) (by simp only [na, nb, nc, nd, nf, ng, nh, ni, nj, nk] <;> rfl)) ?_
      refine rts _ rfl (opD_assign (lx (ls rfl lz))) ?_
      refine .nil ?_
      refine aw_keep [(3, _), (8, _), (9, _), (10, _), (11, _), (12, _), (13, _), (14, _), (15, _), (16, _), (17, _), (18, _), (19, _), (20, _), (21, _), (22, _), (23, _), (24, _)] ⟨lg (ls rfl (lx (ls rfl (ls rfl (ls rfl (ls rfl (ls rfl (ls rfl (os rfl oz))))))))), lg (ls rfl (lx (ls rfl (ls rfl (ls rfl (ls rfl (ls rfl (ls rfl (os rfl (os rfl oz)))))))))), lg (ls rfl (lx (ls rfl (ls rfl (ls rfl (ls rfl (ls rfl (ls rfl (os rfl (os rfl (os rfl oz))))))))))), lg (ls rfl (lx (ls rfl (ls rfl (ls rfl (ls rfl (ls rfl (ls rfl (os rfl (os rfl (os rfl (os rfl oz)))))))))))), lg (ls rfl (lx (ls rfl (ls rfl (ls rfl (ls rfl (ls rfl (ls rfl (os rfl (os rfl (os rfl (os rfl (os rfl oz))))))))))))), lg (ls rfl (lx (ls rfl (ls rfl (ls rfl (ls rfl (ls rfl (ls rfl (os rfl (os rfl (os rfl (os rfl (os rfl (os rfl oz)))))))))))))), lg (ls rfl (lx (ls rfl (ls rfl (ls rfl (ls rfl (ls rfl (ls rfl (os rfl (os rfl (os rfl (os rfl (os rfl (os rfl (os rfl oz))))))))))))))), lg (ls rfl (lx (ls rfl (ls rfl (ls rfl (ls rfl (ls rfl (ls rfl (os rfl (os rfl (os rfl (os rfl (os rfl (os rfl (os rfl (os rfl oz)))))))))))))))), lg (ls rfl (lx (ls rfl (ls rfl (ls rfl (ls rfl (ls rfl (ls rfl (os rfl (os rfl (os rfl (os rfl (os rfl (os rfl (os rfl (os rfl (os rfl oz))))))))))))))))), lg (ls rfl (lx (ls rfl (ls rfl (ls rfl (ls rfl (ls rfl (ls rfl (os rfl (os rfl (os rfl (os rfl (os rfl (os rfl (os rfl (os rfl (os rfl (os rfl oz)))))))))))))))))), lg (ls rfl (lx (ls rfl (ls rfl (ls rfl (ls rfl (ls rfl (ls rfl (os rfl (os rfl (os rfl (os rfl (os rfl (os rfl (os rfl (os rfl (os rfl (os rfl (os rfl oz))))))))))))))))))), lg (ls rfl (lx (ls rfl (ls rfl (ls rfl (ls rfl (ls rfl (ls rfl (os rfl (os rfl (os rfl (os rfl (os rfl (os rfl (os rfl (os rfl (os rfl (os rfl (os rfl (os rfl oz)))))))))))))))))))), lg (ls rfl (lx (ls rfl (ls rfl (ls rfl (ls rfl (ls rfl (ls rfl (os rfl (os rfl (os rfl (os rfl (os rfl (os rfl (os rfl (os rfl (os rfl (os rfl (os rfl (os rfl (os rfl oz))))))))))))))))))))), lg (ls rfl (lx (ls rfl (ls rfl (ls rfl (ls rfl (ls rfl (ls rfl (os rfl (os rfl (os rfl (os rfl (os rfl (os rfl (os rfl (os rfl (os rfl (os rfl (os rfl (os rfl (os rfl (os rfl oz)))))))))))))))))))))), lg (ls rfl (lx (ls rfl (ls rfl (ls rfl (ls rfl (ls rfl (ls rfl (os rfl (os rfl (os rfl (os rfl (os rfl (os rfl (os rfl (os rfl (os rfl (os rfl (os rfl (os rfl (os rfl (os rfl (os rfl oz))))))))))))))))))))))), lg (ls rfl (lx (ls rfl (ls rfl (ls rfl (ls rfl (ls rfl (ls rfl (os rfl (os rfl (os rfl (os rfl (os rfl (os rfl (os rfl (os rfl (os rfl (os rfl (os rfl (os rfl (os rfl (os rfl (os rfl (os rfl oz)))))))))))))))))))))))), lg (ls rfl (lx lz)), lg lz, trivial⟩ ?_
      refine aw_seq ?_
      refine aw_seq ?_
      refine aw_region (by decide) ?_
      refine rts _ rfl (opD_fieldAddr fo57_0_u9c (os rfl (os rfl oz))) ?_
      refine rts _ rfl (opD_load_one ag22_u9c lz (loc_getN rfl rfl) rfl) ?_
      refine rts _ rfl (opD_fieldAddr fo70_0_u9c (ls rfl (ls rfl (os rfl (os rfl (os rfl (os rfl oz))))))) ?_
      refine rts _ rfl (opD_load_one ag22_u9c lz (loc_getN rfl rfl) rfl) ?_
      refine rts _ rfl (opD_neq (ls rfl (ls rfl lz)) lz) ?_
      refine rts _ rfl (opD_move lz) ?_
      refine rtg _ rfl lz (fun hg17_6_8 => opD_fieldAddr fo57_1_u9c (ls rfl (ls rfl (ls rfl (ls rfl (ls rfl (ls rfl (os rfl (os rfl oz))))))))) ?_
      refine rtg _ rfl (ls rfl lz) (fun hg17_7_9 => opD_load_one ag55_u9c (lz.trans (pif_pos hg17_7_9)) (loc_getN rfl rfl) rfl) ?_
      refine rtg _ rfl (ls rfl (ls rfl lz)) (fun hg17_8_10 => opD_fieldAddr fo70_1_u9c (ls rfl (ls rfl (ls rfl (ls rfl (ls rfl (ls rfl (ls rfl (ls rfl (os rfl (os rfl (os rfl (os rfl oz))))))))))))) ?_
      refine rtg _ rfl (ls rfl (ls rfl (ls rfl lz))) (fun hg17_9_11 => opD_load_one ag54_u9c (lz.trans (pif_pos hg17_9_11)) (loc_getN rfl rfl) rfl) ?_
      replace h0 := bnd_some h0
      obtain ⟨x_16, hx_16, h0⟩ := h0
      refine rtg _ rfl (ls rfl (ls rfl (ls rfl (ls rfl lz)))) (fun hg17_10_12 => opD_pure ht36_u9c (c_lare (gif_some hx_16 hg17_10_12)) ⟨le_of_eq ((ls rfl (ls rfl lz)).trans (pif_pos hg17_10_12)), le_of_eq (lz.trans (pif_pos hg17_10_12)), trivial⟩) ?_
      refine rtg _ rfl (ls rfl (ls rfl (ls rfl (ls rfl (ls rfl lz))))) (fun hg17_11_13 => opD_not (lz.trans (pif_pos hg17_11_13))) ?_
      refine rts _ rfl (opD_or (ls rfl (ls rfl (ls rfl (ls rfl (ls rfl (ls rfl lz)))))) lz) ?_
      refine rts _ rfl (opD_move lz) ?_
      refine rtg _ rfl lz (fun hg17_14_14 => opD_move (ls rfl (ls rfl (ls rfl (ls rfl (ls rfl (ls rfl (ls rfl (ls rfl (ls rfl (ls rfl (ls rfl (ls rfl (ls rfl (ls rfl (os rfl (os rfl (os rfl oz)))))))))))))))))) ?_
      replace h0 := bnd_some h0
      obtain ⟨x_17, hx_17, h0⟩ := h0
      refine rtg _ rfl (ls rfl lz) (fun hg17_15_15 => opD_call ht46_u9c (c_num30 (gif_some hx_17 hg17_15_15) hst) ⟨le_of_eq (lz.trans (pif_pos hg17_15_15)), trivial⟩) ?_
      refine rtg _ rfl (ls rfl (ls rfl lz)) (fun hg17_16_16 => opD_move (ls rfl (ls rfl (ls rfl (ls rfl (ls rfl (ls rfl (ls rfl (ls rfl (ls rfl (ls rfl (ls rfl (ls rfl (ls rfl (ls rfl (ls rfl (ls rfl (os rfl (os rfl (os rfl (os rfl (os rfl oz)))))))))))))))))))))) ?_
      refine rtg _ rfl (ls rfl (ls rfl (ls rfl lz))) (fun hg17_17_17 => opD_neq ((ls rfl lz).trans (pif_pos hg17_17_17)) (lz.trans (pif_pos hg17_17_17))) ?_
      refine rts _ rfl (opD_or (ls rfl (ls rfl (ls rfl (ls rfl lz)))) lz) ?_
      refine rts _ rfl (opD_move lz) ?_
      refine rtg _ rfl lz (fun hg17_20_18 => opD_move (ls rfl (ls rfl (ls rfl (ls rfl (ls rfl (ls rfl (ls rfl (ls rfl (ls rfl (ls rfl (ls rfl (ls rfl (ls rfl (ls rfl (ls rfl (ls rfl (ls rfl (ls rfl (ls rfl (ls rfl (os rfl (os rfl (os rfl (os rfl (os rfl (os rfl oz))))))))))))))))))))))))))) ?_
      refine rtg _ rfl (ls rfl lz) (fun hg17_21_19 => opD_move (ls rfl (ls rfl (ls rfl (ls rfl (ls rfl (ls rfl (ls rfl (ls rfl (ls rfl (ls rfl (ls rfl (ls rfl (ls rfl (ls rfl (ls rfl (ls rfl (ls rfl (ls rfl (ls rfl (ls rfl (ls rfl (os rfl (os rfl (os rfl (os rfl (os rfl (os rfl (os rfl (os rfl oz)))))))))))))))))))))))))))))) ?_
      replace h0 := bnd_some h0
      obtain ⟨x_18, hx_18, h0⟩ := h0
      refine rtg _ rfl (ls rfl (ls rfl lz)) (fun hg17_22_20 => opD_pure ht36_u9c (c_lare (gif_some hx_18 hg17_22_20)) ⟨le_of_eq ((ls rfl lz).trans (pif_pos hg17_22_20)), le_of_eq (lz.trans (pif_pos hg17_22_20)), trivial⟩) ?_
      refine rtg _ rfl (ls rfl (ls rfl (ls rfl lz))) (fun hg17_23_21 => opD_not (lz.trans (pif_pos hg17_23_21))) ?_
      refine rts _ rfl (opD_or (ls rfl (ls rfl (ls rfl (ls rfl lz)))) lz) ?_
      refine rts _ rfl (opD_move lz) ?_
      refine rtg _ rfl lz (fun hg17_26_22 => opD_move (ls rfl (ls rfl (ls rfl (ls rfl (ls rfl (ls rfl (ls rfl (ls rfl (ls rfl (ls rfl (ls rfl (ls rfl (ls rfl (ls rfl (ls rfl (ls rfl (ls rfl (ls rfl (ls rfl (ls rfl (ls rfl (ls rfl (ls rfl (ls rfl (ls rfl (ls rfl (os rfl (os rfl (os rfl (os rfl (os rfl (os rfl (os rfl oz)))))))))))))))))))))))))))))))))) ?_
      replace h0 := bnd_some h0
      obtain ⟨x_19, hx_19, h0⟩ := h0
      refine rtg _ rfl (ls rfl lz) (fun hg17_27_23 => opD_call ht46_u9c (c_num30 (gif_some hx_19 hg17_27_23) hst) ⟨le_of_eq (lz.trans (pif_pos hg17_27_23)), trivial⟩) ?_
      refine rtg _ rfl (ls rfl (ls rfl lz)) (fun hg17_28_24 => opD_move (ls rfl (ls rfl (ls rfl (ls rfl (ls rfl (ls rfl (ls rfl (ls rfl (ls rfl (ls rfl (ls rfl (ls rfl (ls rfl (ls rfl (ls rfl (ls rfl (ls rfl (ls rfl (ls rfl (ls rfl (ls rfl (ls rfl (ls rfl (ls rfl (ls rfl (ls rfl (ls rfl (ls rfl (os rfl (os rfl (os rfl (os rfl (os rfl (os rfl (os rfl (os rfl (os rfl oz)))))))))))))))))))))))))))))))))))))) ?_
      refine rtg _ rfl (ls rfl (ls rfl (ls rfl lz))) (fun hg17_29_25 => opD_neq ((ls rfl lz).trans (pif_pos hg17_29_25)) (lz.trans (pif_pos hg17_29_25))) ?_
      refine rts _ rfl (opD_or (ls rfl (ls rfl (ls rfl (ls rfl lz)))) lz) ?_
      refine rts _ rfl (opD_move lz) ?_
      refine rtg _ rfl lz (fun hg17_32_26 => opD_move (ls rfl (ls rfl (ls rfl (ls rfl (ls rfl (ls rfl (ls rfl (ls rfl (ls rfl (ls rfl (ls rfl (ls rfl (ls rfl (ls rfl (ls rfl (ls rfl (ls rfl (ls rfl (ls rfl (ls rfl (ls rfl (ls rfl (ls rfl (ls rfl (ls rfl (ls rfl (ls rfl (ls rfl (ls rfl (ls rfl (ls rfl (ls rfl (os rfl (os rfl (os rfl (os rfl (os rfl (os rfl (os rfl (os rfl (os rfl (os rfl oz))))))))))))))))))))))))))))))))))))))))))) ?_
      refine rtg _ rfl (ls rfl lz) (fun hg17_33_27 => opD_bytes_str Go.Proofs.Tryd.underlying23 Go.Proofs.Tryd.underlying5 Go.Proofs.Tryd.underlying9 (lz.trans (pif_pos hg17_33_27))) ?_
      refine rtg _ rfl (ls rfl (ls rfl lz)) (fun hg17_34_28 => opD_move (ls rfl (ls rfl (ls rfl (ls rfl (ls rfl (ls rfl (ls rfl (ls rfl (ls rfl (ls rfl (ls rfl (ls rfl (ls rfl (ls rfl (ls rfl (ls rfl (ls rfl (ls rfl (ls rfl (ls rfl (ls rfl (ls rfl (ls rfl (ls rfl (ls rfl (ls rfl (ls rfl (ls rfl (ls rfl (ls rfl (ls rfl (ls rfl (ls rfl (ls rfl (os rfl (os rfl (os rfl (os rfl (os rfl (os rfl (os rfl (os rfl (os rfl (os rfl (os rfl (os rfl oz))))))))))))))))))))))))))))))))))))))))))))))) ?_
      refine rtg _ rfl (ls rfl (ls rfl (ls rfl lz))) (fun hg17_35_29 => opD_bytes_str Go.Proofs.Tryd.underlying23 Go.Proofs.Tryd.underlying5 Go.Proofs.Tryd.underlying9 (lz.trans (pif_pos hg17_35_29))) ?_
      refine rtg _ rfl (ls rfl (ls rfl (ls rfl (ls rfl lz)))) (fun hg17_36_30 => opD_sneq ((ls rfl (ls rfl lz)).trans (pif_pos hg17_36_30)) (lz.trans (pif_pos hg17_36_30))) ?_
      refine rts _ rfl (opD_or (ls rfl (ls rfl (ls rfl (ls rfl (ls rfl lz))))) lz) ?_
      refine rts _ rfl (opD_move lz) ?_
      refine rtg _ rfl lz (fun hg17_39_31 => opD_move (ls rfl (ls rfl (ls rfl (ls rfl (ls rfl (ls rfl (ls rfl (ls rfl (ls rfl (ls rfl (ls rfl (ls rfl (ls rfl (ls rfl (ls rfl (ls rfl (ls rfl (ls rfl (ls rfl (ls rfl (ls rfl (ls rfl (ls rfl (ls rfl (ls rfl (ls rfl (ls rfl (ls rfl (ls rfl (ls rfl (ls rfl (ls rfl (ls rfl (ls rfl (ls rfl (ls rfl (ls rfl (ls rfl (ls rfl (os rfl (os rfl (os rfl (os rfl (os rfl (os rfl (os rfl (os rfl (os rfl (os rfl (os rfl oz))))))))))))))))))))))))))))))))))))))))))))))))))) ?_
      replace h0 := bnd_some h0
      obtain ⟨x_20, hx_20, h0⟩ := h0
      refine rtg _ rfl (ls rfl lz) (fun hg17_40_32 => opD_call ht46_u9c (c_num30 (gif_some hx_20 hg17_40_32) hst) ⟨le_of_eq (lz.trans (pif_pos hg17_40_32)), trivial⟩) ?_
      refine rtg _ rfl (ls rfl (ls rfl lz)) (fun hg17_41_33 => opD_move (ls rfl (ls rfl (ls rfl (ls rfl (ls rfl (ls rfl (ls rfl (ls rfl (ls rfl (ls rfl (ls rfl (ls rfl (ls rfl (ls rfl (ls rfl (ls rfl (ls rfl (ls rfl (ls rfl (ls rfl (ls rfl (ls rfl (ls rfl (ls rfl (ls rfl (ls rfl (ls rfl (ls rfl (ls rfl (ls rfl (ls rfl (ls rfl (ls rfl (ls rfl (ls rfl (ls rfl (ls rfl (ls rfl (ls rfl (ls rfl (ls rfl (os rfl (os rfl (os rfl (os rfl (os rfl (os rfl (os rfl (os rfl (os rfl (os rfl (os rfl (os rfl (os rfl oz))))))))))))))))))))))))))))))))))))))))))))))))))))))) ?_
      refine rtg _ rfl (ls rfl (ls rfl (ls rfl lz))) (fun hg17_42_34 => opD_neq ((ls rfl lz).trans (pif_pos hg17_42_34)) (lz.trans (pif_pos hg17_42_34))) ?_
      refine rts _ rfl (opD_or (ls rfl (ls rfl (ls rfl (ls rfl lz)))) lz) ?_
      refine .nil ?_
      refine aw_keep [(3, _), (8, _), (21, _), (22, _), (23, _), (24, _), (148, _)] ⟨lg (ls rfl (ls rfl (ls rfl (ls rfl (ls rfl (ls rfl (ls rfl (ls rfl (ls rfl (ls rfl (ls rfl (ls rfl (ls rfl (ls rfl (ls rfl (ls rfl (ls rfl (ls rfl (ls rfl (ls rfl (ls rfl (ls rfl (ls rfl (ls rfl (ls rfl (ls rfl (ls rfl (ls rfl (ls rfl (ls rfl (ls rfl (ls rfl (ls rfl (ls rfl (ls rfl (ls rfl (ls rfl (ls rfl (ls rfl (ls rfl (ls rfl (ls rfl (ls rfl (ls rfl oz)))))))))))))))))))))))))))))))))))))))))))), lg (ls rfl (ls rfl (ls rfl (ls rfl (ls rfl (ls rfl (ls rfl (ls rfl (ls rfl (ls rfl (ls rfl (ls rfl (ls rfl (ls rfl (ls rfl (ls rfl (ls rfl (ls rfl (ls rfl (ls rfl (ls rfl (ls rfl (ls rfl (ls rfl (ls rfl (ls rfl (ls rfl (ls rfl (ls rfl (ls rfl (ls rfl (ls rfl (ls rfl (ls rfl (ls rfl (ls rfl (ls rfl (ls rfl (ls rfl (ls rfl (ls rfl (ls rfl (ls rfl (ls rfl (os rfl oz))))))))))))))))))))))))))))))))))))))))))))), lg (ls rfl (ls rfl (ls rfl (ls rfl (ls rfl (ls rfl (ls rfl (ls rfl (ls rfl (ls rfl (ls rfl (ls rfl (ls rfl (ls rfl (ls rfl (ls rfl (ls rfl (ls rfl (ls rfl (ls rfl (ls rfl (ls rfl (ls rfl (ls rfl (ls rfl (ls rfl (ls rfl (ls rfl (ls rfl (ls rfl (ls rfl (ls rfl (ls rfl (ls rfl (ls rfl (ls rfl (ls rfl (ls rfl (ls rfl (ls rfl (ls rfl (ls rfl (ls rfl (ls rfl (os rfl (os rfl (os rfl (os rfl (os rfl (os rfl (os rfl (os rfl (os rfl (os rfl (os rfl (os rfl (os rfl (os rfl oz)))))))))))))))))))))))))))))))))))))))))))))))))))))))))), lg (ls rfl (ls rfl (ls rfl (ls rfl (ls rfl (ls rfl (ls rfl (ls rfl (ls rfl (ls rfl (ls rfl (ls rfl (ls rfl (ls rfl (ls rfl (ls rfl (ls rfl (ls rfl (ls rfl (ls rfl (ls rfl (ls rfl (ls rfl (ls rfl (ls rfl (ls rfl (ls rfl (ls rfl (ls rfl (ls rfl (ls rfl (ls rfl (ls rfl (ls rfl (ls rfl (ls rfl (ls rfl (ls rfl (ls rfl (ls rfl (ls rfl (ls rfl (ls rfl (ls rfl (os rfl (os rfl (os rfl (os rfl (os rfl (os rfl (os rfl (os rfl (os rfl (os rfl (os rfl (os rfl (os rfl (os rfl (os rfl oz))))))))))))))))))))))))))))))))))))))))))))))))))))))))))), lg (ls rfl (ls rfl (ls rfl (ls rfl (ls rfl (ls rfl (ls rfl (ls rfl (ls rfl (ls rfl (ls rfl (ls rfl (ls rfl (ls rfl (ls rfl (ls rfl (ls rfl (ls rfl (ls rfl (ls rfl (ls rfl (ls rfl (ls rfl (ls rfl (ls rfl (ls rfl (ls rfl (ls rfl (ls rfl (ls rfl (ls rfl (ls rfl (ls rfl (ls rfl (ls rfl (ls rfl (ls rfl (ls rfl (ls rfl (ls rfl (ls rfl (ls rfl (ls rfl (ls rfl (os rfl (os rfl (os rfl (os rfl (os rfl (os rfl (os rfl (os rfl (os rfl (os rfl (os rfl (os rfl (os rfl (os rfl (os rfl (os rfl oz)))))))))))))))))))))))))))))))))))))))))))))))))))))))))))), lg (ls rfl (ls rfl (ls rfl (ls rfl (ls rfl (ls rfl (ls rfl (ls rfl (ls rfl (ls rfl (ls rfl (ls rfl (ls rfl (ls rfl (ls rfl (ls rfl (ls rfl (ls rfl (ls rfl (ls rfl (ls rfl (ls rfl (ls rfl (ls rfl (ls rfl (ls rfl (ls rfl (ls rfl (ls rfl (ls rfl (ls rfl (ls rfl (ls rfl (ls rfl (ls rfl (ls rfl (ls rfl (ls rfl (ls rfl (ls rfl (ls rfl (ls rfl (ls rfl (ls rfl (os rfl (os rfl (os rfl (os rfl (os rfl (os rfl (os rfl (os rfl (os rfl (os rfl (os rfl (os rfl (os rfl (os rfl (os rfl (os rfl (os rfl oz))))))))))))))))))))))))))))))))))))))))))))))))))))))))))))), lg lz, trivial⟩ ?_
      refine aw_cond _ (os rfl (os rfl (os rfl (os rfl (os rfl (os rfl oz)))))) (fun hc => ?_) (fun hc => ?_)
      · skip
        replace h0 := ifb_t h0 hc
        clear hc
        refine aw_seq ?_
        refine aw_region (by decide) ?_
        refine rts _ rfl (opD_assign (ev_const _ _)) ?_
        refine .nil ?_
        refine aw_keep [(6, _)] ⟨lg lz, trivial⟩ ?_
        refine aw_ret ?_
        obtain rfl := some_of h0
        exact done_ext (.inr rfl) ((res_one rfl (it_tmp oz)).le (Pd.le_refl _)) (pl_bnd _ _ _)
      · skip
        replace h0 := ifb_f h0 hc
        clear hc
        refine aw_skip ?_
        refine aw_keep [(3, _), (8, _), (21, _), (22, _), (23, _), (24, _)] ⟨lg oz, lg (os rfl oz), lg (os rfl (os rfl oz)), lg (os rfl (os rfl (os rfl oz))), lg (os rfl (os rfl (os rfl (os rfl oz)))), lg (os rfl (os rfl (os rfl (os rfl (os rfl oz))))), trivial⟩ ?_
        refine aw_seq ?_
        refine aw_flat mixed_u9c (by decide +kernel) ?_
        refine zts _ rfl (opD_fieldAddr fo57_0_u9c (os rfl (os rfl oz))) ?_
        refine zts _ rfl (opD_load_one ag22_u9c lz (loc_getN rfl rfl) rfl) ?_
        refine zts _ rfl (opD_fieldAddr fo70_0_u9c (ls rfl (ls rfl (os rfl (os rfl (os rfl (os rfl oz))))))) ?_
        refine zts _ rfl (opD_load_one ag22_u9c lz (loc_getN rfl rfl) rfl) ?_
        refine zts _ rfl (opD_eql (ls rfl (ls rfl lz)) lz) ?_
        refine zts _ rfl (opD_move lz) ?_
        refine ztg _ rfl lz (fun hg19_6_56 => opD_fieldAddr fo57_1_u9c (ls rfl (ls rfl (ls rfl (ls rfl (ls rfl (ls rfl (os rfl (os rfl oz))))))))) ?_
        refine ztg _ rfl (ls rfl lz) (fun hg19_7_57 => opD_load_one ag55_u9c (lz.trans (pif_pos hg19_7_57)) (loc_getN rfl rfl) rfl) ?_
        refine ztg _ rfl (ls rfl (ls rfl lz)) (fun hg19_8_58 => opD_fieldAddr fo70_1_u9c (ls rfl (ls rfl (ls rfl (ls rfl (ls rfl (ls rfl (ls rfl (ls rfl (os rfl (os rfl (os rfl (os rfl oz))))))))))))) ?_
        refine ztg _ rfl (ls rfl (ls rfl (ls rfl lz))) (fun hg19_9_59 => opD_load_one ag54_u9c (lz.trans (pif_pos hg19_9_59)) (loc_getN rfl rfl) rfl) ?_
        replace h0 := bnd_some h0
        obtain ⟨x_21, hx_21, h0⟩ := h0
        refine ztg _ rfl (ls rfl (ls rfl (ls rfl (ls rfl lz)))) (fun hg19_10_60 => opD_pure ht36_u9c (c_lare (gif_some hx_21 hg19_10_60)) ⟨le_of_eq ((ls rfl (ls rfl lz)).trans (pif_pos hg19_10_60)), le_of_eq (lz.trans (pif_pos hg19_10_60)), trivial⟩) ?_
        refine zts _ rfl (opD_and (ls rfl (ls rfl (ls rfl (ls rfl (ls rfl lz))))) lz) ?_
        refine zts _ rfl (opD_move lz) ?_
        refine ztg _ rfl lz (fun hg19_13_61 => opD_move (ls rfl (ls rfl (ls rfl (ls rfl (ls rfl (ls rfl (ls rfl (ls rfl (ls rfl (ls rfl (ls rfl (ls rfl (ls rfl (os rfl (os rfl (os rfl oz))))))))))))))))) ?_
        replace h0 := bnd_some h0
        obtain ⟨x_22, hx_22, h0⟩ := h0
        refine ztg _ rfl (ls rfl lz) (fun hg19_14_62 => opD_call ht46_u9c (c_num30 (gif_some hx_22 hg19_14_62) hst) ⟨le_of_eq (lz.trans (pif_pos hg19_14_62)), trivial⟩) ?_
        refine ztg _ rfl (ls rfl (ls rfl lz)) (fun hg19_15_63 => opD_move (ls rfl (ls rfl (ls rfl (ls rfl (ls rfl (ls rfl (ls rfl (ls rfl (ls rfl (ls rfl (ls rfl (ls rfl (ls rfl (ls rfl (ls rfl (os rfl (os rfl (os rfl (os rfl (os rfl oz))))))))))))))))))))) ?_
        refine ztg _ rfl (ls rfl (ls rfl (ls rfl lz))) (fun hg19_16_64 => opD_eql ((ls rfl lz).trans (pif_pos hg19_16_64)) (lz.trans (pif_pos hg19_16_64))) ?_
        refine zts _ rfl (opD_and (ls rfl (ls rfl (ls rfl (ls rfl lz)))) lz) ?_
        refine zts _ rfl (opD_move lz) ?_
        refine ztg _ rfl lz (fun hg19_19_65 => opD_load_aggX (qs := [_, _]) ag57_u9c sz57_u9c (ls rfl (ls rfl (ls rfl (ls rfl (ls rfl (ls rfl (ls rfl (ls rfl (ls rfl (ls rfl (ls rfl (ls rfl (ls rfl (ls rfl (ls rfl (ls rfl (ls rfl (ls rfl (ls rfl (os rfl oz)))))))))))))))))))) (loc_getN rfl rfl) (Nat.le_of_ble_eq_true rfl) rfl) ?_
        replace h0 := bnd_some h0
        obtain ⟨x_23, hx_23, h0⟩ := h0
        refine ztg _ rfl (ls rfl lz) (fun hg19_20_66 => opD_pure ht47_u9c (c_lcheck (gif_some hx_23 hg19_20_66)) ⟨(le_of_eq (lz.trans (pif_pos hg19_20_66))).trans (agg_le ⟨(Pd.le_refl _), (Pd.le_refl _), trivial⟩), trivial⟩) ?_
        refine ztg _ rfl (ls rfl (ls rfl lz)) (fun hg19_21_67 => opD_bin (lz.trans (pif_pos hg19_21_67)) (ev_const _ _) (fun w => errV_geql _ w _) (fun w => errV_eql _ w)) ?_
        refine ztg _ rfl (ls rfl (ls rfl (ls rfl lz))) (fun hg19_22_68 => opD_load_aggX (qs := [_, _]) ag70_u9c sz70_u9c (ls rfl (ls rfl (ls rfl (ls rfl (ls rfl (ls rfl (ls rfl (ls rfl (ls rfl (ls rfl (ls rfl (ls rfl (ls rfl (ls rfl (ls rfl (ls rfl (ls rfl (ls rfl (ls rfl (ls rfl (ls rfl (ls rfl oz)))))))))))))))))))))) (loc_getN rfl rfl) (Nat.le_of_ble_eq_true rfl) rfl) ?_
        replace h0 := bnd_some h0
        obtain ⟨x_24, hx_24, h0⟩ := h0
        refine ztg _ rfl (ls rfl (ls rfl (ls rfl (ls rfl lz)))) (fun hg19_23_69 => opD_pure ht48_u9c (c_lmay2 (gif_some hx_24 hg19_23_69)) ⟨(le_of_eq (lz.trans (pif_pos hg19_23_69))).trans (agg_le ⟨(Pd.le_refl _), (Pd.le_refl _), trivial⟩), trivial⟩) ?_
        refine ztg _ rfl (ls rfl (ls rfl (ls rfl (ls rfl (ls rfl lz))))) (fun hg19_24_70 => opD_beql Go.Proofs.Tryd.underlying4 ((ls rfl (ls rfl lz)).trans (pif_pos hg19_24_70)) (lz.trans (pif_pos hg19_24_70))) ?_
        refine zts _ rfl (opD_and (ls rfl (ls rfl (ls rfl (ls rfl (ls rfl (ls rfl lz)))))) lz) ?_
        refine zts _ rfl (opD_move lz) ?_
        refine ztg _ rfl lz (fun hg19_27_71 => opD_fieldAddr fo57_1_u9c (ls rfl (ls rfl (ls rfl (ls rfl (ls rfl (ls rfl (ls rfl (ls rfl (ls rfl (ls rfl (ls rfl (ls rfl (ls rfl (ls rfl (ls rfl (ls rfl (ls rfl (ls rfl (ls rfl (ls rfl (ls rfl (ls rfl (ls rfl (ls rfl (ls rfl (ls rfl (ls rfl (os rfl oz))))))))))))))))))))))))))))) ?_
        refine ztg _ rfl (ls rfl lz) (fun hg19_28_72 => opD_load_one ag55_u9c (lz.trans (pif_pos hg19_28_72)) (loc_getN rfl rfl) rfl) ?_
        refine ztg _ rfl (ls rfl (ls rfl lz)) (fun hg19_29_73 => opD_fieldAddr fo70_1_u9c (ls rfl (ls rfl (ls rfl (ls rfl (ls rfl (ls rfl (ls rfl (ls rfl (ls rfl (ls rfl (ls rfl (ls rfl (ls rfl (ls rfl (ls rfl (ls rfl (ls rfl (ls rfl (ls rfl (ls rfl (ls rfl (ls rfl (ls rfl (ls rfl (ls rfl (ls rfl (ls rfl (ls rfl (ls rfl oz)))))))))))))))))))))))))))))) ?_
        refine ztg _ rfl (ls rfl (ls rfl (ls rfl lz))) (fun hg19_30_74 => opD_load_one ag54_u9c (lz.trans (pif_pos hg19_30_74)) (loc_getN rfl rfl) rfl) ?_
        replace h0 := bnd_some h0
        obtain ⟨x_25, hx_25, h0⟩ := h0
        refine ztg _ rfl (ls rfl (ls rfl (ls rfl (ls rfl lz)))) (fun hg19_31_75 => opD_pure ht36_u9c (c_lare (gif_some hx_25 hg19_31_75)) ⟨le_of_eq ((ls rfl (ls rfl lz)).trans (pif_pos hg19_31_75)), le_of_eq (lz.trans (pif_pos hg19_31_75)), trivial⟩) ?_
        refine zts _ rfl (opD_and (ls rfl (ls rfl (ls rfl (ls rfl (ls rfl lz))))) lz) ?_
        refine zts _ rfl (opD_move lz) ?_
        replace h0 := bnd_some h0
        obtain ⟨x_26, hx_26, h0⟩ := h0
        refine ztg _ rfl lz (fun hg19_34_76 => opD_call ht39_u9c (c_sure30 (gif_some hx_26 hg19_34_76) hst) trivial) ?_
        refine zts _ rfl (opD_and (ls rfl lz) lz) ?_
        refine zts _ rfl (opD_assign lz) ?_
        refine .nil ?_
        refine aw_keep [(6, _)] ⟨lg lz, trivial⟩ ?_
        refine aw_ret ?_
        obtain rfl := some_of h0
        exact done_ext (.inr rfl) ((res_one rfl (it_tmp oz)).le (Pd.le_refl _)) (pl_bnd _ _ _)

def F_lKeeps_b0 (fl : Nat) (p0 : (List Lin)) (t_2 : (List Lin) × Int × Lgr) : Option (((List Lin) × Int × Lgr) ⊕ ((Bool) ⊕ ((List Lin) × Lgr))) :=
  ifb ((decide (t_2.2.1 < (p0.length : Int))) && (decide (t_2.2.1 < 80))) (bnd (ixb p0 t_2.2.1 fun x_5 => grd (((decide (40 < (x_5.Key.size : Int))) == false) = true → Below t_2.2.1 p0.length) <| ifb ((decide (40 < (x_5.Key.size : Int))) || (decide (4611686018427387904 < ((p0.getD t_2.2.1.toNat default).Who)))) (some (.inr (t_2.1, t_2.2.2))) (ixb p0 t_2.2.1 fun x_6 => bnd (F_ladd fl t_2.2.2 x_6) fun x_7 => ifb x_7.2.isSome (some (.inl false)) (ixb p0 t_2.2.1 fun x_8 => grd (Fits 40 (t_2.1.length + ([(⟨IntKind.u64.wrap ((IntKind.u64.wrap ((t_2.1.length : Int))) + 1), x_8.Who, x_8.What, x_8.Code, x_8.Key⟩ : Lin)] : (List Lin)).length)) <| some (.inr ((t_2.1 ++ ([(⟨IntKind.u64.wrap ((IntKind.u64.wrap ((t_2.1.length : Int))) + 1), x_8.Who, x_8.What, x_8.Code, x_8.Key⟩ : Lin)] : (List Lin))), x_7.1))))) fun z_4 => ocs z_4 (fun qz_4_0 => some (.inr (.inl qz_4_0))) fun z_4_0 => some (.inl (z_4_0.1, IntKind.i64.wrap (t_2.2.1 + 1), z_4_0.2))) (some (.inr (.inr (t_2.1, t_2.2.2))))
def F_lKeeps (fl : Nat) (p0 : (List Lin)) : Option (Bool) :=
  bnd (lp (F_lKeeps_b0 fl p0) fl (([] : (List Lin)), 0, (⟨0, []⟩ : Lgr))) fun z_1 => ocs z_1 (fun qz_1_0 => some qz_1_0) fun z_1_0 => grd ((((((decide ((IntKind.i64.wrap ((z_1_0.1.length : Int) - (z_1_0.2.L.length : Int))) < 0)) || (decide (32 < (z_1_0.2.L.length : Int)))) || ((decide (0 < (IntKind.i64.wrap ((z_1_0.1.length : Int) - (z_1_0.2.L.length : Int))))) && (decide ((z_1_0.2.L.length : Int) ≠ 32)))) || (decide (z_1_0.2.Dropped ≠ (IntKind.u64.wrap (IntKind.i64.wrap ((z_1_0.1.length : Int) - (z_1_0.2.L.length : Int))))))) == false) = true → UpTo (IntKind.i64.wrap ((z_1_0.1.length : Int) - (z_1_0.2.L.length : Int))) z_1_0.1.length) <| bnd (gif (((((decide ((IntKind.i64.wrap ((z_1_0.1.length : Int) - (z_1_0.2.L.length : Int))) < 0)) || (decide (32 < (z_1_0.2.L.length : Int)))) || ((decide (0 < (IntKind.i64.wrap ((z_1_0.1.length : Int) - (z_1_0.2.L.length : Int))))) && (decide ((z_1_0.2.L.length : Int) ≠ 32)))) || (decide (z_1_0.2.Dropped ≠ (IntKind.u64.wrap (IntKind.i64.wrap ((z_1_0.1.length : Int) - (z_1_0.2.L.length : Int))))))) == false) (F_lare fl z_1_0.2.L (z_1_0.1.drop ((IntKind.i64.wrap ((z_1_0.1.length : Int) - (z_1_0.2.L.length : Int))).toNat)))) fun x_9 => ifb (((((decide ((IntKind.i64.wrap ((z_1_0.1.length : Int) - (z_1_0.2.L.length : Int))) < 0)) || (decide (32 < (z_1_0.2.L.length : Int)))) || ((decide (0 < (IntKind.i64.wrap ((z_1_0.1.length : Int) - (z_1_0.2.L.length : Int))))) && (decide ((z_1_0.2.L.length : Int) ≠ 32)))) || (decide (z_1_0.2.Dropped ≠ (IntKind.u64.wrap (IntKind.i64.wrap ((z_1_0.1.length : Int) - (z_1_0.2.L.length : Int))))))) || (!x_9)) (some false) (bnd (F_lenc fl z_1_0.2) fun x_10 => bnd (F_ldec fl x_10.1) fun x_11 => grd ((((x_10.2.isNone && x_11.2.isNone) && (decide (x_11.1.Dropped = z_1_0.2.Dropped))) == true) = true → UpTo (IntKind.i64.wrap ((z_1_0.1.length : Int) - (z_1_0.2.L.length : Int))) z_1_0.1.length) <| bnd (gif (((x_10.2.isNone && x_11.2.isNone) && (decide (x_11.1.Dropped = z_1_0.2.Dropped))) == true) (F_lare fl x_11.1.L (z_1_0.1.drop ((IntKind.i64.wrap ((z_1_0.1.length : Int) - (z_1_0.2.L.length : Int))).toNat)))) fun x_12 => bnd (gif ((((x_10.2.isNone && x_11.2.isNone) && (decide (x_11.1.Dropped = z_1_0.2.Dropped))) && x_12) == true) (F_sure30 fl)) fun x_13 => some ((((x_10.2.isNone && x_11.2.isNone) && (decide (x_11.1.Dropped = z_1_0.2.Dropped))) && x_12) && x_13))
set_option maxRecDepth 100000 in
set_option maxHeartbeats 2000000 in
theorem c_lKeeps {fl : Nat} {p0 : (List Lin)} {R : Bool} {s : St} (h0 : F_lKeeps fl p0 = some R) (hst : StGV s) : AC Go.Proofs.Tryd.prog 6 [sl kLin none none p0] s (pl (.bool R)) s := by
  unfold F_lKeeps at h0
  refine ac_of_aw s.boxes.length s.fr.length Go.Proofs.Tryd.func6 rfl (by simp [Go.Proofs.Tryd.ntmps6]) ?_
  refine aw_ext0 ?_
  refine aw_keep [(0, _)] ⟨lg ez, trivial⟩ ?_
  refine aw_seq ?_
  refine aw_region (by decide) ?_
  refine rts _ rfl (opD_assign (ev_const _ _)) ?_
  refine .nil ?_
  refine aw_keep [(0, _)] ⟨lg (ls rfl oz), trivial⟩ ?_
  refine aw_seq ?_
  refine aw_region (by decide) ?_
  refine rts _ rfl (allocN rfl zt57_u9c (by first | exact List.length_nil | (simp only [List.length_cons, List.length_nil, Nat.zero_add, Nat.reduceAdd] <;> rfl)) (by simp only [na, nb, nc, nd, nf, ng, nh, ni, nj, nk] <;> rfl)) ?_
  refine .nil ?_
  refine aw_keep [(0, _), (3, _)] ⟨lg (ls rfl oz), lg lz, trivial⟩ ?_
  refine aw_seq ?_
  refine aw_region (by decide) ?_
  refine rts _ rfl (opD_assign (ev_const _ _)) ?_
  refine .nil ?_
  refine aw_keep [(0, _), (3, _), (4, _)] ⟨lg (ls rfl oz), lg (ls rfl (os rfl oz)), lg lz, trivial⟩ ?_
  refine aw_seq ?_
  refine aw_seq ?_
  refine aw_region (by decide) ?_
  refine rts _ rfl (opD_assign (ev_const _ _)) ?_
  refine .nil ?_
  refine aw_keep [(0, _), (3, _), (4, _), (5, _)] ⟨lg (ls rfl oz), lg (ls rfl (os rfl oz)), lg (ls rfl (os rfl (os rfl oz))), lg lz, trivial⟩ ?_
  replace h0 := bnd_some h0
  obtain ⟨z_1, hz_1, h0⟩ := h0
  refine aw_mid (fun e st => ∃ v : (List Lin) × Lgr, Holds e [(3, ptr (s.boxes.length + 0) 0), (4, sl kLin none none v.1)] ∧ st = s.ext [⟨57, [pl (.int .u64 v.2.Dropped), sl kLin none none v.2.L]⟩] [] ∧ (.inr v) = z_1) ?_ ?_
  · skip
    refine aw_wkN rfl 1 0 rfl rfl ?_
    refine aw_block ?_
    refine aw_fr ⟨60, 5, 0⟩ ?_
    refine aw_wkBN rfl (bs' := [⟨57, [pl (.int .u64 ((⟨0, []⟩ : Lgr).Dropped)), sl kLin none none ((⟨0, []⟩ : Lgr).L)]⟩]) (bxle_cons (B := ⟨57, [_, _]⟩) (@Eq.refl TypeId 57) (lel_cons (Pd.le_refl _) (lel_cons (nil_own rfl) lel_nil)) bxle_nil) (bl_cons (bnd_cons (pl_bnd _ _ _) (bnd_cons (sl_b kb_Lin) bnd_nil)) bl_nil) ?_
    refine aw_loop (fun n e st => ∃ v : (List Lin) × Int × Lgr, Holds e [(0, sl kLin none none p0), (3, ptr (s.boxes.length + 0) 0), (4, sl kLin (some (s.fr.length + 0)) none v.1), (5, pl (.int .i64 v.2.1))] ∧ st = s.ext [⟨57, [pl (.int .u64 v.2.2.Dropped), sl kLin none none v.2.2.L]⟩] [⟨60, 5, v.1.length⟩] ∧ lp (F_lKeeps_b0 fl p0) n v = some z_1) fl ⟨(([] : (List Lin)), 0, (⟨0, []⟩ : Lgr)), ⟨le_of_eq (eg oz), le_of_eq (eg (os rfl oz)), (le_of_eq (eg (os rfl (os rfl oz)))).trans (nil_own rfl), le_of_eq (eg (os rfl (os rfl (os rfl oz)))), trivial⟩, rfl, hz_1⟩ ?_
    rintro n e st ⟨t_2, hH, rfl, hz_1⟩
    replace hz_1 := lp_some hz_1
    obtain ⟨m_z_3, z_3, rfl, hz_3, hz_1⟩ := hz_1
    unfold F_lKeeps_b0 at hz_3
    refine aw_keep _ hH ?_
    refine aw_wkN rfl 1 1 rfl rfl ?_
    refine aw_seq ?_
    refine aw_seq ?_
    refine aw_region (by decide) ?_
    refine rts _ rfl (opD_move (os rfl (os rfl (os rfl oz)))) ?_
    refine rts _ rfl (opD_move (ls rfl oz)) ?_
    refine rts _ rfl (opD_len_sl Go.Proofs.Tryd.underlying54 lz) ?_
    refine rts _ rfl (opD_lss (ls rfl (ls rfl lz)) lz) ?_
    refine rts _ rfl (opD_move lz) ?_
    refine rtg _ rfl lz (fun hg4_5_127 => opD_move (ls rfl (ls rfl (ls rfl (ls rfl (ls rfl (os rfl (os rfl (os rfl oz))))))))) ?_
    refine rtg _ rfl (ls rfl lz) (fun hg4_6_128 => opD_lss (lz.trans (pif_pos hg4_6_128)) (ev_const _ _)) ?_
    refine rts _ rfl (opD_and (ls rfl (ls rfl lz)) lz) ?_
    refine .nil ?_
    refine aw_keep [(0, _), (3, _), (4, _), (5, _), (21, _)] ⟨lg (ls rfl (ls rfl (ls rfl (ls rfl (ls rfl (ls rfl (ls rfl (ls rfl oz)))))))), lg (ls rfl (ls rfl (ls rfl (ls rfl (ls rfl (ls rfl (ls rfl (ls rfl (os rfl oz))))))))), lg (ls rfl (ls rfl (ls rfl (ls rfl (ls rfl (ls rfl (ls rfl (ls rfl (os rfl (os rfl oz)))))))))), lg (ls rfl (ls rfl (ls rfl (ls rfl (ls rfl (ls rfl (ls rfl (ls rfl (os rfl (os rfl (os rfl oz))))))))))), lg lz, trivial⟩ ?_
    refine aw_cond _ (os rfl (os rfl (os rfl (os rfl oz)))) (fun hc => ?_) (fun hc => ?_)
    · skip
      replace hz_3 := ifb_t hz_3 hc
      clear hc
      refine aw_skip ?_
      refine aw_keep [(0, _), (3, _), (4, _), (5, _)] ⟨lg oz, lg (os rfl oz), lg (os rfl (os rfl oz)), lg (os rfl (os rfl (os rfl oz))), trivial⟩ ?_
      refine aw_seq ?_
      replace hz_3 := bnd_some hz_3
      obtain ⟨z_4, hz_4, hz_3⟩ := hz_3
      refine aw_mid (fun e st => ∃ v : (List Lin) × Lgr, Holds e [(0, sl kLin none none p0), (3, ptr (s.boxes.length + 0) 0), (4, sl kLin (some (s.fr.length + 0)) none v.1), (5, pl (.int .i64 t_2.2.1))] ∧ st = s.ext [⟨57, [pl (.int .u64 v.2.Dropped), sl kLin none none v.2.L]⟩] [⟨60, 5, v.1.length⟩] ∧ (.inr v) = z_4) ?_ ?_
      · skip
        refine aw_wkN rfl 1 1 rfl rfl ?_
        refine aw_block ?_
        refine aw_seq ?_
        refine aw_seq ?_
        refine aw_region (by decide) ?_
        refine rts _ rfl (opD_move oz) ?_
        refine rts _ rfl (opD_move (ls rfl (os rfl (os rfl (os rfl oz))))) ?_
        replace hz_4 := ixb_some hz_4
        obtain ⟨x_5, hx_5, hbx_5, hz_4⟩ := hz_4
        refine rts _ rfl (opD_indexAddr_sl (i := t_2.2.1.toNat) Go.Proofs.Tryd.underlying54 sz60_u9c (ls rfl lz) lz hbx_5.2.2 hbx_5.2.1) ?_
        refine rts _ rfl (opD_fieldAddr_el fo60_4_u9c lz) ?_
        refine rts _ rfl (opD_load_el_one ag9_u9c lz hx_5 rfl) ?_
        refine rts _ rfl (opD_len_str Go.Proofs.Tryd.underlying9 lz) ?_
        refine rts _ rfl (opD_gtr lz (ev_const _ _)) ?_
        refine rts _ rfl (opD_move lz) ?_
        refine rtg _ rfl lz (fun hg6_8_137 => opD_move (ls rfl (ls rfl (ls rfl (ls rfl (ls rfl (ls rfl (ls rfl (ls rfl oz))))))))) ?_
        refine rtg _ rfl (ls rfl lz) (fun hg6_9_138 => opD_move (ls rfl (ls rfl (ls rfl (ls rfl (ls rfl (ls rfl (ls rfl (ls rfl (ls rfl (os rfl (os rfl (os rfl oz))))))))))))) ?_
        replace hz_4 := grd_some hz_4
        obtain ⟨hg_140, hz_4⟩ := hz_4
        refine rtg _ rfl (ls rfl (ls rfl lz)) (fun hg6_10_139 => opD_indexAddr_sl (i := t_2.2.1.toNat) Go.Proofs.Tryd.underlying54 sz60_u9c ((ls rfl lz).trans (pif_pos hg6_10_139)) (lz.trans (pif_pos hg6_10_139)) (hg_140 hg6_10_139).eq (hg_140 hg6_10_139).2) ?_
        refine rtg _ rfl (ls rfl (ls rfl (ls rfl lz))) (fun hg6_11_141 => opD_fieldAddr_el fo60_1_u9c (lz.trans (pif_pos hg6_11_141))) ?_
        refine rtg _ rfl (ls rfl (ls rfl (ls rfl (ls rfl lz)))) (fun hg6_12_142 => opD_load_el_one ag22_u9c (lz.trans (pif_pos hg6_12_142)) (at_getD default (hg_140 hg6_12_142).2) rfl) ?_
        refine rtg _ rfl (ls rfl (ls rfl (ls rfl (ls rfl (ls rfl lz))))) (fun hg6_13_143 => opD_gtr (lz.trans (pif_pos hg6_13_143)) (ev_const _ _)) ?_
        refine rts _ rfl (opD_or (ls rfl (ls rfl (ls rfl (ls rfl (ls rfl (ls rfl lz)))))) lz) ?_
        refine .nil ?_
        refine aw_keep [(0, _), (3, _), (4, _), (5, _), (38, _)] ⟨lg (ls rfl (ls rfl (ls rfl (ls rfl (ls rfl (ls rfl (ls rfl (ls rfl (ls rfl (ls rfl (ls rfl (ls rfl (ls rfl (ls rfl (ls rfl oz))))))))))))))), lg (ls rfl (ls rfl (ls rfl (ls rfl (ls rfl (ls rfl (ls rfl (ls rfl (ls rfl (ls rfl (ls rfl (ls rfl (ls rfl (ls rfl (ls rfl (os rfl oz)))))))))))))))), lg (ls rfl (ls rfl (ls rfl (ls rfl (ls rfl (ls rfl (ls rfl (ls rfl (ls rfl (ls rfl (ls rfl (ls rfl (ls rfl (ls rfl (ls rfl (os rfl (os rfl oz))))))))))))))))), lg (ls rfl (ls rfl (ls rfl (ls rfl (ls rfl (ls rfl (ls rfl (ls rfl (ls rfl (ls rfl (ls rfl (ls rfl (ls rfl (ls rfl (ls rfl (os rfl (os rfl (os rfl oz)))))))))))))))))), lg lz, trivial⟩ ?_
        refine aw_cond _ (os rfl (os rfl (os rfl (os rfl oz)))) (fun hc => ?_) (fun hc => ?_)
        · skip
          replace hz_4 := ifb_t hz_4 hc
          clear hc
          refine aw_exit ?_
          refine wk_yesN rfl (l := [(0, sl kLin none none p0), (3, ptr (s.boxes.length + 0) 0), (4, sl kLin (some (s.fr.length + 0)) none t_2.1), (5, pl (.int .i64 t_2.2.1))]) (bs' := [⟨57, [pl (.int .u64 t_2.2.2.Dropped), sl kLin none none t_2.2.2.L]⟩]) ⟨le_of_eq (eg oz), le_of_eq (eg (os rfl oz)), le_of_eq (eg (os rfl (os rfl oz))), le_of_eq (eg (os rfl (os rfl (os rfl oz)))), trivial⟩ (bnd_cons (sl_b kb_Lin) (bnd_cons (ptr_bnd _ (by first | omega | (simp only [List.length_append, List.length_cons, List.length_nil]; omega))) (bnd_cons (sl_ob kb_Lin (by first | omega | (simp only [List.length_append, List.length_cons, List.length_nil, ext_fr_length, upd_fr_length]; omega))) (bnd_cons (pl_bnd _ _ _) bnd_nil)))) (Nat.le_of_ble_eq_true rfl) (by simp only [na, nb, nc, nd, nf, ng, nh, ni, nj, nk] <;> rfl) (bxle_same bxle_nil) rfl (by simp only [na, nb, nc, nd, nf, ng, nh, ni, nj, nk] <;> rfl) (bl_cons (bnd_cons (pl_bnd _ _ _) (bnd_cons (sl_b kb_Lin) bnd_nil)) bl_nil) ?_
          exact ⟨(t_2.1, t_2.2.2), ⟨le_of_eq (eg oz), le_of_eq (eg (os rfl oz)), le_of_eq (eg (os rfl (os rfl oz))), le_of_eq (eg (os rfl (os rfl (os rfl oz)))), trivial⟩, rfl, some_of hz_4⟩
        · skip
          replace hz_4 := ifb_f hz_4 hc
          clear hc
          refine aw_skip ?_
          refine aw_keep [(0, _), (3, _), (4, _), (5, _)] ⟨lg oz, lg (os rfl oz), lg (os rfl (os rfl oz)), lg (os rfl (os rfl (os rfl oz))), trivial⟩ ?_
          refine aw_seq ?_
          refine aw_drawn [false, false, false, false, false, false, false, false, false, true, true, false] [[0, 1], [0, 1], [0, 1], [0, 1], [0, 1], [0, 1], [0, 1], [0, 1], [0, 1, 2], [0, 1], [1, 2], [2]] mixed_u9c (by decide +kernel) ?_
          refine dtlGA (qs := [_, _]) ag57_u9c sz57_u9c (os rfl oz) (loc_getN rfl rfl) (Nat.le_of_ble_eq_true rfl) rfl rfl ?_
          refine dtp _ rfl (fun s => opD_move (ls rfl oz)) ?_
          refine dtp _ rfl (fun s => opD_move (ls rfl (ls rfl (os rfl (os rfl (os rfl oz)))))) ?_
          replace hz_4 := ixb_some hz_4
          obtain ⟨x_6, hx_6, hbx_6, hz_4⟩ := hz_4
          refine dtp _ rfl (fun s => opD_indexAddr_sl (i := t_2.2.1.toNat) Go.Proofs.Tryd.underlying54 sz60_u9c (ls rfl lz) lz hbx_6.2.2 hbx_6.2.1) ?_
          refine dtp _ rfl (fun s => opD_load_el_aggX (qs := [_, _, _, _, _]) ag60_u9c sz60_u9c lz hx_6 (Nat.le_of_ble_eq_true rfl) rfl) ?_
          replace hz_4 := bnd_some hz_4
          obtain ⟨x_7, hx_7, hz_4⟩ := hz_4
          refine dtp _ rfl (fun s => opD_pure ht35_u9c (c_ladd hx_7) ⟨(le_of_eq (ls rfl (ls rfl (ls rfl (ls rfl lz))))).trans (agg_le ⟨(Pd.le_refl _), (Pd.le_refl _), trivial⟩), (le_of_eq lz).trans (agg_le ⟨(Pd.le_refl _), (Pd.le_refl _), (Pd.le_refl _), (Pd.le_refl _), (Pd.le_refl _), trivial⟩), trivial⟩) ?_
          refine dtp _ rfl (fun s => opD_move lz) ?_
          refine dtp _ rfl (fun s => opD_extract lz rfl) ?_
          refine dtp _ rfl (fun s => opD_extract (ls rfl lz) rfl) ?_
          refine dta _ rfl (allocN rfl zt57_u9c (by first | exact List.length_nil | (simp only [List.length_cons, List.length_nil, Nat.zero_add, Nat.reduceAdd] <;> rfl)) (by simp only [na, nb, nc, nd, nf, ng, nh, ni, nj, nk] <;> rfl)) ?_
          refine dta _ rfl (storeAN rfl sz57_u9c lz (ls rfl (ls rfl lz)) (ones_cons (one_pl rfl) (ones_cons (one_sl _ _ _ _) ones_nil)) rfl rfl (Nat.le_of_ble_eq_true rfl) (List.cons_ne_nil _ _) (bnd_cons (pl_bnd _ _ _) (bnd_cons (sl_b kb_Lin) bnd_nil)) (by simp only [na, nb, nc, nd, nf, ng, nh, ni, nj, nk] <;> rfl) (by simp only [na, nb, nc, nd, nf, ng, nh, ni, nj, nk] <;> rfl)) ?_
          refine dtp _ rfl (fun s => opD_assign (lx (ls rfl lz))) ?_
          refine .nil ?_
          dsimp only [List.nil_append, List.cons_append]
          refine ⟨rfl, ⟨⟨(by first | exact loc_getN rfl rfl | exact updx_get hlt | exact upd2_g hgh hlt | exact upd2_h hlt2), (by first | exact loc_getN rfl rfl | exact updx_get hlt | exact upd2_g hgh hlt | exact upd2_h hlt2), trivial⟩, trivial, trivial, trivial, trivial, trivial, trivial, trivial, trivial, trivial, trivial, trivial, trivial⟩, ?_⟩
          refine aw_keep [(0, _), (3, _), (4, _), (5, _), (6, _), (7, _)] ⟨lg (ls rfl (lx (ls rfl (ls rfl (ls rfl (ls rfl (ls rfl (ls rfl (ls rfl (ls rfl (ls rfl (ls rfl oz)))))))))))), lg (ls rfl (lx (ls rfl (ls rfl (ls rfl (ls rfl (ls rfl (ls rfl (ls rfl (ls rfl (ls rfl (ls rfl (os rfl oz))))))))))))), lg (ls rfl (lx (ls rfl (ls rfl (ls rfl (ls rfl (ls rfl (ls rfl (ls rfl (ls rfl (ls rfl (ls rfl (os rfl (os rfl oz)))))))))))))), lg (ls rfl (lx (ls rfl (ls rfl (ls rfl (ls rfl (ls rfl (ls rfl (ls rfl (ls rfl (ls rfl (ls rfl (os rfl (os rfl (os rfl oz))))))))))))))), lg (ls rfl (lx lz)), lg lz, trivial⟩ ?_
          refine aw_seq ?_
          refine aw_seq ?_
          refine aw_region (by decide) ?_
          refine rts _ rfl (opD_move (os rfl (os rfl (os rfl (os rfl (os rfl oz)))))) ?_
          refine rts _ rfl (opD_bin lz (ev_const _ _) (fun w => errV_guard _ w _) (fun w => errV_beq _ w)) ?_
          refine .nil ?_
          refine aw_keep [(0, _), (3, _), (4, _), (5, _), (6, _), (49, _)] ⟨lg (ls rfl (ls rfl oz)), lg (ls rfl (ls rfl (os rfl oz))), lg (ls rfl (ls rfl (os rfl (os rfl oz)))), lg (ls rfl (ls rfl (os rfl (os rfl (os rfl oz))))), lg (ls rfl (ls rfl (os rfl (os rfl (os rfl (os rfl oz)))))), lg lz, trivial⟩ ?_
          refine aw_cond _ (os rfl (os rfl (os rfl (os rfl (os rfl oz))))) (fun hc => ?_) (fun hc => ?_)
          · skip
            replace hz_4 := ifb_t hz_4 hc
            clear hc
            refine aw_seq ?_
            refine aw_region (by decide) ?_
            refine rts _ rfl (opD_assign (ev_const _ _)) ?_
            refine .nil ?_
            refine aw_keep [(2, _)] ⟨lg lz, trivial⟩ ?_
            refine aw_ret ?_
            obtain rfl := some_of hz_4
            replace hz_3 := ocs_l hz_3
            obtain rfl := some_of hz_3
            replace hz_1 := ocs_r hz_1
            obtain rfl := some_of hz_1
            replace h0 := ocs_l h0
            refine wk_no ?_
            refine wk_no ?_
            refine wk_no ?_
            obtain rfl := some_of h0
            exact done_ext (.inr rfl) ((res_one rfl (it_tmp oz)).le (Pd.le_refl _)) (pl_bnd _ _ _)
          · skip
            replace hz_4 := ifb_f hz_4 hc
            clear hc
            refine aw_skip ?_
            refine aw_keep [(0, _), (3, _), (4, _), (5, _), (6, _)] ⟨lg oz, lg (os rfl oz), lg (os rfl (os rfl oz)), lg (os rfl (os rfl (os rfl oz))), lg (os rfl (os rfl (os rfl (os rfl oz)))), trivial⟩ ?_
            refine aw_seq ?_
            refine aw_region (by decide) ?_
            refine rts _ rfl (opD_load_aggX (qs := [_, _]) ag57_u9c sz57_u9c (os rfl (os rfl (os rfl (os rfl oz)))) (loc_getN rfl rfl) (Nat.le_of_ble_eq_true rfl) rfl) ?_
            refine rts _ rfl (storeAN rfl sz57_u9c (ls rfl (os rfl oz)) lz (ones_cons (one_pl rfl) (ones_cons (one_sl _ _ _ _) ones_nil)) rfl rfl (Nat.le_of_ble_eq_true rfl) (List.cons_ne_nil _ _) (bnd_cons (pl_bnd _ _ _) (bnd_cons (sl_b kb_Lin) bnd_nil)) (by simp only [na, nb, nc, nd, nf, ng, nh, ni, nj, nk] <;> rfl) (by simp only [na, nb, nc, nd, nf, ng, nh, ni, nj, nk] <;> rfl)) ?_
            refine .nil ?_
            refine aw_keep [(0, _), (3, _), (4, _), (5, _)] ⟨lg (lx (ls rfl oz)), lg (lx (ls rfl (os rfl oz))), lg (lx (ls rfl (os rfl (os rfl oz)))), lg (lx (ls rfl (os rfl (os rfl (os rfl oz))))), trivial⟩ ?_
            refine aw_seq ?_
            refine aw_region (by decide) ?_
            refine rts _ rfl (opD_move oz) ?_
            refine rts _ rfl (opD_move (ls rfl (os rfl (os rfl (os rfl oz))))) ?_
            replace hz_4 := ixb_some hz_4
            obtain ⟨x_8, hx_8, hbx_8, hz_4⟩ := hz_4
            refine rts _ rfl (opD_indexAddr_sl (i := t_2.2.1.toNat) Go.Proofs.Tryd.underlying54 sz60_u9c (ls rfl lz) lz hbx_8.2.2 hbx_8.2.1) ?_
            refine rts _ rfl (opD_load_el_aggX (qs := [_, _, _, _, _]) ag60_u9c sz60_u9c lz hx_8 (Nat.le_of_ble_eq_true rfl) rfl) ?_
            refine rts _ rfl (allocN rfl zt60_u9c (by first | exact List.length_nil | (simp only [List.length_cons, List.length_nil, Nat.zero_add, Nat.reduceAdd] <;> rfl)) (by simp only [na, nb, nc, nd, nf, ng, nh, ni, nj, nk] <;> rfl)) ?_
            refine rts _ rfl (storeAN rfl sz60_u9c lz (ls rfl lz) (ones_cons (one_pl rfl) (ones_cons (one_pl rfl) (ones_cons (one_pl rfl) (ones_cons (one_pl rfl) (ones_cons (one_pl rfl) ones_nil))))) rfl rfl (Nat.le_of_ble_eq_true rfl) (List.cons_ne_nil _ _) (bnd_cons (pl_bnd _ _ _) (bnd_cons (pl_bnd _ _ _) (bnd_cons (pl_bnd _ _ _) (bnd_cons (pl_bnd _ _ _) (bnd_cons (pl_bnd _ _ _) bnd_nil))))) (by simp only [na, nb, nc, nd, nf, ng, nh, ni, nj, nk] <;> rfl) (by simp only [na, nb, nc, nd, nf, ng, nh, ni, nj, nk] <;> rfl)) ?_
            refine .nil ?_
            refine aw_keep [(0, _), (3, _), (4, _), (5, _), (8, _)] ⟨lg (lx (ls rfl (ls rfl (ls rfl (ls rfl (ls rfl oz)))))), lg (lx (ls rfl (ls rfl (ls rfl (ls rfl (ls rfl (os rfl oz))))))), lg (lx (ls rfl (ls rfl (ls rfl (ls rfl (ls rfl (os rfl (os rfl oz)))))))), lg (lx (ls rfl (ls rfl (ls rfl (ls rfl (ls rfl (os rfl (os rfl (os rfl oz))))))))), lg (lx lz), trivial⟩ ?_
            refine aw_seq ?_
            refine aw_region (by decide) ?_
            refine rts _ rfl (opD_move (os rfl (os rfl oz))) ?_
            refine rts _ rfl (opD_len_sl Go.Proofs.Tryd.underlying54 lz) ?_
            refine rts _ rfl (opD_conv_int Go.Proofs.Tryd.underlying3 Go.Proofs.Tryd.underlying22 lz rfl) ?_
            refine rts _ rfl (opD_add lz (ev_const _ _) rfl) ?_
            refine rts _ rfl (opD_fieldAddr fo60_0_u9c (ls rfl (ls rfl (ls rfl (ls rfl (os rfl (os rfl (os rfl (os rfl oz))))))))) ?_
            refine rts _ rfl (storeON rfl sz22_u9c lz (le_of_eq (ls rfl lz)) (one_pl rfl) rfl (Nat.le_of_ble_eq_true rfl) (pl_bnd _ _ _) (by simp only [na, nb, nc, nd, nf, ng, nh, ni, nj, nk] <;> rfl) (by simp only [na, nb, nc, nd, nf, ng, nh, ni, nj, nk] <;> rfl)) ?_
            refine .nil ?_
            refine aw_keep [(0, _), (3, _), (4, _), (5, _), (8, _)] ⟨lg (lx (ls rfl (ls rfl (ls rfl (ls rfl (ls rfl oz)))))), lg (lx (ls rfl (ls rfl (ls rfl (ls rfl (ls rfl (os rfl oz))))))), lg (lx (ls rfl (ls rfl (ls rfl (ls rfl (ls rfl (os rfl (os rfl oz)))))))), lg (lx (ls rfl (ls rfl (ls rfl (ls rfl (ls rfl (os rfl (os rfl (os rfl oz))))))))), lg (lx (ls rfl (ls rfl (ls rfl (ls rfl (ls rfl (os rfl (os rfl (os rfl (os rfl oz)))))))))), trivial⟩ ?_
            refine aw_region (by decide) ?_
            refine rts _ rfl (opD_move (os rfl (os rfl oz))) ?_
            refine rts _ rfl (opD_load_aggX (qs := [_, _, _, _, _]) ag60_u9c sz60_u9c (ls rfl (os rfl (os rfl (os rfl (os rfl oz))))) (loc_getN rfl rfl) (Nat.le_of_ble_eq_true rfl) rfl) ?_
            refine rts _ rfl (opD_buildOwn (k := kLin) ([(⟨IntKind.u64.wrap ((IntKind.u64.wrap ((t_2.1.length : Int))) + 1), x_8.Who, x_8.What, x_8.Code, x_8.Key⟩ : Lin)] : (List Lin)) Go.Proofs.Tryd.underlying54 sz60_u9c zt60_u9c (by decide) rfl (parts_cons (cellsA lz) parts_nil) rfl rfl (by first | exact List.length_nil | (simp only [List.length_cons, List.length_nil, Nat.zero_add, Nat.reduceAdd] <;> rfl)) (by simp only [na, nb, nc, nd, nf, ng, nh, ni, nj, nk] <;> rfl)) ?_
            replace hz_4 := grd_some hz_4
            obtain ⟨hg_144, hz_4⟩ := hz_4
            refine rts _ rfl (opD_appendX Go.Proofs.Tryd.underlying54 el60_u9c (ls rfl (ls rfl lz)) lz rfl hg_144.1 hg_144.2 rfl (by simp only [na, nb, nc, nd, nf, ng, nh, ni, nj, nk] <;> rfl)) ?_
            refine rts _ rfl (opD_assign lz) ?_
            refine .nil ?_
            refine wk_yesN rfl (l := [(0, sl kLin none none p0), (3, ptr (s.boxes.length + 0) 0), (4, sl kLin (some (s.fr.length + 0)) none (t_2.1 ++ ([(⟨IntKind.u64.wrap ((IntKind.u64.wrap ((t_2.1.length : Int))) + 1), x_8.Who, x_8.What, x_8.Code, x_8.Key⟩ : Lin)] : (List Lin)))), (5, pl (.int .i64 t_2.2.1))]) (bs' := [⟨57, [pl (.int .u64 x_7.1.Dropped), sl kLin none none x_7.1.L]⟩]) ⟨le_of_eq (eg (ls rfl (ls rfl (ls rfl (ls rfl (ls rfl oz)))))), le_of_eq (eg (ls rfl (ls rfl (ls rfl (ls rfl (ls rfl (os rfl oz))))))), le_of_eq (eg lz), le_of_eq (eg (ls rfl (ls rfl (ls rfl (ls rfl (ls rfl (os rfl (os rfl (os rfl oz))))))))), trivial⟩ (bnd_cons (sl_b kb_Lin) (bnd_cons (ptr_bnd _ (by first | omega | (simp only [List.length_append, List.length_cons, List.length_nil]; omega))) (bnd_cons (sl_ob kb_Lin (by first | omega | (simp only [List.length_append, List.length_cons, List.length_nil, ext_fr_length, upd_fr_length]; omega))) (bnd_cons (pl_bnd _ _ _) bnd_nil)))) (Nat.le_of_ble_eq_true rfl) (by simp only [na, nb, nc, nd, nf, ng, nh, ni, nj, nk] <;> rfl) (bxle_same bxle_nil) rfl (by simp only [na, nb, nc, nd, nf, ng, nh, ni, nj, nk] <;> rfl) (bl_cons (bnd_cons (pl_bnd _ _ _) (bnd_cons (sl_b kb_Lin) bnd_nil)) bl_nil) ?_
            exact ⟨((t_2.1 ++ ([(⟨IntKind.u64.wrap ((IntKind.u64.wrap ((t_2.1.length : Int))) + 1), x_8.Who, x_8.What, x_8.Code, x_8.Key⟩ : Lin)] : (List Lin))), x_7.1), ⟨le_of_eq (eg oz), le_of_eq (eg (os rfl oz)), le_of_eq (eg (os rfl (os rfl oz))), le_of_eq (eg (os rfl (os rfl (os rfl oz)))), trivial⟩, rfl, some_of hz_4⟩
      · rintro e st ⟨vz_4, hH, rfl, rfl⟩
        refine aw_keep _ hH ?_
        replace hz_3 := ocs_r hz_3
        refine aw_keep [(0, _), (3, _), (4, _), (5, _)] ⟨lg oz, lg (os rfl oz), lg (os rfl (os rfl oz)), lg (os rfl (os rfl (os rfl oz))), trivial⟩ ?_
        refine aw_region (by decide) ?_
        refine rts _ rfl (opD_move (os rfl (os rfl (os rfl oz)))) ?_
        refine rts _ rfl (opD_add lz (ev_const _ _) rfl) ?_
        refine rts _ rfl (opD_assign lz) ?_
        refine .nil ?_
        obtain rfl := some_of hz_3
        replace hz_1 := ocs_l hz_1
        refine wk_yesN rfl (l := [(0, sl kLin none none p0), (3, ptr (s.boxes.length + 0) 0), (4, sl kLin (some (s.fr.length + 0)) none vz_4.1), (5, pl (.int .i64 (IntKind.i64.wrap (t_2.2.1 + 1))))]) (bs' := [⟨57, [pl (.int .u64 vz_4.2.Dropped), sl kLin none none vz_4.2.L]⟩]) ⟨le_of_eq (eg (ls rfl (ls rfl (ls rfl oz)))), le_of_eq (eg (ls rfl (ls rfl (ls rfl (os rfl oz))))), le_of_eq (eg (ls rfl (ls rfl (ls rfl (os rfl (os rfl oz)))))), le_of_eq (eg lz), trivial⟩ (bnd_cons (sl_b kb_Lin) (bnd_cons (ptr_bnd _ (by first | omega | (simp only [List.length_append, List.length_cons, List.length_nil]; omega))) (bnd_cons (sl_ob kb_Lin (by first | omega | (simp only [List.length_append, List.length_cons, List.length_nil, ext_fr_length, upd_fr_length]; omega))) (bnd_cons (pl_bnd _ _ _) bnd_nil)))) (Nat.le_of_ble_eq_true rfl) (by simp only [na, nb, nc, nd, nf, ng, nh, ni, nj, nk] <;> rfl) (bxle_same bxle_nil) rfl (by simp only [na, nb, nc, nd, nf, ng, nh, ni, nj, nk] <;> rfl) (bl_cons (bnd_cons (pl_bnd _ _ _) (bnd_cons (sl_b kb_Lin) bnd_nil)) bl_nil) ?_
        exact ⟨m_z_3, Nat.lt_succ_self _, (vz_4.1, IntKind.i64.wrap (t_2.2.1 + 1), vz_4.2), ⟨le_of_eq (eg oz), le_of_eq (eg (os rfl oz)), le_of_eq (eg (os rfl (os rfl oz))), le_of_eq (eg (os rfl (os rfl (os rfl oz)))), trivial⟩, rfl, hz_1⟩
    · skip
      replace hz_3 := ifb_f hz_3 hc
      clear hc
      refine aw_exit ?_
      obtain rfl := some_of hz_3
      replace hz_1 := ocs_r hz_1
      refine wk_no ?_
      refine wk_yesN rfl (l := [(3, ptr (s.boxes.length + 0) 0), (4, sl kLin none none t_2.1)]) (bs' := [⟨57, [pl (.int .u64 t_2.2.2.Dropped), sl kLin none none t_2.2.2.L]⟩]) ⟨le_of_eq (eg (os rfl oz)), (le_of_eq (eg (os rfl (os rfl oz)))).trans (sl_le _ (some (s.fr.length + 0)) none _), trivial⟩ (bnd_cons (ptr_bnd _ (by first | omega | (simp only [List.length_append, List.length_cons, List.length_nil]; omega))) (bnd_cons (sl_b kb_Lin) bnd_nil)) (Nat.le_of_ble_eq_true rfl) (by simp only [na, nb, nc, nd, nf, ng, nh, ni, nj, nk] <;> rfl) (bxle_same bxle_nil) rfl (by simp only [na, nb, nc, nd, nf, ng, nh, ni, nj, nk] <;> rfl) (bl_cons (bnd_cons (pl_bnd _ _ _) (bnd_cons (sl_b kb_Lin) bnd_nil)) bl_nil) ?_
      exact ⟨(t_2.1, t_2.2.2), ⟨le_of_eq (eg oz), le_of_eq (eg (os rfl oz)), trivial⟩, rfl, some_of hz_1⟩
  · rintro e st ⟨vz_1, hH, rfl, rfl⟩
    refine aw_keep _ hH ?_
    replace h0 := ocs_r h0
    refine aw_keep [(3, _), (4, _)] ⟨lg oz, lg (os rfl oz), trivial⟩ ?_
    refine aw_seq ?_
    refine aw_region (by decide) ?_
    refine rts _ rfl (opD_move (os rfl oz)) ?_
    refine rts _ rfl (opD_len_sl Go.Proofs.Tryd.underlying54 lz) ?_
    refine rts _ rfl (opD_fieldAddr fo57_1_u9c (ls rfl (ls rfl oz))) ?_
    refine rts _ rfl (opD_load_one ag55_u9c lz (loc_getN rfl rfl) rfl) ?_
    refine rts _ rfl (opD_len_sl Go.Proofs.Tryd.underlying55 lz) ?_
    refine rts _ rfl (opD_sub (ls rfl (ls rfl (ls rfl lz))) lz rfl) ?_
    refine rts _ rfl (opD_assign lz) ?_
    refine .nil ?_
    refine aw_keep [(3, _), (4, _), (9, _)] ⟨lg (ls rfl (ls rfl (ls rfl (ls rfl (ls rfl (ls rfl (ls rfl oz))))))), lg (ls rfl (ls rfl (ls rfl (ls rfl (ls rfl (ls rfl (ls rfl (os rfl oz)))))))), lg lz, trivial⟩ ?_
    refine aw_seq ?_
    refine aw_seq ?_
    refine aw_flat mixed_u9c (by decide +kernel) ?_
    refine zts _ rfl (opD_move (os rfl (os rfl oz))) ?_
    refine zts _ rfl (opD_lss lz (ev_const _ _)) ?_
    refine zts _ rfl (opD_move lz) ?_
    refine ztg _ rfl lz (fun hg15_3_170 => opD_fieldAddr fo57_1_u9c (ls rfl (ls rfl (ls rfl oz)))) ?_
    refine ztg _ rfl (ls rfl lz) (fun hg15_4_171 => opD_load_one ag55_u9c (lz.trans (pif_pos hg15_4_171)) (loc_getN rfl rfl) rfl) ?_
    refine ztg _ rfl (ls rfl (ls rfl lz)) (fun hg15_5_172 => opD_len_sl Go.Proofs.Tryd.underlying55 (lz.trans (pif_pos hg15_5_172))) ?_
    refine ztg _ rfl (ls rfl (ls rfl (ls rfl lz))) (fun hg15_6_173 => opD_gtr (lz.trans (pif_pos hg15_6_173)) (ev_const _ _)) ?_
    refine zts _ rfl (opD_or (ls rfl (ls rfl (ls rfl (ls rfl lz)))) lz) ?_
    refine zts _ rfl (opD_move lz) ?_
    refine ztg _ rfl lz (fun hg15_9_174 => opD_move (ls rfl (ls rfl (ls rfl (ls rfl (ls rfl (ls rfl (ls rfl (ls rfl (ls rfl (os rfl (os rfl oz)))))))))))) ?_
    refine ztg _ rfl (ls rfl lz) (fun hg15_10_175 => opD_gtr (lz.trans (pif_pos hg15_10_175)) (ev_const _ _)) ?_
    refine ztg _ rfl (ls rfl (ls rfl lz)) (fun hg15_11_176 => opD_move (lz.trans (pif_pos hg15_11_176))) ?_
    refine ztg2 _ rfl lz (fun hg15_12_177 => opD_fieldAddr fo57_1_u9c (ls rfl (ls rfl (ls rfl (ls rfl (ls rfl (ls rfl (ls rfl (ls rfl (ls rfl (ls rfl (ls rfl (ls rfl oz))))))))))))) ?_
    refine ztg2 _ rfl (ls rfl lz) (fun hg15_13_178 => opD_load_one ag55_u9c (lz.trans (pif_pos hg15_13_178)) (loc_getN rfl rfl) rfl) ?_
    refine ztg2 _ rfl (ls rfl (ls rfl lz)) (fun hg15_14_179 => opD_len_sl Go.Proofs.Tryd.underlying55 (lz.trans (pif_pos hg15_14_179))) ?_
    refine ztg2 _ rfl (ls rfl (ls rfl (ls rfl lz))) (fun hg15_15_180 => opD_neq (lz.trans (pif_pos hg15_15_180)) (ev_const _ _)) ?_
    refine ztg _ rfl (ls rfl (ls rfl (ls rfl (ls rfl (ls rfl (ls rfl (ls rfl lz))))))) (fun hg15_16_181 => opD_and ((ls rfl (ls rfl (ls rfl (ls rfl lz)))).trans (pif_pos hg15_16_181)) (lz.trans (pif_and hg15_16_181))) ?_
    refine zts _ rfl (opD_or (ls rfl (ls rfl (ls rfl (ls rfl (ls rfl (ls rfl (ls rfl (ls rfl lz)))))))) lz) ?_
    refine zts _ rfl (opD_move lz) ?_
    refine ztg _ rfl lz (fun hg15_19_182 => opD_fieldAddr fo57_0_u9c (ls rfl (ls rfl (ls rfl (ls rfl (ls rfl (ls rfl (ls rfl (ls rfl (ls rfl (ls rfl (ls rfl (ls rfl (ls rfl (ls rfl (ls rfl (ls rfl (ls rfl (ls rfl (ls rfl oz)))))))))))))))))))) ?_
    refine ztg _ rfl (ls rfl lz) (fun hg15_20_183 => opD_load_one ag22_u9c (lz.trans (pif_pos hg15_20_183)) (loc_getN rfl rfl) rfl) ?_
    refine ztg _ rfl (ls rfl (ls rfl lz)) (fun hg15_21_184 => opD_move (ls rfl (ls rfl (ls rfl (ls rfl (ls rfl (ls rfl (ls rfl (ls rfl (ls rfl (ls rfl (ls rfl (ls rfl (ls rfl (ls rfl (ls rfl (ls rfl (ls rfl (ls rfl (ls rfl (ls rfl (ls rfl (os rfl (os rfl oz)))))))))))))))))))))))) ?_
    refine ztg _ rfl (ls rfl (ls rfl (ls rfl lz))) (fun hg15_22_185 => opD_conv_int Go.Proofs.Tryd.underlying3 Go.Proofs.Tryd.underlying22 (lz.trans (pif_pos hg15_22_185)) rfl) ?_
    refine ztg _ rfl (ls rfl (ls rfl (ls rfl (ls rfl lz)))) (fun hg15_23_186 => opD_neq ((ls rfl (ls rfl lz)).trans (pif_pos hg15_23_186)) (lz.trans (pif_pos hg15_23_186))) ?_
    refine zts _ rfl (opD_or (ls rfl (ls rfl (ls rfl (ls rfl (ls rfl lz))))) lz) ?_
    refine zts _ rfl (opD_move lz) ?_
    refine ztg _ rfl lz (fun hg15_26_187 => opD_fieldAddr fo57_1_u9c (ls rfl (ls rfl (ls rfl (ls rfl (ls rfl (ls rfl (ls rfl (ls rfl (ls rfl (ls rfl (ls rfl (ls rfl (ls rfl (ls rfl (ls rfl (ls rfl (ls rfl (ls rfl (ls rfl (ls rfl (ls rfl (ls rfl (ls rfl (ls rfl (ls rfl (ls rfl oz))))))))))))))))))))))))))) ?_
    refine ztg _ rfl (ls rfl lz) (fun hg15_27_188 => opD_load_one ag55_u9c (lz.trans (pif_pos hg15_27_188)) (loc_getN rfl rfl) rfl) ?_
    refine ztg _ rfl (ls rfl (ls rfl lz)) (fun hg15_28_189 => opD_move (ls rfl (ls rfl (ls rfl (ls rfl (ls rfl (ls rfl (ls rfl (ls rfl (ls rfl (ls rfl (ls rfl (ls rfl (ls rfl (ls rfl (ls rfl (ls rfl (ls rfl (ls rfl (ls rfl (ls rfl (ls rfl (ls rfl (ls rfl (ls rfl (ls rfl (ls rfl (ls rfl (ls rfl (os rfl oz)))))))))))))))))))))))))))))) ?_
    refine ztg _ rfl (ls rfl (ls rfl (ls rfl lz))) (fun hg15_29_190 => opD_move (ls rfl (ls rfl (ls rfl (ls rfl (ls rfl (ls rfl (ls rfl (ls rfl (ls rfl (ls rfl (ls rfl (ls rfl (ls rfl (ls rfl (ls rfl (ls rfl (ls rfl (ls rfl (ls rfl (ls rfl (ls rfl (ls rfl (ls rfl (ls rfl (ls rfl (ls rfl (ls rfl (ls rfl (ls rfl (os rfl (os rfl oz)))))))))))))))))))))))))))))))) ?_
    replace h0 := grd_some h0
    obtain ⟨hg_192, h0⟩ := h0
    refine ztg _ rfl (ls rfl (ls rfl (ls rfl (ls rfl lz)))) (fun hg15_30_191 => opD_slice_from ((IntKind.i64.wrap ((vz_1.1.length : Int) - (vz_1.2.L.length : Int))).toNat) Go.Proofs.Tryd.underlying54 sz60_u9c ((ls rfl lz).trans (pif_pos hg15_30_191)) (lz.trans (pif_pos hg15_30_191)) (hg_192 hg15_30_191).eq (hg_192 hg15_30_191).2) ?_
    replace h0 := bnd_some h0
    obtain ⟨x_9, hx_9, h0⟩ := h0
    refine ztg _ rfl (ls rfl (ls rfl (ls rfl (ls rfl (ls rfl lz))))) (fun hg15_31_193 => opD_pure ht36_u9c (c_lare (gif_some hx_9 hg15_31_193)) ⟨le_of_eq ((ls rfl (ls rfl (ls rfl lz))).trans (pif_pos hg15_31_193)), le_of_eq (lz.trans (pif_pos hg15_31_193)), trivial⟩) ?_
    refine ztg _ rfl (ls rfl (ls rfl (ls rfl (ls rfl (ls rfl (ls rfl lz)))))) (fun hg15_32_194 => opD_not (lz.trans (pif_pos hg15_32_194))) ?_
    refine zts _ rfl (opD_or (ls rfl (ls rfl (ls rfl (ls rfl (ls rfl (ls rfl (ls rfl lz))))))) lz) ?_
    refine .nil ?_
    refine aw_keep [(3, _), (4, _), (9, _), (103, _)] ⟨lg (ls rfl (ls rfl (ls rfl (ls rfl (ls rfl (ls rfl (ls rfl (ls rfl (ls rfl (ls rfl (ls rfl (ls rfl (ls rfl (ls rfl (ls rfl (ls rfl (ls rfl (ls rfl (ls rfl (ls rfl (ls rfl (ls rfl (ls rfl (ls rfl (ls rfl (ls rfl (ls rfl (ls rfl (ls rfl (ls rfl (ls rfl (ls rfl (ls rfl (ls rfl oz)))))))))))))))))))))))))))))))))), lg (ls rfl (ls rfl (ls rfl (ls rfl (ls rfl (ls rfl (ls rfl (ls rfl (ls rfl (ls rfl (ls rfl (ls rfl (ls rfl (ls rfl (ls rfl (ls rfl (ls rfl (ls rfl (ls rfl (ls rfl (ls rfl (ls rfl (ls rfl (ls rfl (ls rfl (ls rfl (ls rfl (ls rfl (ls rfl (ls rfl (ls rfl (ls rfl (ls rfl (ls rfl (os rfl oz))))))))))))))))))))))))))))))))))), lg (ls rfl (ls rfl (ls rfl (ls rfl (ls rfl (ls rfl (ls rfl (ls rfl (ls rfl (ls rfl (ls rfl (ls rfl (ls rfl (ls rfl (ls rfl (ls rfl (ls rfl (ls rfl (ls rfl (ls rfl (ls rfl (ls rfl (ls rfl (ls rfl (ls rfl (ls rfl (ls rfl (ls rfl (ls rfl (ls rfl (ls rfl (ls rfl (ls rfl (ls rfl (os rfl (os rfl oz)))))))))))))))))))))))))))))))))))), lg lz, trivial⟩ ?_
    refine aw_cond _ (os rfl (os rfl (os rfl oz))) (fun hc => ?_) (fun hc => ?_)
    · skip
      replace h0 := ifb_t h0 hc
      clear hc
      refine aw_seq ?_
      refine aw_region (by decide) ?_
      refine rts _ rfl (opD_assign (ev_const _ _)) ?_
      refine .nil ?_
      refine aw_keep [(2, _)] ⟨lg lz, trivial⟩ ?_
      refine aw_ret ?_
      obtain rfl := some_of h0
      exact done_ext (.inr rfl) ((res_one rfl (it_tmp oz)).le (Pd.le_refl _)) (pl_bnd _ _ _)
    · skip
      replace h0 := ifb_f h0 hc
      clear hc
      refine aw_skip ?_
      refine aw_keep [(3, _), (4, _), (9, _)] ⟨lg oz, lg (os rfl oz), lg (os rfl (os rfl oz)), trivial⟩ ?_
      refine aw_seq ?_
      refine aw_region (by decide) ?_
      refine rts _ rfl (opD_load_aggX (qs := [_, _]) ag57_u9c sz57_u9c oz (loc_getN rfl rfl) (Nat.le_of_ble_eq_true rfl) rfl) ?_
      replace h0 := bnd_some h0
      obtain ⟨x_10, hx_10, h0⟩ := h0
      refine rts _ rfl (opD_pure ht37_u9c (c_lenc hx_10) ⟨(le_of_eq lz).trans (agg_le ⟨(Pd.le_refl _), (Pd.le_refl _), trivial⟩), trivial⟩) ?_
      refine rts _ rfl (opD_move lz) ?_
      refine rts _ rfl (opD_extract lz rfl) ?_
      refine rts _ rfl (opD_extract (ls rfl lz) rfl) ?_
      refine rts _ rfl (opD_assign (ls rfl lz)) ?_
      refine rts _ rfl (opD_assign (ls rfl lz)) ?_
      refine .nil ?_
      refine aw_keep [(3, _), (4, _), (9, _), (10, _), (11, _)] ⟨lg (ls rfl (ls rfl (ls rfl (ls rfl (ls rfl (ls rfl (ls rfl oz))))))), lg (ls rfl (ls rfl (ls rfl (ls rfl (ls rfl (ls rfl (ls rfl (os rfl oz)))))))), lg (ls rfl (ls rfl (ls rfl (ls rfl (ls rfl (ls rfl (ls rfl (os rfl (os rfl oz))))))))), lg (ls rfl lz), lg lz, trivial⟩ ?_
      refine aw_seq ?_
      refine aw_region (by decide) ?_
      refine rts _ rfl (opD_move (os rfl (os rfl (os rfl oz)))) ?_
      replace h0 := bnd_some h0
      obtain ⟨x_11, hx_11, h0⟩ := h0
      refine rts _ rfl (opD_pure ht38_u9c (c_ldec hx_11) ⟨le_of_eq lz, trivial⟩) ?_
      refine rts _ rfl (opD_move lz) ?_
      refine rts _ rfl (opD_extract lz rfl) ?_
      refine rts _ rfl (opD_extract (ls rfl lz) rfl) ?_
      refine rts _ rfl (allocN rfl zt57_u9c (by first | exact List.length_nil | (simp only [List.length_cons, List.length_nil, Nat.zero_add, Nat.reduceAdd] <;> rfl)) (by simp only [na, nb, nc, nd, nf, ng, nh, ni, nj, nk] <;> rfl)) ?_
      refine rts _ rfl (storeAN rfl sz57_u9c lz (ls rfl (ls rfl lz)) (ones_cons (one_pl rfl) (ones_cons (one_sl _ _ _ _) ones_nil)) rfl rfl (Nat.le_of_ble_eq_true rfl) (List.cons_ne_nil _ _) (bnd_cons (pl_bnd _ _ _) (bnd_cons (sl_b kb_Lin) bnd_nil)) (by simp only [na, nb, nc, nd, nf, ng, nh, ni, nj, nk] <;> rfl) (by simp only [na, nb, nc, nd, nf, ng, nh, ni, nj, nk] <;> rfl)) ?_
      refine rts _ rfl (opD_assign (lx (ls rfl lz))) ?_
      refine .nil ?_
      refine aw_keep [(3, _), (4, _), (9, _), (11, _), (12, _), (13, _)] ⟨lg (ls rfl (lx (ls rfl (ls rfl (ls rfl (ls rfl (ls rfl (ls rfl oz)))))))), lg (ls rfl (lx (ls rfl (ls rfl (ls rfl (ls rfl (ls rfl (ls rfl (os rfl oz))))))))), lg (ls rfl (lx (ls rfl (ls rfl (ls rfl (ls rfl (ls rfl (ls rfl (os rfl (os rfl oz)))))))))), lg (ls rfl (lx (ls rfl (ls rfl (ls rfl (ls rfl (ls rfl (ls rfl (os rfl (os rfl (os rfl (os rfl oz)))))))))))), lg (ls rfl (lx lz)), lg lz, trivial⟩ ?_
      refine aw_seq ?_
      refine aw_flat mixed_u9c (by decide +kernel) ?_
      refine zts _ rfl (opD_move (os rfl (os rfl (os rfl oz)))) ?_
      refine zts _ rfl (opD_bin lz (ev_const _ _) (fun w => errV_geql _ w _) (fun w => errV_eql _ w)) ?_
      refine zts _ rfl (opD_move lz) ?_
      refine ztg _ rfl lz (fun hg19_3_210 => opD_move (ls rfl (ls rfl (ls rfl (os rfl (os rfl (os rfl (os rfl (os rfl oz))))))))) ?_
      refine ztg _ rfl (ls rfl lz) (fun hg19_4_211 => opD_bin (lz.trans (pif_pos hg19_4_211)) (ev_const _ _) (fun w => errV_geql _ w _) (fun w => errV_eql _ w)) ?_
      refine zts _ rfl (opD_and (ls rfl (ls rfl lz)) lz) ?_
      refine zts _ rfl (opD_move lz) ?_
      refine ztg _ rfl lz (fun hg19_7_212 => opD_fieldAddr fo57_0_u9c (ls rfl (ls rfl (ls rfl (ls rfl (ls rfl (ls rfl (ls rfl (os rfl (os rfl (os rfl (os rfl oz)))))))))))) ?_
      refine ztg _ rfl (ls rfl lz) (fun hg19_8_213 => opD_load_one ag22_u9c (lz.trans (pif_pos hg19_8_213)) (loc_getN rfl rfl) rfl) ?_
      refine ztg _ rfl (ls rfl (ls rfl lz)) (fun hg19_9_214 => opD_fieldAddr fo57_0_u9c (ls rfl (ls rfl (ls rfl (ls rfl (ls rfl (ls rfl (ls rfl (ls rfl (ls rfl oz)))))))))) ?_
      refine ztg _ rfl (ls rfl (ls rfl (ls rfl lz))) (fun hg19_10_215 => opD_load_one ag22_u9c (lz.trans (pif_pos hg19_10_215)) (loc_getN rfl rfl) rfl) ?_
      refine ztg _ rfl (ls rfl (ls rfl (ls rfl (ls rfl lz)))) (fun hg19_11_216 => opD_eql ((ls rfl (ls rfl lz)).trans (pif_pos hg19_11_216)) (lz.trans (pif_pos hg19_11_216))) ?_
      refine zts _ rfl (opD_and (ls rfl (ls rfl (ls rfl (ls rfl (ls rfl lz))))) lz) ?_
      refine zts _ rfl (opD_move lz) ?_
      refine ztg _ rfl lz (fun hg19_14_217 => opD_fieldAddr fo57_1_u9c (ls rfl (ls rfl (ls rfl (ls rfl (ls rfl (ls rfl (ls rfl (ls rfl (ls rfl (ls rfl (ls rfl (ls rfl (ls rfl (ls rfl (os rfl (os rfl (os rfl (os rfl oz))))))))))))))))))) ?_
      refine ztg _ rfl (ls rfl lz) (fun hg19_15_218 => opD_load_one ag55_u9c (lz.trans (pif_pos hg19_15_218)) (loc_getN rfl rfl) rfl) ?_
      refine ztg _ rfl (ls rfl (ls rfl lz)) (fun hg19_16_219 => opD_move (ls rfl (ls rfl (ls rfl (ls rfl (ls rfl (ls rfl (ls rfl (ls rfl (ls rfl (ls rfl (ls rfl (ls rfl (ls rfl (ls rfl (ls rfl (ls rfl (os rfl oz)))))))))))))))))) ?_
      refine ztg _ rfl (ls rfl (ls rfl (ls rfl lz))) (fun hg19_17_220 => opD_move (ls rfl (ls rfl (ls rfl (ls rfl (ls rfl (ls rfl (ls rfl (ls rfl (ls rfl (ls rfl (ls rfl (ls rfl (ls rfl (ls rfl (ls rfl (ls rfl (ls rfl (os rfl (os rfl oz)))))))))))))))))))) ?_
      replace h0 := grd_some h0
      obtain ⟨hg_222, h0⟩ := h0
      refine ztg _ rfl (ls rfl (ls rfl (ls rfl (ls rfl lz)))) (fun hg19_18_221 => opD_slice_from ((IntKind.i64.wrap ((vz_1.1.length : Int) - (vz_1.2.L.length : Int))).toNat) Go.Proofs.Tryd.underlying54 sz60_u9c ((ls rfl lz).trans (pif_pos hg19_18_221)) (lz.trans (pif_pos hg19_18_221)) (hg_222 hg19_18_221).eq (hg_222 hg19_18_221).2) ?_
      replace h0 := bnd_some h0
      obtain ⟨x_12, hx_12, h0⟩ := h0
      refine ztg _ rfl (ls rfl (ls rfl (ls rfl (ls rfl (ls rfl lz))))) (fun hg19_19_223 => opD_pure ht36_u9c (c_lare (gif_some hx_12 hg19_19_223)) ⟨le_of_eq ((ls rfl (ls rfl (ls rfl lz))).trans (pif_pos hg19_19_223)), le_of_eq (lz.trans (pif_pos hg19_19_223)), trivial⟩) ?_
      refine zts _ rfl (opD_and (ls rfl (ls rfl (ls rfl (ls rfl (ls rfl (ls rfl lz)))))) lz) ?_
      refine zts _ rfl (opD_move lz) ?_
      replace h0 := bnd_some h0
      obtain ⟨x_13, hx_13, h0⟩ := h0
      refine ztg _ rfl lz (fun hg19_22_224 => opD_call ht39_u9c (c_sure30 (gif_some hx_13 hg19_22_224) hst) trivial) ?_
      refine zts _ rfl (opD_and (ls rfl lz) lz) ?_
      refine zts _ rfl (opD_assign lz) ?_
      refine .nil ?_
      refine aw_keep [(2, _)] ⟨lg lz, trivial⟩ ?_
      refine aw_ret ?_
      obtain rfl := some_of h0
      exact done_ext (.inr rfl) ((res_one rfl (it_tmp oz)).le (Pd.le_refl _)) (pl_bnd _ _ _)
end Go.Proofs.YtmnhfpcbfdgbcaaDoor.Eng.A
