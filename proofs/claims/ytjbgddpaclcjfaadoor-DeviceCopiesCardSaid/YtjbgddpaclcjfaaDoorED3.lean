/- ED3: what functions do, walked; used by the laws of this seat. -/
import Derived.Test.YtjbgddpaclcjfaaDoorED1
import Derived.Test.YtjbgddpaclcjfaaDoorED2
namespace Go.Proofs.YtjbgddpaclcjfaaDoor.Eng.A
set_option linter.unusedVariables false
set_option linter.unusedSimpArgs false
open Go.RowKit Go.Proofs.YtjbgddpaclcjfaaDoor.Plain Go.Proofs.YtjbgddpaclcjfaaDoor.Eng Go.Proofs.YtjbgddpaclcjfaaDoor.Eng.Pk Go.Proofs.YtjbgddpaclcjfaaDoor.Eng.Rd

theorem fo160_2_W4 : fieldOff Go.Proofs.Tryd.prog 160 2 = some 2 := by kernel_rfl
theorem ag158_W4 : aggT Go.Proofs.Tryd.prog 158 = some false := by kernel_rfl
theorem zt165_W4 : zeroT Go.Proofs.Tryd.prog 165 = some [.int .i64 0, .int .i64 0] := by kernel_rfl
theorem sz165_W4 : sizeT Go.Proofs.Tryd.prog 165 = some 2 := by kernel_rfl
theorem ag165_W4 : aggT Go.Proofs.Tryd.prog 165 = some true := by kernel_rfl
theorem ht85_W4 : hasText Go.Proofs.Tryd.prog 85 = true := by kernel_rfl
theorem sz3_W4 : sizeT Go.Proofs.Tryd.prog 3 = some 1 := by kernel_rfl
theorem zt3_W4 : zeroT Go.Proofs.Tryd.prog 3 = some [.int .i64 0] := by kernel_rfl
theorem el3_W4 : elT Go.Proofs.Tryd.prog 3 = some (1, 8) := by kernel_rfl
theorem ht86_W4 : hasText Go.Proofs.Tryd.prog 86 = true := by kernel_rfl
theorem ht18_W4 : hasText Go.Proofs.Tryd.prog 18 = true := by kernel_rfl
theorem ag3_W4 : aggT Go.Proofs.Tryd.prog 3 = some false := by kernel_rfl
theorem sz4_W4 : sizeT Go.Proofs.Tryd.prog 4 = some 1 := by kernel_rfl
theorem ag4_W4 : aggT Go.Proofs.Tryd.prog 4 = some false := by kernel_rfl
theorem ht83_W4 : hasText Go.Proofs.Tryd.prog 83 = true := by kernel_rfl
theorem ht84_W4 : hasText Go.Proofs.Tryd.prog 84 = true := by kernel_rfl
theorem fo160_3_W4 : fieldOff Go.Proofs.Tryd.prog 160 3 = some 3 := by kernel_rfl
theorem fo160_4_W4 : fieldOff Go.Proofs.Tryd.prog 160 4 = some 4 := by kernel_rfl
theorem ag160_W4 : aggT Go.Proofs.Tryd.prog 160 = some true := by kernel_rfl
theorem sz160_W4 : sizeT Go.Proofs.Tryd.prog 160 = some 5 := by kernel_rfl
theorem zt160_W4 : zeroT Go.Proofs.Tryd.prog 160 = some [.int .i64 0, .map none, .map none, .int .i64 0, .bool false] := by kernel_rfl
theorem fo160_1_W4 : fieldOff Go.Proofs.Tryd.prog 160 1 = some 1 := by kernel_rfl
theorem ht88_W4 : hasText Go.Proofs.Tryd.prog 88 = true := by kernel_rfl
theorem sz158_W4 : sizeT Go.Proofs.Tryd.prog 158 = some 1 := by kernel_rfl
theorem mixed_W4 : Go.Proofs.Tryd.prog.follows .mixedOrders = true := by kernel_rfl

open Go.Proofs.YtjbgddpaclcjfaaDoor.Eng.Er

noncomputable def F_dWaiting_b0 (x_ : Option (At × (List Int))) (t_7 : Nat × (List Int)) : Option ((Nat × (List Int)) ⊕ (((List Int) × Nat))) :=
  opc x_ (some (.inr (t_7.2, t_7.1))) (fun y_1 => bnd (F_dnumber y_1.1) fun x_9 => grd (t_7.1 = t_7.2.length) <| grd (Fits 8 (t_7.2.length + ([x_9] : (List Int)).length)) <| some (.inl ((t_7.2 ++ ([x_9] : (List Int))).length, (t_7.2 ++ ([x_9] : (List Int))))))
noncomputable def F_dWaiting (p0 : Dev) : Option ((List Int)) :=
  enm p0.waits_ fun l_1 => bnd (lpm (F_dWaiting_b0) l_1 (([] : List Int).length, ([] : (List Int)))) fun z_3 => grd (z_3.2 = z_3.1.length) <| bnd (F_sortI z_3.1) fun x_10 => grd (z_3.2 = x_10.length) <| some x_10
set_option maxRecDepth 100000 in
set_option maxHeartbeats 2000000 in
theorem c_dWaiting {p0 : Dev} {R : (List Int)} {s : St} {M0 : Pd} {M1 : Pd} {g0 g1 g2 : Nat} (h0 : F_dWaiting p0 = some R) (hU : UD s.boxes.length [g0, g1, g2]) (hB0 : s.boxes[g0]? = some ⟨HOT, [M0]⟩) (hB1 : s.boxes[g1]? = some ⟨HOT, [M1]⟩) (hB2 : s.boxes[g2]? = some ⟨160, [pl (.int .i64 p0.pages_), mref g0, mref g1, pl (.int .i64 p0.left_), pl (.bool p0.down_)]⟩) (hM0 : M0.le (mpf KM_dev p0.safe_)) (hMb0 : ∀ n m, M0.Bnd n m) (hM1 : M1.le (mpf KM_dev p0.waits_)) (hMb1 : ∀ n m, M1.Bnd n m) : AC Go.Proofs.Tryd.prog 18 [ptr g2 0] s (sl (kI .i64) none none R) s := by
  obtain ⟨N, hNs⟩ : ∃ N, s.boxes.length = N := ⟨_, rfl⟩
  have hUN : UD N [g0, g1, g2] := hNs ▸ hU
  obtain ⟨hl0, ⟨hn01, ⟨hn02, -⟩⟩, ⟨hl1, ⟨hn12, -⟩, ⟨hl2, -, -⟩⟩⟩ := hUN
  unfold F_dWaiting at h0
  refine ac_of_aw s.boxes.length s.fr.length Go.Proofs.Tryd.func18 rfl (by simp [Go.Proofs.Tryd.ntmps18]) ?_
  refine aw_ext0 ?_
  refine aw_updL0 (l := [(g0, ⟨HOT, [M0]⟩), (g1, ⟨HOT, [M1]⟩), (g2, ⟨160, [pl (.int .i64 p0.pages_), mref g0, mref g1, pl (.int .i64 p0.left_), pl (.bool p0.down_)]⟩)]) ⟨hB0, hB1, hB2, trivial⟩ ?_
  refine aw_keep [(0, _)] ⟨lg ez, trivial⟩ ?_
  refine aw_seq ?_
  refine aw_region (by decide) ?_
  refine rts _ rfl (opD_assign (ev_const _ _)) ?_
  refine .nil ?_
  refine aw_keep [(0, _)] ⟨lg (ls rfl oz), trivial⟩ ?_
  refine aw_seq ?_
  refine aw_seq ?_
  refine aw_region (by decide) ?_
  refine rts _ rfl (opD_move oz) ?_
  refine rts _ rfl (opD_ptr_eqnil Go.Proofs.Tryd.underlying24 lz) ?_
  refine .nil ?_
  refine aw_keep [(0, _), (6, _)] ⟨lg (ls rfl (ls rfl oz)), lg lz, trivial⟩ ?_
  refine aw_cond _ (os rfl oz) (fun hc => ?_) (fun hc => ?_)
  · skip
    cases hc
  · skip
    refine aw_skip ?_
    refine aw_keep [(0, _)] ⟨lg oz, trivial⟩ ?_
    refine aw_seq ?_
    refine aw_region (by decide) ?_
    refine rts _ rfl (opD_assign (ev_const _ _)) ?_
    refine .nil ?_
    refine aw_keep [(0, _), (3, _)] ⟨lg (ls rfl oz), lg lz, trivial⟩ ?_
    refine aw_hotnilN (k := (kI .i64)) (te := 3) (r := 2) ((updL_len _ _).trans hNs) rfl 3 (os rfl oz) (by first | exact List.length_nil | (simp only [List.length_cons, List.length_nil, Nat.zero_add, Nat.reduceAdd] <;> rfl)) (by simp only [na, nb, nc, nd, nf, ng, nh, ni, nj, nk] <;> rfl) ?_
    refine aw_seq ?_
    refine aw_seq ?_
    refine aw_openMX (K := KM_dev) (S' := fun ls_1 c_1 => (s.updL [(g0, ⟨HOT, [M0]⟩), (g1, ⟨HOT, [(M1.and (mxp KM_dev ls_1 c_1))]⟩), (g2, ⟨160, [pl (.int .i64 p0.pages_), mref g0, mref g1, pl (.int .i64 p0.left_), pl (.bool p0.down_)]⟩)]).ext [⟨(hot 3 2), (flat (kI .i64) ([] : List Int))⟩] []) (obj_get (k := 1) hU rfl) hM1 hMb1 (fun ls_1 c_1 => (ul_obj (l := [(g0, ⟨HOT, [M0]⟩), (g1, ⟨HOT, [M1]⟩), (g2, ⟨160, [pl (.int .i64 p0.pages_), mref g0, mref g1, pl (.int .i64 p0.left_), pl (.bool p0.down_)]⟩)]) (k := 1) hU rfl rfl (by simp only [na, nb, nc, nd, nf, ng, nh, ni, nj, nk] <;> rfl))) (fun ls_1 c_1 hr_1 hb_1 => ?_)
    refine aw_region (by decide) ?_
    refine rts _ rfl (opD_move (ls rfl oz)) ?_
    refine rts _ rfl (opD_nilCheck_ptr lz) ?_
    refine rts _ rfl (opD_fieldAddr fo160_2_W4 lz) ?_
    refine rts _ rfl (opD_load_one ag158_W4 lz (obj_get (k := 2) hU rfl) rfl) ?_
    refine rts _ rfl (rangeMN (K := KM_dev) ((updL_len _ _).trans hNs) Go.Proofs.Tryd.underlying158 lz (obj_get (k := 1) hU rfl) (and_le2 (Pd.le_refl _)) (by first | exact List.length_nil | (simp only [List.length_cons, List.length_nil, Nat.zero_add, Nat.reduceAdd] <;> rfl)) (by simp only [na, nb, nc, nd, nf, ng, nh, ni, nj, nk] <;> rfl)) ?_
    refine .nil ?_
    refine aw_keep [(3, _), (11, _)] ⟨lg (ls rfl (ls rfl (ls rfl (ls rfl (ls rfl lz))))), lg lz, trivial⟩ ?_
    obtain ⟨K_1, hK_1, hk_1⟩ := enm_k h0
    refine aw_mid (fun e st => ∃ v : (List Int) × Nat, ∃ r_2 : Nat, 2 ≤ r_2 ∧ r_2 % 2 = 0 ∧ Holds e [(3, hsl (N + 0) r_2 0 v.2 (kI .i64).sz)] ∧ st = (s.updL [(g0, ⟨HOT, [M0]⟩), (g1, ⟨HOT, [(M1.and (mxp KM_dev ls_1 c_1))]⟩), (g2, ⟨160, [pl (.int .i64 p0.pages_), mref g0, mref g1, pl (.int .i64 p0.left_), pl (.bool p0.down_)]⟩)]).ext [⟨(hot 3 r_2), (flat (kI .i64) v.1)⟩, ⟨HOT, []⟩] [] ∧ K_1 v = some R) ?_ ?_
    · skip
      refine aw_wkN ((updL_len _ _).trans hNs) 2 0 rfl rfl ?_
      refine aw_block ?_
      refine aw_loop (fun n e st => ∃ v : Nat × (List Int), ∃ r_5 : Nat, 2 ≤ r_5 ∧ r_5 % 2 = 0 ∧ ∃ sn_1 : List Nat, Holds e [(3, hsl (N + 0) r_5 0 v.1 (kI .i64).sz), (11, ptv (N + 1) 1 0)] ∧ st = (s.updL [(g0, ⟨HOT, [M0]⟩), (g1, ⟨HOT, [(M1.and (mxp KM_dev ls_1 c_1))]⟩), (g2, ⟨160, [pl (.int .i64 p0.pages_), mref g0, mref g1, pl (.int .i64 p0.left_), pl (.bool p0.down_)]⟩)]).ext [⟨(hot 3 r_5), (flat (kI .i64) v.2)⟩, ⟨HOT, [itp g1 c_1 sn_1]⟩] [] ∧ LpmK (F_dWaiting_b0) ls_1 sn_1 v K_1 R ∧ n = (rest ls_1 sn_1).length) _ ⟨(([] : List Int).length, ([] : (List Int))), 2, (by omega), (by omega), [], ⟨le_of_eq (eg oz), le_of_eq (eg (os rfl oz)), trivial⟩, rfl, lpk_start hk_1 hr_1, rfl⟩ ?_
      rintro n e st ⟨t_7, r_5, hr_5, er_5, sn_1, hH, rfl, hk_1, rfl⟩
      refine aw_keep _ hH ?_
      refine aw_wkN ((updL_len _ _).trans hNs) 2 0 rfl rfl ?_
      refine aw_seq ?_
      refine aw_region_n (by decide) rfl (opN_nextMX (K := KM_dev) (S' := fun n_ => (s.updL [(g0, ⟨HOT, [M0]⟩), (g1, ⟨HOT, [(M1.and (mxp KM_dev ls_1 c_1))]⟩), (g2, ⟨160, [pl (.int .i64 p0.pages_), mref g0, mref g1, pl (.int .i64 p0.left_), pl (.bool p0.down_)]⟩)]).ext [⟨(hot 3 r_5), (flat (kI .i64) t_7.2)⟩, ⟨HOT, [itp g1 c_1 (sn_1 ++ [n_])]⟩] []) (os rfl oz) (loc_getN ((updL_len _ _).trans hNs) rfl) (obj_get (k := 1) hU rfl) (and_le2 (Pd.le_refl _)) hb_1 (fun n_ => (ul_loc (k := 1) ((updL_len _ _).trans hNs) rfl (by simp only [na, nb, nc, nd, nf, ng, nh, ni, nj, nk] <;> rfl)))) ?_
      rintro p_ s1_ (⟨rfl, rfl, ha_1⟩ | ⟨y_1, b_1, hy_1, hn_1, rfl, rfl⟩)
      · skip
        obtain ⟨z_8, hz_8, hk_1⟩ := lpk_end hk_1 ha_1
        unfold F_dWaiting_b0 at hz_8
        replace hz_8 := opc_n hz_8 rfl
        refine rts _ rfl (opD_extract lz rfl) ?_
        refine .nil ?_
        refine aw_keep [(3, _), (13, _)] ⟨lg (ls rfl (ls rfl oz)), lg lz, trivial⟩ ?_
        refine aw_kill (bs' := [⟨(hot 3 r_5), (flat (kI .i64) t_7.2)⟩, ⟨HOT, []⟩]) ⟨rfl, .inl rfl, ⟨rfl, .inr rfl, trivial⟩⟩ ?_
        refine aw_seq ?_
        refine aw_cond _ (os rfl oz) (fun hc => ?_) (fun hc => ?_)
        · skip
          cases hc
        · skip
          refine aw_exit ?_
          obtain rfl := some_of hz_8
          replace hk_1 := lpk_e hk_1
          refine wk_no ?_
          refine wk_yesL [(g0, ⟨HOT, [M0]⟩), (g1, ⟨HOT, [(M1.and (mxp KM_dev ls_1 c_1))]⟩), (g2, ⟨160, [pl (.int .i64 p0.pages_), mref g0, mref g1, pl (.int .i64 p0.left_), pl (.bool p0.down_)]⟩)] hNs (by rfl) ⟨(bnd_cons (hMb0 _ _) bnd_nil), (bnd_cons ((fun _ _ => and_bnd (hMb1 _ _) mxp_bnd) _ _) bnd_nil), (bnd_cons (pl_bnd _ _ _) (bnd_cons (mref_bnd _ (by first | omega | (simp only [List.length_append, List.length_cons, List.length_nil]; omega))) (bnd_cons (mref_bnd _ (by first | omega | (simp only [List.length_append, List.length_cons, List.length_nil]; omega))) (bnd_cons (pl_bnd _ _ _) (bnd_cons (pl_bnd _ _ _) bnd_nil))))), trivial⟩ (l := [(3, hsl (N + 0) r_5 0 t_7.1 (kI .i64).sz)]) (bs' := [⟨(hot 3 r_5), (flat (kI .i64) t_7.2)⟩, ⟨HOT, []⟩]) ⟨le_of_eq (eg oz), trivial⟩ (bnd_cons (hsl_bnd _ (by first | omega | (simp only [List.length_append, List.length_cons, List.length_nil]; omega))) bnd_nil) (Nat.le_of_ble_eq_true rfl) (by simp only [na, nb, nc, nd, nf, ng, nh, ni, nj, nk] <;> rfl) (bxle_same (bxle_same bxle_nil)) rfl (by simp only [na, nb, nc, nd, nf, ng, nh, ni, nj, nk] <;> rfl) (bl_cons (flatKB (kb_I _)) (bl_cons bnd_nil bl_nil)) ?_
          exact ⟨(t_7.2, t_7.1), r_5, (by omega), (by omega), ⟨le_of_eq (eg oz), trivial⟩, rfl, hk_1⟩
      · skip
        obtain ⟨z_8, hz_8, hk_1⟩ := lpk_next (y := (y_1, b_1)) hk_1 hb_1.inc hy_1 hn_1
        unfold F_dWaiting_b0 at hz_8
        replace hz_8 := opc_s (a := y_1) hz_8 rfl
        refine rts _ rfl (opD_extract lz rfl) ?_
        refine .nil ?_
        refine aw_keep [(3, _), (11, _), (13, _)] ⟨lg (ls rfl (ls rfl oz)), lg (ls rfl (ls rfl (os rfl oz))), lg lz, trivial⟩ ?_
        refine aw_seq ?_
        refine aw_cond _ (os rfl (os rfl oz)) (fun hc => ?_) (fun hc => ?_)
        · skip
          refine aw_skip ?_
          refine aw_keep [(3, _), (11, _)] ⟨lg oz, lg (os rfl oz), trivial⟩ ?_
          refine aw_block ?_
          refine aw_seq ?_
          refine aw_region (by decide) ?_
          refine rts _ rfl (opD_entryMX (K := KM_dev) (y := y_1) (n := b_1) (seen := sn_1) (os rfl oz) (loc_getN ((updL_len _ _).trans hNs) rfl) (obj_get (k := 1) hU rfl) (and_le2 (Pd.le_refl _)) hb_1 hy_1 (KM_dev_kge _) (KM_dev_vge _)) ?_
          refine rts _ rfl (opD_extract lz rfl) ?_
          refine rts _ rfl (allocN ((updL_len _ _).trans hNs) zt165_W4 (by first | exact List.length_nil | (simp only [List.length_cons, List.length_nil, Nat.zero_add, Nat.reduceAdd] <;> rfl)) (by simp only [na, nb, nc, nd, nf, ng, nh, ni, nj, nk] <;> rfl)) ?_
          refine rts _ rfl (storeAN ((updL_len _ _).trans hNs) sz165_W4 lz (ls rfl lz) (ones_cons (one_pl rfl) (ones_cons (one_pl rfl) ones_nil)) rfl rfl (Nat.le_of_ble_eq_true rfl) (List.cons_ne_nil _ _) (bnd_cons (pl_bnd _ _ _) (bnd_cons (pl_bnd _ _ _) bnd_nil)) (by simp only [na, nb, nc, nd, nf, ng, nh, ni, nj, nk] <;> rfl) (by simp only [na, nb, nc, nd, nf, ng, nh, ni, nj, nk] <;> rfl)) ?_
          refine .nil ?_
          refine aw_keep [(3, _), (4, _), (11, _)] ⟨lg (lx (ls rfl (ls rfl (ls rfl oz)))), lg (lx lz), lg (lx (ls rfl (ls rfl (ls rfl (os rfl oz))))), trivial⟩ ?_
          refine aw_region (by decide) ?_
          refine rts _ rfl (opD_move oz) ?_
          refine rts _ rfl (opD_load_aggX (qs := [_, _]) ag165_W4 sz165_W4 (ls rfl (os rfl oz)) (loc_getN ((updL_len _ _).trans hNs) rfl) (Nat.le_of_ble_eq_true rfl) rfl) ?_
          replace hz_8 := bnd_some hz_8
          obtain ⟨x_9, hx_9, hz_8⟩ := hz_8
          refine rts _ rfl (opD_pure ht85_W4 (c_dnumber hx_9) ⟨(le_of_eq lz).trans (agg_le ⟨(Pd.le_refl _), (Pd.le_refl _), trivial⟩), trivial⟩) ?_
          refine rts _ rfl (opD_buildOwn (k := kI .i64) ([x_9] : (List Int)) Go.Proofs.Tryd.underlying36 sz3_W4 zt3_W4 (by decide) rfl (parts_cons (cells1 lz (one_pl rfl)) parts_nil) rfl rfl (by first | exact List.length_nil | (simp only [List.length_cons, List.length_nil, Nat.zero_add, Nat.reduceAdd] <;> rfl)) (by simp only [na, nb, nc, nd, nf, ng, nh, ni, nj, nk] <;> rfl)) ?_
          replace hz_8 := grd_some hz_8
          obtain ⟨hg_11, hz_8⟩ := hz_8
          replace hz_8 := grd_some hz_8
          obtain ⟨hg_12, hz_8⟩ := hz_8
          refine rts _ rfl (appendHN (k := kI .i64) ((updL_len _ _).trans hNs) Go.Proofs.Tryd.underlying36 el3_W4 rfl hr_5 er_5 ((ls rfl (ls rfl (ls rfl lz))).trans (hsl_eq hg_11)) lz rfl (kb_I _) hg_12.1 hg_12.2 (by simp only [na, nb, nc, nd, nf, ng, nh, ni, nj, nk] <;> rfl)) ?_
          refine rts _ rfl (opD_assign lz) ?_
          refine .nil ?_
          obtain rfl := some_of hz_8
          replace hk_1 := lpk_l hk_1
          refine wk_yesL [(g0, ⟨HOT, [M0]⟩), (g1, ⟨HOT, [(M1.and (mxp KM_dev ls_1 c_1))]⟩), (g2, ⟨160, [pl (.int .i64 p0.pages_), mref g0, mref g1, pl (.int .i64 p0.left_), pl (.bool p0.down_)]⟩)] hNs (by rfl) ⟨(bnd_cons (hMb0 _ _) bnd_nil), (bnd_cons ((fun _ _ => and_bnd (hMb1 _ _) mxp_bnd) _ _) bnd_nil), (bnd_cons (pl_bnd _ _ _) (bnd_cons (mref_bnd _ (by first | omega | (simp only [List.length_append, List.length_cons, List.length_nil]; omega))) (bnd_cons (mref_bnd _ (by first | omega | (simp only [List.length_append, List.length_cons, List.length_nil]; omega))) (bnd_cons (pl_bnd _ _ _) (bnd_cons (pl_bnd _ _ _) bnd_nil))))), trivial⟩ (l := [(3, hsl (N + 0) (r_5 + 2) 0 ((t_7.2 ++ ([x_9] : (List Int))).length) (kI .i64).sz), (11, ptv (N + 1) 1 0)]) (bs' := [⟨(hot 3 (r_5 + 2)), (flat (kI .i64) (t_7.2 ++ ([x_9] : (List Int))))⟩, ⟨HOT, [itp g1 c_1 (sn_1 ++ [b_1])]⟩]) ⟨le_of_eq (eg lz), le_of_eq (eg (ls rfl (ls rfl (ls rfl (ls rfl (ls rfl (ls rfl (os rfl (os rfl oz))))))))), trivial⟩ (bnd_cons (hsl_bnd _ (by first | omega | (simp only [List.length_append, List.length_cons, List.length_nil]; omega))) (bnd_cons (ptv_bnd _ (by first | omega | (simp only [List.length_append, List.length_cons, List.length_nil]; omega))) bnd_nil)) (Nat.le_of_ble_eq_true rfl) (by simp only [na, nb, nc, nd, nf, ng, nh, ni, nj, nk] <;> rfl) (bxle_same (bxle_same bxle_nil)) rfl (by simp only [na, nb, nc, nd, nf, ng, nh, ni, nj, nk] <;> rfl) (bl_cons (flatKB (kb_I _)) (bl_cons (bnd_cons (itp_bnd _ (by first | omega | (simp only [List.length_append, List.length_cons, List.length_nil]; omega))) bnd_nil) bl_nil)) ?_
          exact ⟨_, rest_lt hb_1.inc (y := (y_1, b_1)) hy_1 hn_1, ((t_7.2 ++ ([x_9] : (List Int))).length, (t_7.2 ++ ([x_9] : (List Int)))), (r_5 + 2), (by omega), (by omega), sn_1 ++ [b_1], ⟨le_of_eq (eg oz), le_of_eq (eg (os rfl oz)), trivial⟩, rfl, hk_1, rfl⟩
        · skip
          cases hc
    · rintro e st ⟨vz_3, r_2, hr_2, er_2, hH, rfl, hk_1⟩
      clear h0
      subst hK_1
      have h0 := hk_1
      clear hk_1
      refine aw_keep _ hH ?_
      refine aw_weakMX (M' := M1) (obj_get (k := 1) hU rfl) (and_le1 (Pd.le_refl _)) hMb1 (ul_obj (l := [(g0, ⟨HOT, [M0]⟩), (g1, ⟨HOT, [(M1.and (mxp KM_dev ls_1 c_1))]⟩), (g2, ⟨160, [pl (.int .i64 p0.pages_), mref g0, mref g1, pl (.int .i64 p0.left_), pl (.bool p0.down_)]⟩)]) (k := 1) hU rfl rfl (by simp only [na, nb, nc, nd, nf, ng, nh, ni, nj, nk] <;> rfl)) ?_
      refine aw_keep [(3, _)] ⟨lg oz, trivial⟩ ?_
      refine aw_seq ?_
      refine aw_region (by decide) ?_
      refine rts _ rfl (opD_move oz) ?_
      replace h0 := grd_some h0
      obtain ⟨hg_13, h0⟩ := h0
      replace h0 := bnd_some h0
      obtain ⟨x_10, hx_10, h0⟩ := h0
      refine rts _ rfl (opD_ple (q := pl (.tuple #[])) rfl (opD_to (X' := (s.updL [(g0, ⟨HOT, [M0]⟩), (g1, ⟨HOT, [M1]⟩), (g2, ⟨160, [pl (.int .i64 p0.pages_), mref g0, mref g1, pl (.int .i64 p0.left_), pl (.bool p0.down_)]⟩)]).ext [⟨(hot 3 r_2), (flat (kI .i64) x_10)⟩, ⟨HOT, []⟩] []) (opD_call ht86_W4 (c_sortI hx_10 (ud_len (m := 2) ((updL_len _ _).trans hNs) rfl ⟨by omega, trivial, trivial⟩) hr_2 er_2 (loc_getN ((updL_len _ _).trans hNs) rfl)) ⟨(le_of_eq lz).trans (hsl_n hg_13), trivial⟩) (ul_loc (k := 0) ((updL_len _ _).trans hNs) rfl (by simp only [na, nb, nc, nd, nf, ng, nh, ni, nj, nk] <;> rfl)))) ?_
      refine .nil ?_
      refine aw_keep [(3, _)] ⟨lg (ls rfl (ls rfl oz)), trivial⟩ ?_
      refine aw_seq ?_
      refine aw_region (by decide) ?_
      refine rts _ rfl (opD_move oz) ?_
      refine rts _ rfl (opD_assign lz) ?_
      refine .nil ?_
      refine aw_keep [(2, _)] ⟨lg lz, trivial⟩ ?_
      replace h0 := grd_some h0
      obtain ⟨hg_14, h0⟩ := h0
      refine aw_seal (k := kI .i64) (bs' := [⟨((hot 3 r_2) + HOT), []⟩, ⟨HOT, []⟩]) (i := 0) (r := r_2) (te := 3) ((updL_len _ _).trans hNs) [(2, sl (kI .i64) none none x_10)] rfl rfl hr_2 er_2 (by decide) ⟨rfl, rfl, ⟨rfl, SealL.refl _, trivial⟩⟩ (bl_cons bnd_nil (bl_cons bnd_nil bl_nil)) ⟨seal_e oz (seal_sln hg_14), trivial⟩ ?_
      refine aw_ret ?_
      obtain rfl := some_of h0
      exact done_updLS ⟨hB0, hB1, hB2, trivial⟩ (.inr rfl) ((res_one rfl (it_tmp oz)).le (Pd.le_refl _)) (sl_b (kb_I _))

noncomputable def F_dCrash_b0 (p0 : Dev) (p1 : (List Bool)) (x_1 : ((List Int))) (t_3 : Int × (At → Option (List Int)) × Int × Int × Bool) : Option ((Int × (At → Option (List Int)) × Int × Int × Bool) ⊕ (((At → Option (List Int)) × Int × Int × Bool))) :=
  ifb (decide (t_3.1 < (x_1.length : Int))) (bnd (ixb x_1 t_3.1 fun x_6 => grd (((decide (t_3.1 < (p1.length : Int))) == true) = true → Below t_3.1 p1.length) <| ifb ((decide (t_3.1 < (p1.length : Int))) && (p1.getD t_3.1.toNat default)) (bnd (F_dplace x_6) fun x_7 => bnd (F_dsettle (⟨t_3.2.2.1, t_3.2.1, p0.waits_, t_3.2.2.2.1, t_3.2.2.2.2⟩ : Dev) x_7) fun x_8 => some (x_8.safe_, x_8.pages_, x_8.left_, x_8.down_)) (some (t_3.2.1, t_3.2.2.1, t_3.2.2.2.1, t_3.2.2.2.2))) fun z_5 => some (.inl (IntKind.i64.wrap (t_3.1 + 1), z_5.1, z_5.2.1, z_5.2.2.1, z_5.2.2.2))) (some (.inr (t_3.2.1, t_3.2.2.1, t_3.2.2.2.1, t_3.2.2.2.2)))
noncomputable def F_dCrash (fl : Nat) (p0 : Dev) (p1 : (List Bool)) : Option (Dev) :=
  bnd (F_dWaiting p0) fun x_1 => bnd (lp (F_dCrash_b0 p0 p1 x_1) fl (0, p0.safe_, p0.pages_, p0.left_, p0.down_)) fun z_2 => some (⟨z_2.2.1, z_2.1, (fnil : (At → Option (List Int))), (-1), false⟩ : Dev)
set_option maxRecDepth 100000 in
set_option maxHeartbeats 2000000 in
theorem c_dCrash {fl : Nat} {p0 : Dev} {p1 : (List Bool)} {R : Dev} {s : St} {g0 g1 g2 : Nat} (h0 : F_dCrash fl p0 p1 = some R) (hU : UD s.boxes.length [g0, g1, g2]) (hB0 : s.boxes[g0]? = some ⟨HOT, [mpf KM_dev p0.safe_]⟩) (hB1 : s.boxes[g1]? = some ⟨HOT, [mpf KM_dev p0.waits_]⟩) (hB2 : s.boxes[g2]? = some ⟨160, [pl (.int .i64 p0.pages_), mref g0, mref g1, pl (.int .i64 p0.left_), pl (.bool p0.down_)]⟩) : AC Go.Proofs.Tryd.prog 19 [ptr g2 0, sl kB none none p1] s (pl (.tuple #[])) (s.updL [(g0, ⟨HOT, [mpf KM_dev R.safe_]⟩), (g1, ⟨HOT, [mpf KM_dev R.waits_]⟩), (g2, ⟨160, [pl (.int .i64 R.pages_), mref g0, mref g1, pl (.int .i64 R.left_), pl (.bool R.down_)]⟩)]) := by
  obtain ⟨N, hNs⟩ : ∃ N, s.boxes.length = N := ⟨_, rfl⟩
  have hUN : UD N [g0, g1, g2] := hNs ▸ hU
  obtain ⟨hl0, ⟨hn01, ⟨hn02, -⟩⟩, ⟨hl1, ⟨hn12, -⟩, ⟨hl2, -, -⟩⟩⟩ := hUN
  unfold F_dCrash at h0
  refine ac_of_aw s.boxes.length s.fr.length Go.Proofs.Tryd.func19 rfl (by simp [Go.Proofs.Tryd.ntmps19]) ?_
  refine aw_ext0 ?_
  refine aw_updL0 (l := [(g0, ⟨HOT, [mpf KM_dev p0.safe_]⟩), (g1, ⟨HOT, [mpf KM_dev p0.waits_]⟩), (g2, ⟨160, [pl (.int .i64 p0.pages_), mref g0, mref g1, pl (.int .i64 p0.left_), pl (.bool p0.down_)]⟩)]) ⟨hB0, hB1, hB2, trivial⟩ ?_
  refine aw_keep [(0, _), (1, _)] ⟨lg ez, lg (es ez), trivial⟩ ?_
  refine aw_seq ?_
  refine aw_seq ?_
  refine aw_region (by decide) ?_
  refine rts _ rfl (opD_move oz) ?_
  refine rts _ rfl (opD_ptr_eqnil Go.Proofs.Tryd.underlying24 lz) ?_
  refine .nil ?_
  refine aw_keep [(0, _), (1, _), (7, _)] ⟨lg (ls rfl (ls rfl oz)), lg (ls rfl (ls rfl (os rfl oz))), lg lz, trivial⟩ ?_
  refine aw_cond _ (os rfl (os rfl oz)) (fun hc => ?_) (fun hc => ?_)
  · skip
    cases hc
  · skip
    refine aw_skip ?_
    refine aw_keep [(0, _), (1, _)] ⟨lg oz, lg (os rfl oz), trivial⟩ ?_
    refine aw_seq ?_
    refine aw_seq ?_
    refine aw_region (by decide) ?_
    refine rts _ rfl (opD_move oz) ?_
    replace h0 := bnd_some h0
    obtain ⟨x_1, hx_1, h0⟩ := h0
    refine rts _ rfl (opD_call ht18_W4 (c_dWaiting hx_1 (ud_len (m := 0) ((updL_len _ _).trans hNs) rfl ⟨by omega, ⟨by omega, ⟨by omega, trivial⟩⟩, ⟨by omega, ⟨by omega, trivial⟩, ⟨by omega, trivial, trivial⟩⟩⟩) (obj_get (k := 0) hU rfl) (obj_get (k := 1) hU rfl) (obj_get (k := 2) hU rfl) (Pd.le_refl _) (mpf_bnd _ _) (Pd.le_refl _) (mpf_bnd _ _)) ⟨le_of_eq lz, trivial⟩) ?_
    refine rts _ rfl (opD_len_sl Go.Proofs.Tryd.underlying36 lz) ?_
    refine rts _ rfl (opD_move (ev_const _ _)) ?_
    refine .nil ?_
    refine aw_keep [(0, _), (1, _), (9, _), (10, _), (11, _)] ⟨lg (ls rfl (ls rfl (ls rfl (ls rfl oz)))), lg (ls rfl (ls rfl (ls rfl (ls rfl (os rfl oz))))), lg (ls rfl (ls rfl lz)), lg (ls rfl lz), lg lz, trivial⟩ ?_
    replace h0 := bnd_some h0
    obtain ⟨z_2, hz_2, h0⟩ := h0
    refine aw_mid (fun e st => ∃ v : (At → Option (List Int)) × Int × Int × Bool, Holds e [(0, ptr g2 0)] ∧ st = (s.updL [(g0, ⟨HOT, [mpf KM_dev v.1]⟩), (g1, ⟨HOT, [mpf KM_dev p0.waits_]⟩), (g2, ⟨160, [pl (.int .i64 v.2.1), mref g0, mref g1, pl (.int .i64 v.2.2.1), pl (.bool v.2.2.2)]⟩)]).ext [] [] ∧ v = z_2) ?_ ?_
    · skip
      refine aw_wkN ((updL_len _ _).trans hNs) 0 0 rfl rfl ?_
      refine aw_block ?_
      refine aw_loop (fun n e st => ∃ v : Int × (At → Option (List Int)) × Int × Int × Bool, Holds e [(0, ptr g2 0), (1, sl kB none none p1), (9, sl (kI .i64) none none x_1), (10, pl (.int .i64 (x_1.length : Int))), (11, pl (.int .i64 v.1))] ∧ st = (s.updL [(g0, ⟨HOT, [mpf KM_dev v.2.1]⟩), (g1, ⟨HOT, [mpf KM_dev p0.waits_]⟩), (g2, ⟨160, [pl (.int .i64 v.2.2.1), mref g0, mref g1, pl (.int .i64 v.2.2.2.1), pl (.bool v.2.2.2.2)]⟩)]).ext [] [] ∧ lp (F_dCrash_b0 p0 p1 x_1) n v = some z_2) fl ⟨(0, p0.safe_, p0.pages_, p0.left_, p0.down_), ⟨le_of_eq (eg oz), le_of_eq (eg (os rfl oz)), le_of_eq (eg (os rfl (os rfl oz))), le_of_eq (eg (os rfl (os rfl (os rfl oz)))), le_of_eq (eg (os rfl (os rfl (os rfl (os rfl oz))))), trivial⟩, rfl, hz_2⟩ ?_
      rintro n e st ⟨t_3, hH, rfl, hz_2⟩
      replace hz_2 := lp_some hz_2
      obtain ⟨m_z_4, z_4, rfl, hz_4, hz_2⟩ := hz_2
      unfold F_dCrash_b0 at hz_4
      refine aw_keep _ hH ?_
      refine aw_wkN ((updL_len _ _).trans hNs) 0 0 rfl rfl ?_
      refine aw_seq ?_
      refine aw_region (by decide) ?_
      refine rts _ rfl (opD_lss (os rfl (os rfl (os rfl (os rfl oz)))) (os rfl (os rfl (os rfl oz)))) ?_
      refine .nil ?_
      refine aw_keep [(0, _), (1, _), (9, _), (10, _), (11, _), (12, _)] ⟨lg (ls rfl oz), lg (ls rfl (os rfl oz)), lg (ls rfl (os rfl (os rfl oz))), lg (ls rfl (os rfl (os rfl (os rfl oz)))), lg (ls rfl (os rfl (os rfl (os rfl (os rfl oz))))), lg lz, trivial⟩ ?_
      refine aw_seq ?_
      refine aw_cond _ (os rfl (os rfl (os rfl (os rfl (os rfl oz))))) (fun hc => ?_) (fun hc => ?_)
      · skip
        replace hz_4 := ifb_t hz_4 hc
        clear hc
        refine aw_skip ?_
        refine aw_keep [(0, _), (1, _), (9, _), (10, _), (11, _)] ⟨lg oz, lg (os rfl oz), lg (os rfl (os rfl oz)), lg (os rfl (os rfl (os rfl oz))), lg (os rfl (os rfl (os rfl (os rfl oz)))), trivial⟩ ?_
        refine aw_seq ?_
        replace hz_4 := bnd_some hz_4
        obtain ⟨z_5, hz_5, hz_4⟩ := hz_4
        refine aw_mid (fun e st => ∃ v : (At → Option (List Int)) × Int × Int × Bool, Holds e [(0, ptr g2 0), (1, sl kB none none p1), (9, sl (kI .i64) none none x_1), (10, pl (.int .i64 (x_1.length : Int))), (11, pl (.int .i64 t_3.1))] ∧ st = (s.updL [(g0, ⟨HOT, [mpf KM_dev v.1]⟩), (g1, ⟨HOT, [mpf KM_dev p0.waits_]⟩), (g2, ⟨160, [pl (.int .i64 v.2.1), mref g0, mref g1, pl (.int .i64 v.2.2.1), pl (.bool v.2.2.2)]⟩)]).ext [] [] ∧ v = z_5) ?_ ?_
        · skip
          refine aw_wkN ((updL_len _ _).trans hNs) 0 0 rfl rfl ?_
          refine aw_block ?_
          refine aw_seq ?_
          refine aw_region (by decide) ?_
          refine rts _ rfl (opD_move (os rfl (os rfl (os rfl (os rfl oz))))) ?_
          replace hz_5 := ixb_some hz_5
          obtain ⟨x_6, hx_6, hbx_6, hz_5⟩ := hz_5
          refine rts _ rfl (opD_indexAddr_sl (i := t_3.1.toNat) Go.Proofs.Tryd.underlying36 sz3_W4 (ls rfl (os rfl (os rfl oz))) (ls rfl (os rfl (os rfl (os rfl (os rfl oz))))) hbx_6.2.2 hbx_6.2.1) ?_
          refine rts _ rfl (opD_load_el_one ag3_W4 lz hx_6 rfl) ?_
          refine rts _ rfl (opD_assign (ls rfl (ls rfl lz))) ?_
          refine rts _ rfl (opD_assign (ls rfl lz)) ?_
          refine .nil ?_
          refine aw_keep [(0, _), (1, _), (4, _), (5, _), (9, _), (10, _), (11, _)] ⟨lg (ls rfl (ls rfl (ls rfl (ls rfl (ls rfl oz))))), lg (ls rfl (ls rfl (ls rfl (ls rfl (ls rfl (os rfl oz)))))), lg (ls rfl lz), lg lz, lg (ls rfl (ls rfl (ls rfl (ls rfl (ls rfl (os rfl (os rfl oz))))))), lg (ls rfl (ls rfl (ls rfl (ls rfl (ls rfl (os rfl (os rfl (os rfl oz)))))))), lg (ls rfl (ls rfl (ls rfl (ls rfl (ls rfl (os rfl (os rfl (os rfl (os rfl oz))))))))), trivial⟩ ?_
          refine aw_seq ?_
          refine aw_region (by decide) ?_
          refine rts _ rfl (opD_move (os rfl (os rfl oz))) ?_
          refine rts _ rfl (opD_move (ls rfl (os rfl oz))) ?_
          refine rts _ rfl (opD_len_sl Go.Proofs.Tryd.underlying23 lz) ?_
          refine rts _ rfl (opD_lss (ls rfl (ls rfl lz)) lz) ?_
          refine rts _ rfl (opD_move lz) ?_
          refine rtg _ rfl lz (fun hg4_5_36 => opD_move (ls rfl (ls rfl (ls rfl (ls rfl (ls rfl (os rfl oz))))))) ?_
          refine rtg _ rfl (ls rfl lz) (fun hg4_6_37 => opD_move (ls rfl (ls rfl (ls rfl (ls rfl (ls rfl (ls rfl (os rfl (os rfl oz))))))))) ?_
          replace hz_5 := grd_some hz_5
          obtain ⟨hg_39, hz_5⟩ := hz_5
          refine rtg _ rfl (ls rfl (ls rfl lz)) (fun hg4_7_38 => opD_indexAddr_sl (i := t_3.1.toNat) Go.Proofs.Tryd.underlying23 sz4_W4 ((ls rfl lz).trans (pif_pos hg4_7_38)) (lz.trans (pif_pos hg4_7_38)) (hg_39 hg4_7_38).eq (hg_39 hg4_7_38).2) ?_
          refine rtg _ rfl (ls rfl (ls rfl (ls rfl lz))) (fun hg4_8_40 => opD_load_el_one ag4_W4 (lz.trans (pif_pos hg4_8_40)) (at_getD default (hg_39 hg4_8_40).2) rfl) ?_
          refine rts _ rfl (opD_and (ls rfl (ls rfl (ls rfl (ls rfl lz)))) lz) ?_
          refine .nil ?_
          refine aw_keep [(0, _), (1, _), (5, _), (9, _), (10, _), (11, _), (25, _)] ⟨lg (ls rfl (ls rfl (ls rfl (ls rfl (ls rfl (ls rfl (ls rfl (ls rfl (ls rfl (ls rfl oz)))))))))), lg (ls rfl (ls rfl (ls rfl (ls rfl (ls rfl (ls rfl (ls rfl (ls rfl (ls rfl (ls rfl (os rfl oz))))))))))), lg (ls rfl (ls rfl (ls rfl (ls rfl (ls rfl (ls rfl (ls rfl (ls rfl (ls rfl (ls rfl (os rfl (os rfl (os rfl oz))))))))))))), lg (ls rfl (ls rfl (ls rfl (ls rfl (ls rfl (ls rfl (ls rfl (ls rfl (ls rfl (ls rfl (os rfl (os rfl (os rfl (os rfl oz)))))))))))))), lg (ls rfl (ls rfl (ls rfl (ls rfl (ls rfl (ls rfl (ls rfl (ls rfl (ls rfl (ls rfl (os rfl (os rfl (os rfl (os rfl (os rfl oz))))))))))))))), lg (ls rfl (ls rfl (ls rfl (ls rfl (ls rfl (ls rfl (ls rfl (ls rfl (ls rfl (ls rfl (os rfl (os rfl (os rfl (os rfl (os rfl (os rfl oz)))))))))))))))), lg lz, trivial⟩ ?_
          refine aw_cond _ (os rfl (os rfl (os rfl (os rfl (os rfl (os rfl oz)))))) (fun hc => ?_) (fun hc => ?_)
          · skip
            replace hz_5 := ifb_t hz_5 hc
            clear hc
            refine aw_region (by decide) ?_
            refine rts _ rfl (opD_move oz) ?_
            refine rts _ rfl (opD_move (ls rfl (os rfl (os rfl oz)))) ?_
            replace hz_5 := bnd_some hz_5
            obtain ⟨x_7, hx_7, hz_5⟩ := hz_5
            refine rts _ rfl (opD_pure ht83_W4 (c_dplace hx_7) ⟨le_of_eq lz, trivial⟩) ?_
            replace hz_5 := bnd_some hz_5
            obtain ⟨x_8, hx_8, hz_5⟩ := hz_5
            refine rts _ rfl (opD_ple (q := pl (.tuple #[])) rfl (opD_to (X' := (s.updL [(g0, ⟨HOT, [mpf KM_dev x_8.safe_]⟩), (g1, ⟨HOT, [mpf KM_dev p0.waits_]⟩), (g2, ⟨160, [pl (.int .i64 x_8.pages_), mref g0, mref g1, pl (.int .i64 x_8.left_), pl (.bool x_8.down_)]⟩)]).ext [] []) (opD_call ht84_W4 (c_dsettle hx_8 (ud_len (m := 0) ((updL_len _ _).trans hNs) rfl ⟨by omega, ⟨by omega, ⟨by omega, trivial⟩⟩, ⟨by omega, ⟨by omega, trivial⟩, ⟨by omega, trivial, trivial⟩⟩⟩) (obj_get (k := 0) hU rfl) (obj_get (k := 1) hU rfl) (obj_get (k := 2) hU rfl) (Pd.le_refl _) (mpf_bnd _ _)) ⟨le_of_eq (ls rfl (ls rfl lz)), (le_of_eq lz).trans (agg_le ⟨(Pd.le_refl _), (Pd.le_refl _), trivial⟩), trivial⟩) (ul_obj (l := [(g0, ⟨HOT, [mpf KM_dev t_3.2.1]⟩), (g1, ⟨HOT, [mpf KM_dev p0.waits_]⟩), (g2, ⟨160, [pl (.int .i64 x_8.pages_), mref g0, mref g1, pl (.int .i64 x_8.left_), pl (.bool x_8.down_)]⟩)]) (k := 0) hU (ul_obj (l := [(g0, ⟨HOT, [mpf KM_dev t_3.2.1]⟩), (g1, ⟨HOT, [mpf KM_dev p0.waits_]⟩), (g2, ⟨160, [pl (.int .i64 x_8.pages_), mref g0, mref g1, pl (.int .i64 x_8.left_), pl (.bool x_8.down_)]⟩)]) (k := 1) hU (ul_obj (l := [(g0, ⟨HOT, [mpf KM_dev t_3.2.1]⟩), (g1, ⟨HOT, [mpf KM_dev p0.waits_]⟩), (g2, ⟨160, [pl (.int .i64 t_3.2.2.1), mref g0, mref g1, pl (.int .i64 t_3.2.2.2.1), pl (.bool t_3.2.2.2.2)]⟩)]) (k := 2) hU rfl rfl (by simp only [na, nb, nc, nd, nf, ng, nh, ni, nj, nk] <;> rfl)) rfl (by simp only [na, nb, nc, nd, nf, ng, nh, ni, nj, nk] <;> rfl)) rfl (by simp only [na, nb, nc, nd, nf, ng, nh, ni, nj, nk] <;> rfl)))) ?_
            refine .nil ?_
            refine wk_yesL [(g0, ⟨HOT, [mpf KM_dev x_8.safe_]⟩), (g1, ⟨HOT, [mpf KM_dev p0.waits_]⟩), (g2, ⟨160, [pl (.int .i64 x_8.pages_), mref g0, mref g1, pl (.int .i64 x_8.left_), pl (.bool x_8.down_)]⟩)] hNs (by rfl) ⟨(bnd_cons ((mpf_bnd _ _) _ _) bnd_nil), (bnd_cons ((mpf_bnd _ _) _ _) bnd_nil), (bnd_cons (pl_bnd _ _ _) (bnd_cons (mref_bnd _ (by first | omega | (simp only [List.length_append, List.length_cons, List.length_nil]; omega))) (bnd_cons (mref_bnd _ (by first | omega | (simp only [List.length_append, List.length_cons, List.length_nil]; omega))) (bnd_cons (pl_bnd _ _ _) (bnd_cons (pl_bnd _ _ _) bnd_nil))))), trivial⟩ (l := [(0, ptr g2 0), (1, sl kB none none p1), (9, sl (kI .i64) none none x_1), (10, pl (.int .i64 (x_1.length : Int))), (11, pl (.int .i64 t_3.1))]) (bs' := []) ⟨le_of_eq (eg (ls rfl (ls rfl (ls rfl (ls rfl oz))))), le_of_eq (eg (ls rfl (ls rfl (ls rfl (ls rfl (os rfl oz)))))), le_of_eq (eg (ls rfl (ls rfl (ls rfl (ls rfl (os rfl (os rfl (os rfl oz)))))))), le_of_eq (eg (ls rfl (ls rfl (ls rfl (ls rfl (os rfl (os rfl (os rfl (os rfl oz))))))))), le_of_eq (eg (ls rfl (ls rfl (ls rfl (ls rfl (os rfl (os rfl (os rfl (os rfl (os rfl oz)))))))))), trivial⟩ (bnd_cons (ptr_bnd _ (by first | omega | (simp only [List.length_append, List.length_cons, List.length_nil]; omega))) (bnd_cons (sl_b kb_B) (bnd_cons (sl_b (kb_I _)) (bnd_cons (pl_bnd _ _ _) (bnd_cons (pl_bnd _ _ _) bnd_nil))))) (Nat.le_of_ble_eq_true rfl) (by simp only [na, nb, nc, nd, nf, ng, nh, ni, nj, nk] <;> rfl) bxle_nil rfl (by simp only [na, nb, nc, nd, nf, ng, nh, ni, nj, nk] <;> rfl) bl_nil ?_
            exact ⟨(x_8.safe_, x_8.pages_, x_8.left_, x_8.down_), ⟨le_of_eq (eg oz), le_of_eq (eg (os rfl oz)), le_of_eq (eg (os rfl (os rfl oz))), le_of_eq (eg (os rfl (os rfl (os rfl oz)))), le_of_eq (eg (os rfl (os rfl (os rfl (os rfl oz))))), trivial⟩, rfl, some_of hz_5⟩
          · skip
            replace hz_5 := ifb_f hz_5 hc
            clear hc
            refine aw_skip ?_
            refine wk_yesL [(g0, ⟨HOT, [mpf KM_dev t_3.2.1]⟩), (g1, ⟨HOT, [mpf KM_dev p0.waits_]⟩), (g2, ⟨160, [pl (.int .i64 t_3.2.2.1), mref g0, mref g1, pl (.int .i64 t_3.2.2.2.1), pl (.bool t_3.2.2.2.2)]⟩)] hNs (by rfl) ⟨(bnd_cons ((mpf_bnd _ _) _ _) bnd_nil), (bnd_cons ((mpf_bnd _ _) _ _) bnd_nil), (bnd_cons (pl_bnd _ _ _) (bnd_cons (mref_bnd _ (by first | omega | (simp only [List.length_append, List.length_cons, List.length_nil]; omega))) (bnd_cons (mref_bnd _ (by first | omega | (simp only [List.length_append, List.length_cons, List.length_nil]; omega))) (bnd_cons (pl_bnd _ _ _) (bnd_cons (pl_bnd _ _ _) bnd_nil))))), trivial⟩ (l := [(0, ptr g2 0), (1, sl kB none none p1), (9, sl (kI .i64) none none x_1), (10, pl (.int .i64 (x_1.length : Int))), (11, pl (.int .i64 t_3.1))]) (bs' := []) ⟨le_of_eq (eg oz), le_of_eq (eg (os rfl oz)), le_of_eq (eg (os rfl (os rfl (os rfl oz)))), le_of_eq (eg (os rfl (os rfl (os rfl (os rfl oz))))), le_of_eq (eg (os rfl (os rfl (os rfl (os rfl (os rfl oz)))))), trivial⟩ (bnd_cons (ptr_bnd _ (by first | omega | (simp only [List.length_append, List.length_cons, List.length_nil]; omega))) (bnd_cons (sl_b kb_B) (bnd_cons (sl_b (kb_I _)) (bnd_cons (pl_bnd _ _ _) (bnd_cons (pl_bnd _ _ _) bnd_nil))))) (Nat.le_of_ble_eq_true rfl) (by simp only [na, nb, nc, nd, nf, ng, nh, ni, nj, nk] <;> rfl) bxle_nil rfl (by simp only [na, nb, nc, nd, nf, ng, nh, ni, nj, nk] <;> rfl) bl_nil ?_
            exact ⟨(t_3.2.1, t_3.2.2.1, t_3.2.2.2.1, t_3.2.2.2.2), ⟨le_of_eq (eg oz), le_of_eq (eg (os rfl oz)), le_of_eq (eg (os rfl (os rfl oz))), le_of_eq (eg (os rfl (os rfl (os rfl oz)))), le_of_eq (eg (os rfl (os rfl (os rfl (os rfl oz))))), trivial⟩, rfl, some_of hz_5⟩
        · rintro e st ⟨vz_5, hH, rfl, rfl⟩
          refine aw_keep _ hH ?_
          refine aw_keep [(0, _), (1, _), (9, _), (10, _), (11, _)] ⟨lg oz, lg (os rfl oz), lg (os rfl (os rfl oz)), lg (os rfl (os rfl (os rfl oz))), lg (os rfl (os rfl (os rfl (os rfl oz)))), trivial⟩ ?_
          refine aw_region (by decide) ?_
          refine rts _ rfl (opD_add (os rfl (os rfl (os rfl (os rfl oz)))) (ev_const _ _) rfl) ?_
          refine rts _ rfl (opD_move lz) ?_
          refine .nil ?_
          obtain rfl := some_of hz_4
          replace hz_2 := ocs_l hz_2
          refine wk_yesL [(g0, ⟨HOT, [mpf KM_dev vz_5.1]⟩), (g1, ⟨HOT, [mpf KM_dev p0.waits_]⟩), (g2, ⟨160, [pl (.int .i64 vz_5.2.1), mref g0, mref g1, pl (.int .i64 vz_5.2.2.1), pl (.bool vz_5.2.2.2)]⟩)] hNs (by rfl) ⟨(bnd_cons ((mpf_bnd _ _) _ _) bnd_nil), (bnd_cons ((mpf_bnd _ _) _ _) bnd_nil), (bnd_cons (pl_bnd _ _ _) (bnd_cons (mref_bnd _ (by first | omega | (simp only [List.length_append, List.length_cons, List.length_nil]; omega))) (bnd_cons (mref_bnd _ (by first | omega | (simp only [List.length_append, List.length_cons, List.length_nil]; omega))) (bnd_cons (pl_bnd _ _ _) (bnd_cons (pl_bnd _ _ _) bnd_nil))))), trivial⟩ (l := [(0, ptr g2 0), (1, sl kB none none p1), (9, sl (kI .i64) none none x_1), (10, pl (.int .i64 (x_1.length : Int))), (11, pl (.int .i64 (IntKind.i64.wrap (t_3.1 + 1))))]) (bs' := []) ⟨le_of_eq (eg (ls rfl (ls rfl oz))), le_of_eq (eg (ls rfl (ls rfl (os rfl oz)))), le_of_eq (eg (ls rfl (ls rfl (os rfl (os rfl oz))))), le_of_eq (eg (ls rfl (ls rfl (os rfl (os rfl (os rfl oz)))))), le_of_eq (eg lz), trivial⟩ (bnd_cons (ptr_bnd _ (by first | omega | (simp only [List.length_append, List.length_cons, List.length_nil]; omega))) (bnd_cons (sl_b kb_B) (bnd_cons (sl_b (kb_I _)) (bnd_cons (pl_bnd _ _ _) (bnd_cons (pl_bnd _ _ _) bnd_nil))))) (Nat.le_of_ble_eq_true rfl) (by simp only [na, nb, nc, nd, nf, ng, nh, ni, nj, nk] <;> rfl) bxle_nil rfl (by simp only [na, nb, nc, nd, nf, ng, nh, ni, nj, nk] <;> rfl) bl_nil ?_
          exact ⟨m_z_4, Nat.lt_succ_self _, (IntKind.i64.wrap (t_3.1 + 1), vz_5.1, vz_5.2.1, vz_5.2.2.1, vz_5.2.2.2), ⟨le_of_eq (eg oz), le_of_eq (eg (os rfl oz)), le_of_eq (eg (os rfl (os rfl oz))), le_of_eq (eg (os rfl (os rfl (os rfl oz)))), le_of_eq (eg (os rfl (os rfl (os rfl (os rfl oz))))), trivial⟩, rfl, hz_2⟩
      · skip
        replace hz_4 := ifb_f hz_4 hc
        clear hc
        refine aw_exit ?_
        obtain rfl := some_of hz_4
        replace hz_2 := ocs_r hz_2
        refine wk_no ?_
        refine wk_yesL [(g0, ⟨HOT, [mpf KM_dev t_3.2.1]⟩), (g1, ⟨HOT, [mpf KM_dev p0.waits_]⟩), (g2, ⟨160, [pl (.int .i64 t_3.2.2.1), mref g0, mref g1, pl (.int .i64 t_3.2.2.2.1), pl (.bool t_3.2.2.2.2)]⟩)] hNs (by rfl) ⟨(bnd_cons ((mpf_bnd _ _) _ _) bnd_nil), (bnd_cons ((mpf_bnd _ _) _ _) bnd_nil), (bnd_cons (pl_bnd _ _ _) (bnd_cons (mref_bnd _ (by first | omega | (simp only [List.length_append, List.length_cons, List.length_nil]; omega))) (bnd_cons (mref_bnd _ (by first | omega | (simp only [List.length_append, List.length_cons, List.length_nil]; omega))) (bnd_cons (pl_bnd _ _ _) (bnd_cons (pl_bnd _ _ _) bnd_nil))))), trivial⟩ (l := [(0, ptr g2 0)]) (bs' := []) ⟨le_of_eq (eg oz), trivial⟩ (bnd_cons (ptr_bnd _ (by first | omega | (simp only [List.length_append, List.length_cons, List.length_nil]; omega))) bnd_nil) (Nat.le_of_ble_eq_true rfl) (by simp only [na, nb, nc, nd, nf, ng, nh, ni, nj, nk] <;> rfl) bxle_nil rfl (by simp only [na, nb, nc, nd, nf, ng, nh, ni, nj, nk] <;> rfl) bl_nil ?_
        exact ⟨(t_3.2.1, t_3.2.2.1, t_3.2.2.2.1, t_3.2.2.2.2), ⟨le_of_eq (eg oz), trivial⟩, rfl, some_of hz_2⟩
    · rintro e st ⟨vz_2, hH, rfl, rfl⟩
      refine aw_keep _ hH ?_
      refine aw_keep [(0, _)] ⟨lg oz, trivial⟩ ?_
      refine aw_seq ?_
      refine aw_region (by decide) ?_
      refine rts _ rfl (opD_move oz) ?_
      refine rts _ rfl (opD_nilCheck_ptr lz) ?_
      refine rts _ rfl (opD_fieldAddr fo160_2_W4 lz) ?_
      refine rts _ rfl (opD_load_one ag158_W4 lz (obj_get (k := 2) hU rfl) rfl) ?_
      refine rts _ rfl (opD_to (opD_clearG (K := KM_dev) Go.Proofs.Tryd.underlying158 lz (obj_get (k := 1) hU rfl) (Pd.le_refl _)) (ul_obj (l := [(g0, ⟨HOT, [mpf KM_dev vz_2.1]⟩), (g1, ⟨HOT, [mpf KM_dev p0.waits_]⟩), (g2, ⟨160, [pl (.int .i64 vz_2.2.1), mref g0, mref g1, pl (.int .i64 vz_2.2.2.1), pl (.bool vz_2.2.2.2)]⟩)]) (k := 1) hU rfl rfl (by simp only [na, nb, nc, nd, nf, ng, nh, ni, nj, nk] <;> rfl))) ?_
      refine .nil ?_
      refine aw_keep [(0, _)] ⟨lg (lx (ls rfl (ls rfl (ls rfl (ls rfl oz))))), trivial⟩ ?_
      refine aw_region (by decide) ?_
      refine rts _ rfl (opD_move oz) ?_
      refine rts _ rfl (opD_move (ls rfl oz)) ?_
      refine rts _ rfl (opD_nilCheck_ptr (ls rfl lz)) ?_
      refine rts _ rfl (opD_fieldAddr fo160_3_W4 lz) ?_
      refine rts _ rfl (storeL1 (k := 2) hU hNs sz3_W4 lz ((le_of_eq (ev_const _ _)).trans (Pd.le_refl _)) (one_pl rfl) rfl (Nat.le_of_ble_eq_true rfl) (pl_bnd _ _ _) (by simp only [na, nb, nc, nd, nf, ng, nh, ni, nj, nk] <;> rfl)) ?_
      refine rts _ rfl (opD_nilCheck_ptr (lx (ls rfl (ls rfl lz)))) ?_
      refine rts _ rfl (opD_fieldAddr fo160_4_W4 lz) ?_
      refine rts _ rfl (storeL1 (k := 2) hU hNs sz4_W4 lz ((le_of_eq (ev_const _ _)).trans (Pd.le_refl _)) (one_pl rfl) rfl (Nat.le_of_ble_eq_true rfl) (pl_bnd _ _ _) (by simp only [na, nb, nc, nd, nf, ng, nh, ni, nj, nk] <;> rfl)) ?_
      refine .nil ?_
      obtain rfl := some_of h0
      exact done_updL ⟨(bnd_cons ((mpf_bnd _ _) _ _) bnd_nil), (bnd_cons ((mpf_bnd _ _) _ _) bnd_nil), (bnd_cons (pl_bnd _ _ _) (bnd_cons (mref_bnd _ (by first | omega | (simp only [List.length_append, List.length_cons, List.length_nil]; omega))) (bnd_cons (mref_bnd _ (by first | omega | (simp only [List.length_append, List.length_cons, List.length_nil]; omega))) (bnd_cons (pl_bnd _ _ _) (bnd_cons (pl_bnd _ _ _) bnd_nil))))), trivial⟩ (.inl rfl) (res_0 rfl) (pl_bnd _ _ _)

def F_dCopy (p0 : Dev) : Option (Dev) :=
  bnd (F_mclone p0.safe_) fun x_1 => bnd (F_mclone p0.waits_) fun x_2 => some (⟨p0.pages_, x_1, x_2, p0.left_, p0.down_⟩ : Dev)
set_option maxRecDepth 100000 in
set_option maxHeartbeats 2000000 in
theorem c_dCopy {p0 : Dev} {R : Dev} {s : St} {N : Nat} {M0 : Pd} {M1 : Pd} {g0 g1 g2 : Nat} (h0 : F_dCopy p0 = some R) (hNs : s.boxes.length = N) (hU : UD s.boxes.length [g0, g1, g2]) (hB0 : s.boxes[g0]? = some ⟨HOT, [M0]⟩) (hB1 : s.boxes[g1]? = some ⟨HOT, [M1]⟩) (hB2 : s.boxes[g2]? = some ⟨160, [pl (.int .i64 p0.pages_), mref g0, mref g1, pl (.int .i64 p0.left_), pl (.bool p0.down_)]⟩) (hM0 : M0.le (mpf KM_dev p0.safe_)) (hMb0 : ∀ n m, M0.Bnd n m) (hM1 : M1.le (mpf KM_dev p0.waits_)) (hMb1 : ∀ n m, M1.Bnd n m) : AC Go.Proofs.Tryd.prog 22 [ptr g2 0] s (ptr (N + 0) 0) (s.ext [⟨160, [pl (.int .i64 R.pages_), mref (N + 1), mref (N + 2), pl (.int .i64 R.left_), pl (.bool R.down_)]⟩, ⟨HOT, [mpf KM_dev R.safe_]⟩, ⟨HOT, [mpf KM_dev R.waits_]⟩] []) := by
  have hUN : UD N [g0, g1, g2] := hNs ▸ hU
  obtain ⟨hl0, ⟨hn01, ⟨hn02, -⟩⟩, ⟨hl1, ⟨hn12, -⟩, ⟨hl2, -, -⟩⟩⟩ := hUN
  unfold F_dCopy at h0
  refine ac_of_aw (N + 3) s.fr.length Go.Proofs.Tryd.func22 rfl (by simp [Go.Proofs.Tryd.ntmps22]) ?_
  refine aw_ext0 ?_
  refine aw_updL0 (l := [(g0, ⟨HOT, [M0]⟩), (g1, ⟨HOT, [M1]⟩), (g2, ⟨160, [pl (.int .i64 p0.pages_), mref g0, mref g1, pl (.int .i64 p0.left_), pl (.bool p0.down_)]⟩)]) ⟨hB0, hB1, hB2, trivial⟩ ?_
  refine aw_keep [(0, _)] ⟨lg ez, trivial⟩ ?_
  refine aw_seq ?_
  refine aw_region (by decide) ?_
  refine rts _ rfl (opD_assign (ev_const _ _)) ?_
  refine .nil ?_
  refine aw_keep [(0, _)] ⟨lg (ls rfl oz), trivial⟩ ?_
  refine aw_seq ?_
  refine aw_seq ?_
  refine aw_region (by decide) ?_
  refine rts _ rfl (opD_move oz) ?_
  refine rts _ rfl (opD_ptr_eqnil Go.Proofs.Tryd.underlying24 lz) ?_
  refine .nil ?_
  refine aw_keep [(0, _), (5, _)] ⟨lg (ls rfl (ls rfl oz)), lg lz, trivial⟩ ?_
  refine aw_cond _ (os rfl oz) (fun hc => ?_) (fun hc => ?_)
  · skip
    cases hc
  · skip
    refine aw_skip ?_
    refine aw_keep [(0, _)] ⟨lg oz, trivial⟩ ?_
    refine aw_seq ?_
    refine aw_region (by decide) ?_
    refine rts _ rfl (opD_move oz) ?_
    refine rts _ rfl (opD_nilCheck_ptr lz) ?_
    refine rts _ rfl (opD_load_aggX (qs := [_, _, _, _, _]) ag160_W4 sz160_W4 lz (obj_get (k := 2) hU rfl) (Nat.le_of_ble_eq_true rfl) rfl) ?_
    refine rts _ rfl (allocN ((updL_len _ _).trans hNs) zt160_W4 (by first | exact List.length_nil | (simp only [List.length_cons, List.length_nil, Nat.zero_add, Nat.reduceAdd] <;> rfl)) (by simp only [na, nb, nc, nd, nf, ng, nh, ni, nj, nk] <;> rfl)) ?_
    refine rts _ rfl (storeAN ((updL_len _ _).trans hNs) sz160_W4 lz (ls rfl lz) (ones_cons (one_pl rfl) (ones_cons (one_mref _) (ones_cons (one_mref _) (ones_cons (one_pl rfl) (ones_cons (one_pl rfl) ones_nil))))) rfl rfl (Nat.le_of_ble_eq_true rfl) (List.cons_ne_nil _ _) (bnd_cons (pl_bnd _ _ _) (bnd_cons (mref_bnd _ (by first | omega | (simp only [List.length_append, List.length_cons, List.length_nil]; omega))) (bnd_cons (mref_bnd _ (by first | omega | (simp only [List.length_append, List.length_cons, List.length_nil]; omega))) (bnd_cons (pl_bnd _ _ _) (bnd_cons (pl_bnd _ _ _) bnd_nil))))) (by simp only [na, nb, nc, nd, nf, ng, nh, ni, nj, nk] <;> rfl) (by simp only [na, nb, nc, nd, nf, ng, nh, ni, nj, nk] <;> rfl)) ?_
    refine .nil ?_
    refine aw_keep [(0, _), (3, _)] ⟨lg (lx (ls rfl (ls rfl (ls rfl (ls rfl oz))))), lg (lx lz), trivial⟩ ?_
    refine aw_seq ?_
    refine aw_drawn [false, false, false, false, true, false, false, false, false, true, false, true, false, true] [[0], [0], [0], [0], [0, 1], [0, 1], [0, 1], [0, 1], [0, 1], [1, 2], [2], [2, 3], [3], [3, 4]] mixed_W4 (by decide +kernel) ?_
    refine dtp _ rfl (fun s => opD_move oz) ?_
    refine dtp _ rfl (fun s => opD_nilCheck_ptr lz) ?_
    refine dtp _ rfl (fun s => opD_fieldAddr fo160_1_W4 lz) ?_
    refine dtlG1 ag158_W4 lz (obj_get (k := 2) hU rfl) rfl rfl ?_
    replace h0 := bnd_some h0
    obtain ⟨x_1, hx_1, h0⟩ := h0
    refine dta _ rfl (opD_ple (q := mref (N + 1)) rfl (opD_to (X' := (s.updL [(g0, ⟨HOT, [M0]⟩), (g1, ⟨HOT, [M1]⟩), (g2, ⟨160, [pl (.int .i64 p0.pages_), mref g0, mref g1, pl (.int .i64 p0.left_), pl (.bool p0.down_)]⟩)]).ext [⟨160, [pl (.int .i64 p0.pages_), mref g0, mref g1, pl (.int .i64 p0.left_), pl (.bool p0.down_)]⟩, ⟨HOT, [mpf KM_dev x_1]⟩] []) (opD_call ht88_W4 (c_mclone hx_1 (xlen ((updL_len _ _).trans hNs) rfl) (ud_len (m := 1) ((updL_len _ _).trans hNs) rfl ⟨by omega, trivial, trivial⟩) (obj_get (k := 0) hU rfl) hM0 hMb0) ⟨le_of_eq lz, trivial⟩) (ul_new rfl (by simp only [na, nb, nc, nd, nf, ng, nh, ni, nj, nk] <;> rfl)))) ?_
    refine dtp _ rfl (fun s => opD_move (ls rfl (ls rfl (ls rfl (ls rfl (ls rfl oz)))))) ?_
    refine dtp _ rfl (fun s => opD_nilCheck_ptr lz) ?_
    refine dtp _ rfl (fun s => opD_fieldAddr fo160_2_W4 lz) ?_
    refine dtlG1 ag158_W4 lz (obj_get (k := 2) hU rfl) rfl rfl ?_
    replace h0 := bnd_some h0
    obtain ⟨x_2, hx_2, h0⟩ := h0
    refine dta _ rfl (opD_ple (q := mref (N + 2)) rfl (opD_to (X' := (s.updL [(g0, ⟨HOT, [M0]⟩), (g1, ⟨HOT, [M1]⟩), (g2, ⟨160, [pl (.int .i64 p0.pages_), mref g0, mref g1, pl (.int .i64 p0.left_), pl (.bool p0.down_)]⟩)]).ext [⟨160, [pl (.int .i64 p0.pages_), mref g0, mref g1, pl (.int .i64 p0.left_), pl (.bool p0.down_)]⟩, ⟨HOT, [mpf KM_dev x_1]⟩, ⟨HOT, [mpf KM_dev x_2]⟩] []) (opD_call ht88_W4 (c_mclone hx_2 (xlen ((updL_len _ _).trans hNs) rfl) (ud_len (m := 2) ((updL_len _ _).trans hNs) rfl ⟨by omega, trivial, trivial⟩) (obj_get (k := 1) hU rfl) hM1 hMb1) ⟨le_of_eq lz, trivial⟩) (ul_new rfl (by simp only [na, nb, nc, nd, nf, ng, nh, ni, nj, nk] <;> rfl)))) ?_
    refine dtp _ rfl (fun s => opD_fieldAddr fo160_1_W4 (ls rfl (ls rfl (ls rfl (ls rfl (ls rfl (ls rfl (ls rfl (ls rfl (ls rfl (ls rfl (os rfl oz)))))))))))) ?_
    refine dta _ rfl (storeON ((updL_len _ _).trans hNs) sz158_W4 lz (le_of_eq (ls rfl (ls rfl (ls rfl (ls rfl (ls rfl (ls rfl lz))))))) (one_mref _) rfl (Nat.le_of_ble_eq_true rfl) (mref_bnd _ (by first | omega | (simp only [List.length_append, List.length_cons, List.length_nil]; omega))) (by simp only [na, nb, nc, nd, nf, ng, nh, ni, nj, nk] <;> rfl) (by simp only [na, nb, nc, nd, nf, ng, nh, ni, nj, nk] <;> rfl)) ?_
    refine dtp _ rfl (fun s => opD_fieldAddr fo160_2_W4 (lx (ls rfl (ls rfl (ls rfl (ls rfl (ls rfl (ls rfl (ls rfl (ls rfl (ls rfl (ls rfl (ls rfl (os rfl oz)))))))))))))) ?_
    refine dta _ rfl (storeON ((updL_len _ _).trans hNs) sz158_W4 lz (le_of_eq (ls rfl (lx (ls rfl lz)))) (one_mref _) rfl (Nat.le_of_ble_eq_true rfl) (mref_bnd _ (by first | omega | (simp only [List.length_append, List.length_cons, List.length_nil]; omega))) (by simp only [na, nb, nc, nd, nf, ng, nh, ni, nj, nk] <;> rfl) (by simp only [na, nb, nc, nd, nf, ng, nh, ni, nj, nk] <;> rfl)) ?_
    refine .nil ?_
    dsimp only [List.nil_append, List.cons_append]
    refine ⟨rfl, ⟨trivial, trivial, trivial, ⟨(by first | exact loc_getN ((updL_len _ _).trans hNs) rfl | exact ⟨_, loc_getN ((updL_len _ _).trans hNs) rfl⟩ | exact obj_get (k := 0) hU rfl | exact ⟨_, obj_get (k := 0) hU rfl⟩ | exact obj_get (k := 1) hU rfl | exact ⟨_, obj_get (k := 1) hU rfl⟩ | exact obj_get (k := 2) hU rfl | exact ⟨_, obj_get (k := 2) hU rfl⟩ ), trivial⟩, trivial, trivial, trivial, trivial, ⟨(by first | exact loc_getN ((updL_len _ _).trans hNs) rfl | exact ⟨_, loc_getN ((updL_len _ _).trans hNs) rfl⟩ | exact obj_get (k := 0) hU rfl | exact ⟨_, obj_get (k := 0) hU rfl⟩ | exact obj_get (k := 1) hU rfl | exact ⟨_, obj_get (k := 1) hU rfl⟩ | exact obj_get (k := 2) hU rfl | exact ⟨_, obj_get (k := 2) hU rfl⟩ ), (by first | exact loc_getN ((updL_len _ _).trans hNs) rfl | exact ⟨_, loc_getN ((updL_len _ _).trans hNs) rfl⟩ | exact obj_get (k := 0) hU rfl | exact ⟨_, obj_get (k := 0) hU rfl⟩ | exact obj_get (k := 1) hU rfl | exact ⟨_, obj_get (k := 1) hU rfl⟩ | exact obj_get (k := 2) hU rfl | exact ⟨_, obj_get (k := 2) hU rfl⟩ ), trivial⟩, trivial, trivial, trivial, trivial, trivial, trivial⟩, ?_⟩
    refine aw_keep [(3, _)] ⟨lg (lx (ls rfl (lx (ls rfl (ls rfl (ls rfl (ls rfl (ls rfl (ls rfl (ls rfl (ls rfl (ls rfl (ls rfl (ls rfl (os rfl oz))))))))))))))), trivial⟩ ?_
    refine aw_seq ?_
    refine aw_region (by decide) ?_
    refine rts _ rfl (opD_assign oz) ?_
    refine .nil ?_
    refine aw_keep [(2, _)] ⟨lg lz, trivial⟩ ?_
    refine aw_ret ?_
    obtain rfl := some_of h0
    have hnn : N + 3 = N + 3 := rfl
    exact done_updLNS (l := [(g0, ⟨HOT, [M0]⟩), (g1, ⟨HOT, [M1]⟩), (g2, ⟨160, [pl (.int .i64 p0.pages_), mref g0, mref g1, pl (.int .i64 p0.left_), pl (.bool p0.down_)]⟩)]) ⟨hB0, hB1, hB2, trivial⟩ (n := N + 3) (by rw [hNs] <;> rfl) (.inr rfl) ((res_one rfl (it_tmp oz)).le (Pd.le_refl _)) (ptr_bnd _ (by first | omega | (simp only [List.length_append, List.length_cons, List.length_nil]; omega))) (by rw [← hnn]; exact (bl_cons (bnd_cons (pl_bnd _ _ _) (bnd_cons (mref_bnd _ (by first | omega | (simp only [List.length_append, List.length_cons, List.length_nil]; omega))) (bnd_cons (mref_bnd _ (by first | omega | (simp only [List.length_append, List.length_cons, List.length_nil]; omega))) (bnd_cons (pl_bnd _ _ _) (bnd_cons (pl_bnd _ _ _) bnd_nil))))) (bl_cons (bnd_cons ((mpf_bnd _ _) _ _) bnd_nil) (bl_cons (bnd_cons ((mpf_bnd _ _) _ _) bnd_nil) bl_nil))))
end Go.Proofs.YtjbgddpaclcjfaaDoor.Eng.A
