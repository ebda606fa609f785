/- ED4: what functions do, walked; used by the laws of this seat. -/
import Derived.Test.YtjbgddpaclcjfaaDoorED3
import Derived.Test.YtjbgddpaclcjfaaDoorEW2
namespace Go.Proofs.YtjbgddpaclcjfaaDoor.Eng.A
set_option linter.unusedVariables false
set_option linter.unusedSimpArgs false
open Go.RowKit Go.Proofs.YtjbgddpaclcjfaaDoor.Plain Go.Proofs.YtjbgddpaclcjfaaDoor.Eng Go.Proofs.YtjbgddpaclcjfaaDoor.Eng.Pk Go.Proofs.YtjbgddpaclcjfaaDoor.Eng.Rd

theorem el5_W5 : elT Go.Proofs.Tryd.prog 5 = some (1, 1) := by kernel_rfl
theorem sz5_W5 : sizeT Go.Proofs.Tryd.prog 5 = some 1 := by kernel_rfl
theorem sz3_W5 : sizeT Go.Proofs.Tryd.prog 3 = some 1 := by kernel_rfl
theorem ag3_W5 : aggT Go.Proofs.Tryd.prog 3 = some false := by kernel_rfl
theorem mixed_W5 : Go.Proofs.Tryd.prog.follows .mixedOrders = true := by kernel_rfl
theorem ht13_W5 : hasText Go.Proofs.Tryd.prog 13 = true := by kernel_rfl
theorem ht16_W5 : hasText Go.Proofs.Tryd.prog 16 = true := by kernel_rfl
theorem ht15_W5 : hasText Go.Proofs.Tryd.prog 15 = true := by kernel_rfl
theorem ht20_W5 : hasText Go.Proofs.Tryd.prog 20 = true := by kernel_rfl
theorem ht46_W5 : hasText Go.Proofs.Tryd.prog 46 = true := by kernel_rfl
theorem ht21_W5 : hasText Go.Proofs.Tryd.prog 21 = true := by kernel_rfl
theorem ht17_W5 : hasText Go.Proofs.Tryd.prog 17 = true := by kernel_rfl
theorem ht25_W5 : hasText Go.Proofs.Tryd.prog 25 = true := by kernel_rfl
theorem ht19_W5 : hasText Go.Proofs.Tryd.prog 19 = true := by kernel_rfl
theorem ag5_W5 : aggT Go.Proofs.Tryd.prog 5 = some false := by kernel_rfl
theorem ht24_W5 : hasText Go.Proofs.Tryd.prog 24 = true := by kernel_rfl
theorem ht14_W5 : hasText Go.Proofs.Tryd.prog 14 = true := by kernel_rfl
theorem sz31_W5 : sizeT Go.Proofs.Tryd.prog 31 = some 2 := by kernel_rfl
theorem ht18_W5 : hasText Go.Proofs.Tryd.prog 18 = true := by kernel_rfl
theorem ag30_W5 : aggT Go.Proofs.Tryd.prog 30 = some true := by kernel_rfl
theorem sz30_W5 : sizeT Go.Proofs.Tryd.prog 30 = some 32 := by kernel_rfl
theorem sz4_W5 : sizeT Go.Proofs.Tryd.prog 4 = some 1 := by kernel_rfl
theorem ag4_W5 : aggT Go.Proofs.Tryd.prog 4 = some false := by kernel_rfl
theorem ht22_W5 : hasText Go.Proofs.Tryd.prog 22 = true := by kernel_rfl
theorem ht23_W5 : hasText Go.Proofs.Tryd.prog 23 = true := by kernel_rfl

open Go.Proofs.YtjbgddpaclcjfaaDoor.Eng.Er Go.Proofs.YtjbgddpaclcjfaaDoor.Eng.Er2

def oNum04 (o : Option Int) : Option Int := some (numV o)
theorem c_num04 {p0 : Option Int} {R : Int} {s : St} (h0 : oNum04 p0 = some R) (hst : StGV s) : AC Go.Proofs.Tryd.prog 24 [pl (errV p0)] s (pl (.int .i64 R)) s := by obtain rfl := some_of h0; exact num04 hst

def F_l4sector (p0 : Int) : Option ((List Int)) :=
  grd (Below 5 ((List.replicate 64 (0 : Int)).length)) <| grd (Below (((5 : Int).toNat : Nat) : Int) (List.replicate 64 (0 : Int)).length) <| grd ((List.replicate 64 (0 : Int)).length = ((List.replicate 64 (0 : Int)).set ((5 : Int).toNat) p0).length) <| some ((List.replicate 64 (0 : Int)).set ((5 : Int).toNat) p0)
set_option maxRecDepth 100000 in
set_option maxHeartbeats 2000000 in
theorem c_l4sector {p0 : Int} {R : (List Int)} (h0 : F_l4sector p0 = some R) : Pure Go.Proofs.Tryd.prog 16 [pl (.int .u8 p0)] (sl (kI .u8) none none R) := by
  intro s
  unfold F_l4sector at h0
  refine ac_of_aw s.boxes.length s.fr.length Go.Proofs.Tryd.func16 rfl (by simp [Go.Proofs.Tryd.ntmps16]) ?_
  refine aw_ext0 ?_
  refine aw_keep [(0, _)] ⟨lg ez, trivial⟩ ?_
  refine aw_seq ?_
  refine aw_region (by decide) ?_
  refine rts _ rfl (opD_assign (ev_const _ _)) ?_
  refine .nil ?_
  refine aw_keep [(0, _)] ⟨lg (ls rfl oz), trivial⟩ ?_
  refine aw_seq ?_
  refine aw_region (by decide) ?_
  refine rts _ rfl (makeHN rfl (k := kI .u8) (x0 := 0) (n := 64) (z := .int .u8 0) Go.Proofs.Tryd.underlying33 el5_W5 (by kernel_rfl) rfl rfl rfl (ev_const _ _) (ev_const _ _) rfl rfl (by decide) (by decide) (by first | exact List.length_nil | (simp only [List.length_cons, List.length_nil, Nat.zero_add, Nat.reduceAdd] <;> rfl)) (by simp only [na, nb, nc, nd, nf, ng, nh, ni, nj, nk] <;> rfl)) ?_
  refine rts _ rfl (opD_assign lz) ?_
  refine .nil ?_
  refine aw_keep [(0, _), (3, _)] ⟨lg (ls rfl (ls rfl oz)), lg lz, trivial⟩ ?_
  refine aw_seq ?_
  refine aw_region (by decide) ?_
  refine rts _ rfl (opD_move (os rfl oz)) ?_
  refine rts _ rfl (opD_move (ls rfl oz)) ?_
  replace h0 := grd_some h0
  obtain ⟨hg_1, h0⟩ := h0
  refine rts _ rfl (opD_indexAddr_hx (i := (5 : Int).toNat) Go.Proofs.Tryd.underlying33 sz5_W5 rfl ⟨_, (loc_getN rfl rfl)⟩ (ls rfl lz) (ev_const _ _) hg_1.eq hg_1.2) ?_
  replace h0 := grd_some h0
  obtain ⟨hg_2, h0⟩ := h0
  refine rts _ rfl (storeE1N (k := kI .u8) (y := p0) rfl sz5_W5 rfl (Nat.le_of_ble_eq_true rfl) (by decide) lz (ls rfl lz) rfl (nat_lt hg_2) (kb_I _) (by simp only [na, nb, nc, nd, nf, ng, nh, ni, nj, nk] <;> rfl)) ?_
  refine .nil ?_
  refine aw_keep [(3, _)] ⟨lg (lx (ls rfl (ls rfl (ls rfl (os rfl oz))))), trivial⟩ ?_
  refine aw_seq ?_
  refine aw_region (by decide) ?_
  refine rts _ rfl (opD_move oz) ?_
  refine rts _ rfl (opD_assign lz) ?_
  refine .nil ?_
  refine aw_keep [(2, _)] ⟨lg lz, trivial⟩ ?_
  replace h0 := grd_some h0
  obtain ⟨hg_3, h0⟩ := h0
  refine aw_seal (k := kI .u8) (bs' := [⟨((hot 5 2) + HOT), []⟩]) (i := 0) (r := 2) (te := 5) rfl [(2, sl (kI .u8) none none ((List.replicate 64 (0 : Int)).set ((5 : Int).toNat) p0))] rfl rfl (Nat.le_of_ble_eq_true rfl) rfl (by decide) ⟨rfl, rfl, trivial⟩ (bl_cons bnd_nil bl_nil) ⟨seal_e oz (seal_sln hg_3), trivial⟩ ?_
  refine aw_ret ?_
  obtain rfl := some_of h0
  exact done_ext (.inr rfl) ((res_one rfl (it_tmp oz)).le (Pd.le_refl _)) (sl_b (kb_I _))

def F_l4ints_b0 (p0 : (List Int)) (p1 : (List Int)) (t_2 : Int) : Option ((Int) ⊕ ((Bool) ⊕ (Unit))) :=
  ifb (decide (t_2 < (p0.length : Int))) (ixb p0 t_2 fun x_4 => ixb p1 t_2 fun x_5 => ifb (decide (x_4 ≠ x_5)) (some (.inr (.inl false))) (some (.inl (IntKind.i64.wrap (t_2 + 1))))) (some (.inr (.inr ())))
def F_l4ints (fl : Nat) (p0 : (List Int)) (p1 : (List Int)) : Option (Bool) :=
  ifb (decide ((p0.length : Int) ≠ (p1.length : Int))) (some false) (bnd (lp (F_l4ints_b0 p0 p1) fl 0) fun z_1 => ocs z_1 (fun qz_1_0 => some qz_1_0) fun z_1_0 => some true)
set_option maxRecDepth 100000 in
set_option maxHeartbeats 2000000 in
theorem c_l4ints {fl : Nat} {p0 : (List Int)} {p1 : (List Int)} {R : Bool} (h0 : F_l4ints fl p0 p1 = some R) : Pure Go.Proofs.Tryd.prog 23 [sl (kI .i64) none none p0, sl (kI .i64) none none p1] (pl (.bool R)) := by
  intro s
  unfold F_l4ints at h0
  refine ac_of_aw s.boxes.length s.fr.length Go.Proofs.Tryd.func23 rfl (by simp [Go.Proofs.Tryd.ntmps23]) ?_
  refine aw_ext0 ?_
  refine aw_keep [(0, _), (1, _)] ⟨lg ez, lg (es ez), trivial⟩ ?_
  refine aw_seq ?_
  refine aw_region (by decide) ?_
  refine rts _ rfl (opD_assign (ev_const _ _)) ?_
  refine .nil ?_
  refine aw_keep [(0, _), (1, _)] ⟨lg (ls rfl oz), lg (ls rfl (os rfl oz)), trivial⟩ ?_
  refine aw_seq ?_
  refine aw_seq ?_
  refine aw_region (by decide) ?_
  refine rts _ rfl (opD_move oz) ?_
  refine rts _ rfl (opD_len_sl Go.Proofs.Tryd.underlying36 lz) ?_
  refine rts _ rfl (opD_move (ls rfl (ls rfl (os rfl oz)))) ?_
  refine rts _ rfl (opD_len_sl Go.Proofs.Tryd.underlying36 lz) ?_
  refine rts _ rfl (opD_neq (ls rfl (ls rfl lz)) lz) ?_
  refine .nil ?_
  refine aw_keep [(0, _), (1, _), (10, _)] ⟨lg (ls rfl (ls rfl (ls rfl (ls rfl (ls rfl oz))))), lg (ls rfl (ls rfl (ls rfl (ls rfl (ls rfl (os rfl oz)))))), lg lz, trivial⟩ ?_
  refine aw_cond _ (os rfl (os rfl oz)) (fun hc => ?_) (fun hc => ?_)
  · skip
    replace h0 := ifb_t h0 hc
    clear hc
    refine aw_seq ?_
    refine aw_region (by decide) ?_
    refine rts _ rfl (opD_assign (ev_const _ _)) ?_
    refine .nil ?_
    refine aw_keep [(4, _)] ⟨lg lz, trivial⟩ ?_
    refine aw_ret ?_
    obtain rfl := some_of h0
    exact done_ext (.inr rfl) ((res_one rfl (it_tmp oz)).le (Pd.le_refl _)) (pl_bnd _ _ _)
  · skip
    replace h0 := ifb_f h0 hc
    clear hc
    refine aw_skip ?_
    refine aw_keep [(0, _), (1, _)] ⟨lg oz, lg (os rfl oz), trivial⟩ ?_
    refine aw_seq ?_
    refine aw_seq ?_
    refine aw_region (by decide) ?_
    refine rts _ rfl (opD_assign (ev_const _ _)) ?_
    refine .nil ?_
    refine aw_keep [(0, _), (1, _), (5, _)] ⟨lg (ls rfl oz), lg (ls rfl (os rfl oz)), lg lz, trivial⟩ ?_
    replace h0 := bnd_some h0
    obtain ⟨z_1, hz_1, h0⟩ := h0
    refine aw_mid (fun e st => ∃ v : Unit, Holds e [] ∧ st = s.ext [] [] ∧ (.inr v) = z_1) ?_ ?_
    · skip
      refine aw_wkN rfl 0 0 rfl rfl ?_
      refine aw_block ?_
      refine aw_loop (fun n e st => ∃ v : Int, Holds e [(0, sl (kI .i64) none none p0), (1, sl (kI .i64) none none p1), (5, pl (.int .i64 v))] ∧ st = s.ext [] [] ∧ lp (F_l4ints_b0 p0 p1) n v = some z_1) fl ⟨0, ⟨le_of_eq (eg oz), le_of_eq (eg (os rfl oz)), le_of_eq (eg (os rfl (os rfl oz))), trivial⟩, rfl, hz_1⟩ ?_
      rintro n e st ⟨t_2, hH, rfl, hz_1⟩
      replace hz_1 := lp_some hz_1
      obtain ⟨m_z_3, z_3, rfl, hz_3, hz_1⟩ := hz_1
      unfold F_l4ints_b0 at hz_3
      refine aw_keep _ hH ?_
      refine aw_wkN rfl 0 0 rfl rfl ?_
      refine aw_seq ?_
      refine aw_seq ?_
      refine aw_region (by decide) ?_
      refine rts _ rfl (opD_move (os rfl (os rfl oz))) ?_
      refine rts _ rfl (opD_move (ls rfl oz)) ?_
      refine rts _ rfl (opD_len_sl Go.Proofs.Tryd.underlying36 lz) ?_
      refine rts _ rfl (opD_lss (ls rfl (ls rfl lz)) lz) ?_
      refine .nil ?_
      refine aw_keep [(0, _), (1, _), (5, _), (14, _)] ⟨lg (ls rfl (ls rfl (ls rfl (ls rfl oz)))), lg (ls rfl (ls rfl (ls rfl (ls rfl (os rfl oz))))), lg (ls rfl (ls rfl (ls rfl (ls rfl (os rfl (os rfl oz)))))), lg lz, trivial⟩ ?_
      refine aw_cond _ (os rfl (os rfl (os rfl oz))) (fun hc => ?_) (fun hc => ?_)
      · skip
        replace hz_3 := ifb_t hz_3 hc
        clear hc
        refine aw_skip ?_
        refine aw_keep [(0, _), (1, _), (5, _)] ⟨lg oz, lg (os rfl oz), lg (os rfl (os rfl oz)), trivial⟩ ?_
        refine aw_seq ?_
        refine aw_block ?_
        refine aw_seq ?_
        refine aw_flat mixed_W5 (by decide +kernel) ?_
        refine zts _ rfl (opD_move oz) ?_
        refine zts _ rfl (opD_move (ls rfl (os rfl (os rfl oz)))) ?_
        replace hz_3 := ixb_some hz_3
        obtain ⟨x_4, hx_4, hbx_4, hz_3⟩ := hz_3
        refine zts _ rfl (opD_indexAddr_sl (i := t_2.toNat) Go.Proofs.Tryd.underlying36 sz3_W5 (ls rfl lz) lz hbx_4.2.2 hbx_4.2.1) ?_
        refine zts _ rfl (opD_load_el_one ag3_W5 lz hx_4 rfl) ?_
        refine zts _ rfl (opD_move (ls rfl (ls rfl (ls rfl (ls rfl (os rfl oz)))))) ?_
        refine zts _ rfl (opD_move (ls rfl (ls rfl (ls rfl (ls rfl (ls rfl (os rfl (os rfl oz)))))))) ?_
        replace hz_3 := ixb_some hz_3
        obtain ⟨x_5, hx_5, hbx_5, hz_3⟩ := hz_3
        refine zts _ rfl (opD_indexAddr_sl (i := t_2.toNat) Go.Proofs.Tryd.underlying36 sz3_W5 (ls rfl lz) lz hbx_5.2.2 hbx_5.2.1) ?_
        refine zts _ rfl (opD_load_el_one ag3_W5 lz hx_5 rfl) ?_
        refine zts _ rfl (opD_neq (ls rfl (ls rfl (ls rfl (ls rfl lz)))) lz) ?_
        refine .nil ?_
        refine aw_keep [(0, _), (1, _), (5, _), (25, _)] ⟨lg (ls rfl (ls rfl (ls rfl (ls rfl (ls rfl (ls rfl (ls rfl (ls rfl (ls rfl oz))))))))), lg (ls rfl (ls rfl (ls rfl (ls rfl (ls rfl (ls rfl (ls rfl (ls rfl (ls rfl (os rfl oz)))))))))), lg (ls rfl (ls rfl (ls rfl (ls rfl (ls rfl (ls rfl (ls rfl (ls rfl (ls rfl (os rfl (os rfl oz))))))))))), lg lz, trivial⟩ ?_
        refine aw_cond _ (os rfl (os rfl (os rfl oz))) (fun hc => ?_) (fun hc => ?_)
        · skip
          replace hz_3 := ifb_t hz_3 hc
          clear hc
          refine aw_seq ?_
          refine aw_region (by decide) ?_
          refine rts _ rfl (opD_assign (ev_const _ _)) ?_
          refine .nil ?_
          refine aw_keep [(4, _)] ⟨lg lz, trivial⟩ ?_
          refine aw_ret ?_
          obtain rfl := some_of hz_3
          replace hz_1 := ocs_r hz_1
          obtain rfl := some_of hz_1
          replace h0 := ocs_l h0
          refine wk_no ?_
          refine wk_no ?_
          obtain rfl := some_of h0
          exact done_ext (.inr rfl) ((res_one rfl (it_tmp oz)).le (Pd.le_refl _)) (pl_bnd _ _ _)
        · skip
          replace hz_3 := ifb_f hz_3 hc
          clear hc
          refine aw_skip ?_
          refine aw_keep [(0, _), (1, _), (5, _)] ⟨lg oz, lg (os rfl oz), lg (os rfl (os rfl oz)), trivial⟩ ?_
          refine aw_region (by decide) ?_
          refine rts _ rfl (opD_move (os rfl (os rfl oz))) ?_
          refine rts _ rfl (opD_add lz (ev_const _ _) rfl) ?_
          refine rts _ rfl (opD_assign lz) ?_
          refine .nil ?_
          obtain rfl := some_of hz_3
          replace hz_1 := ocs_l hz_1
          refine wk_yesN rfl (l := [(0, sl (kI .i64) none none p0), (1, sl (kI .i64) none none p1), (5, pl (.int .i64 (IntKind.i64.wrap (t_2 + 1))))]) (bs' := []) ⟨le_of_eq (eg (ls rfl (ls rfl (ls rfl oz)))), le_of_eq (eg (ls rfl (ls rfl (ls rfl (os rfl oz))))), le_of_eq (eg lz), trivial⟩ (bnd_cons (sl_b (kb_I _)) (bnd_cons (sl_b (kb_I _)) (bnd_cons (pl_bnd _ _ _) bnd_nil))) (Nat.le_of_ble_eq_true rfl) (by simp only [na, nb, nc, nd, nf, ng, nh, ni, nj, nk] <;> rfl) bxle_nil rfl (by simp only [na, nb, nc, nd, nf, ng, nh, ni, nj, nk] <;> rfl) bl_nil ?_
          exact ⟨m_z_3, Nat.lt_succ_self _, IntKind.i64.wrap (t_2 + 1), ⟨le_of_eq (eg oz), le_of_eq (eg (os rfl oz)), le_of_eq (eg (os rfl (os rfl oz))), trivial⟩, rfl, hz_1⟩
      · skip
        replace hz_3 := ifb_f hz_3 hc
        clear hc
        refine aw_exit ?_
        obtain rfl := some_of hz_3
        replace hz_1 := ocs_r hz_1
        refine wk_no ?_
        refine wk_yesN rfl (l := []) (bs' := []) trivial bnd_nil (Nat.le_of_ble_eq_true rfl) (by simp only [na, nb, nc, nd, nf, ng, nh, ni, nj, nk] <;> rfl) bxle_nil rfl (by simp only [na, nb, nc, nd, nf, ng, nh, ni, nj, nk] <;> rfl) bl_nil ?_
        exact ⟨(), trivial, rfl, some_of hz_1⟩
    · rintro e st ⟨vz_1, hH, rfl, rfl⟩
      refine aw_keep _ hH ?_
      replace h0 := ocs_r h0
      refine aw_keep [] trivial ?_
      refine aw_seq ?_
      refine aw_region (by decide) ?_
      refine rts _ rfl (opD_assign (ev_const _ _)) ?_
      refine .nil ?_
      refine aw_keep [(4, _)] ⟨lg lz, trivial⟩ ?_
      refine aw_ret ?_
      obtain rfl := some_of h0
      exact done_ext (.inr rfl) ((res_one rfl (it_tmp oz)).le (Pd.le_refl _)) (pl_bnd _ _ _)

noncomputable def F_l4sure (fl : Nat) : Option (Bool) :=
  bnd (F_dNew 2) fun x_1 => opc (x_1.1) (some false) (fun y_2 => ifb x_1.2.isSome (some false) (bnd (F_l4sector 7) fun x_3 => bnd (F_dWrite y_2 9 x_3) fun x_4 => bnd (F_dRead (⟨x_4.2.pages_, y_2.safe_, x_4.2.waits_, x_4.2.left_, x_4.2.down_⟩ : Dev) 9) fun x_5 => bnd (F_dReadPage fl (⟨x_4.2.pages_, y_2.safe_, x_4.2.waits_, x_4.2.left_, x_4.2.down_⟩ : Dev) 1) fun x_6 => bnd (F_dArm (⟨x_4.2.pages_, y_2.safe_, x_4.2.waits_, x_4.2.left_, x_4.2.down_⟩ : Dev) 0) fun x_7 => bnd (F_dSync (⟨x_7.pages_, y_2.safe_, x_4.2.waits_, x_7.left_, x_7.down_⟩ : Dev)) fun x_8 => bnd (F_dDown x_8.2) fun x_9 => bnd (F_dCrash fl x_8.2 []) fun x_10 => bnd (F_dRead x_10 9) fun x_11 => grd ((((((x_4.1.isNone && x_5.2.isNone) && x_6.2.isNone) && x_11.2.isNone) && (decide ((x_5.1.length : Int) = 64))) == true) = true → Below 5 x_5.1.length) <| grd ((((((((x_4.1.isNone && x_5.2.isNone) && x_6.2.isNone) && x_11.2.isNone) && (decide ((x_5.1.length : Int) = 64))) && (decide ((x_5.1.getD (5 : Int).toNat default) = 7))) && (decide ((x_6.1.length : Int) = 512))) == true) = true → Below 69 x_6.1.length) <| bnd (gif ((((((((x_4.1.isNone && x_5.2.isNone) && x_6.2.isNone) && x_11.2.isNone) && (decide ((x_5.1.length : Int) = 64))) && (decide ((x_5.1.getD (5 : Int).toNat default) = 7))) && (decide ((x_6.1.length : Int) = 512))) && (decide ((x_6.1.getD (69 : Int).toNat default) = 7))) == true) (oNum04 x_8.1)) fun x_12 => grd ((((((((((((x_4.1.isNone && x_5.2.isNone) && x_6.2.isNone) && x_11.2.isNone) && (decide ((x_5.1.length : Int) = 64))) && (decide ((x_5.1.getD (5 : Int).toNat default) = 7))) && (decide ((x_6.1.length : Int) = 512))) && (decide ((x_6.1.getD (69 : Int).toNat default) = 7))) && (decide (x_12 = 9))) && x_9) && (decide ((x_11.1.length : Int) = 64))) == true) = true → Below 5 x_11.1.length) <| some (((((((((((x_4.1.isNone && x_5.2.isNone) && x_6.2.isNone) && x_11.2.isNone) && (decide ((x_5.1.length : Int) = 64))) && (decide ((x_5.1.getD (5 : Int).toNat default) = 7))) && (decide ((x_6.1.length : Int) = 512))) && (decide ((x_6.1.getD (69 : Int).toNat default) = 7))) && (decide (x_12 = 9))) && x_9) && (decide ((x_11.1.length : Int) = 64))) && (decide ((x_11.1.getD (5 : Int).toNat default) = 0)))))
set_option maxRecDepth 100000 in
set_option maxHeartbeats 2000000 in
theorem c_l4sure {fl : Nat} {R : Bool} {s : St} (h0 : F_l4sure fl = some R) (hst : StGV s) : AC Go.Proofs.Tryd.prog 14 [] s (pl (.bool R)) s := by
  unfold F_l4sure at h0
  refine ac_of_aw s.boxes.length s.fr.length Go.Proofs.Tryd.func14 rfl (by simp [Go.Proofs.Tryd.ntmps14]) ?_
  refine aw_ext0 ?_
  refine aw_keep [] trivial ?_
  refine aw_seq ?_
  refine aw_region (by decide) ?_
  refine rts _ rfl (opD_assign (ev_const _ _)) ?_
  refine .nil ?_
  refine aw_keep [] trivial ?_
  refine aw_seq ?_
  refine aw_region (by decide) ?_
  replace h0 := bnd_some h0
  obtain ⟨x_1, hx_1, h0⟩ := h0
  rcases opt_or (x_1.1) with hy_2 | ⟨y_2, hy_2⟩
  · skip
    replace h0 := opc_n h0 hy_2
    refine rts _ rfl (opD_call ht13_W5 (c_dNew_n hx_1 hy_2) ⟨le_of_eq (ev_const _ _), trivial⟩) ?_
    refine rts _ rfl (opD_move lz) ?_
    refine rts _ rfl (opD_extract lz rfl) ?_
    refine rts _ rfl (opD_extract (ls rfl lz) rfl) ?_
    refine rts _ rfl (opD_assign (ls rfl lz)) ?_
    refine rts _ rfl (opD_assign (ls rfl lz)) ?_
    refine .nil ?_
    refine aw_keep [(1, _), (2, _)] ⟨lg (ls rfl lz), lg lz, trivial⟩ ?_
    refine aw_seq ?_
    refine aw_seq ?_
    refine aw_region (by decide) ?_
    refine rts _ rfl (opD_move (os rfl oz)) ?_
    refine rts _ rfl (opD_bin lz (ev_const _ _) (fun w => errV_guard _ w _) (fun w => errV_beq _ w)) ?_
    refine rts _ rfl (opD_move lz) ?_
    refine rtg _ rfl lz (fun hg2_3_1 => opD_move (ls rfl (ls rfl (ls rfl oz)))) ?_
    refine rtg _ rfl (ls rfl lz) (fun hg2_4_2 => opD_nilp_eqnil Go.Proofs.Tryd.underlying24 (lz.trans (pif_pos hg2_4_2))) ?_
    refine rts _ rfl (opD_ple (q := pl (.bool true)) (by simp only [Bool.or_true]) (opD_or (ls rfl (ls rfl lz)) lz)) ?_
    refine .nil ?_
    refine aw_keep [(1, _), (21, _)] ⟨lg (ls rfl (ls rfl (ls rfl (ls rfl (ls rfl (ls rfl oz)))))), lg lz, trivial⟩ ?_
    refine aw_cond _ (os rfl oz) (fun hc => ?_) (fun hc => ?_)
    · skip
      refine aw_seq ?_
      refine aw_region (by decide) ?_
      refine rts _ rfl (opD_assign (ev_const _ _)) ?_
      refine .nil ?_
      refine aw_keep [(0, _)] ⟨lg lz, trivial⟩ ?_
      refine aw_ret ?_
      obtain rfl := some_of h0
      exact done_ext (.inr rfl) ((res_one rfl (it_tmp oz)).le (Pd.le_refl _)) (pl_bnd _ _ _)
    · skip
      cases hc
  · skip
    replace h0 := opc_s h0 hy_2
    refine rts _ rfl (opD_ple (q := tup [ptr (s.boxes.length + 2) 0, pl (errV x_1.2)]) rfl (opD_to (X' := s.ext [⟨HOT, [mpf KM_dev y_2.safe_]⟩, ⟨HOT, [mpf KM_dev y_2.waits_]⟩, ⟨160, [pl (.int .i64 y_2.pages_), mref (s.boxes.length + 0), mref (s.boxes.length + 1), pl (.int .i64 y_2.left_), pl (.bool y_2.down_)]⟩] []) (opD_call ht13_W5 (c_dNew_s hx_1 hy_2 (xlen rfl rfl)) ⟨le_of_eq (ev_const _ _), trivial⟩) (ul_new rfl (by simp only [na, nb, nc, nd, nf, ng, nh, ni, nj, nk] <;> rfl)))) ?_
    refine rts _ rfl (opD_move lz) ?_
    refine rts _ rfl (opD_extract lz rfl) ?_
    refine rts _ rfl (opD_extract (ls rfl lz) rfl) ?_
    refine rts _ rfl (opD_assign (ls rfl lz)) ?_
    refine rts _ rfl (opD_assign (ls rfl lz)) ?_
    refine .nil ?_
    refine aw_keep [(1, _), (2, _)] ⟨lg (ls rfl lz), lg lz, trivial⟩ ?_
    refine aw_seq ?_
    refine aw_seq ?_
    refine aw_region (by decide) ?_
    refine rts _ rfl (opD_move (os rfl oz)) ?_
    refine rts _ rfl (opD_bin lz (ev_const _ _) (fun w => errV_guard _ w _) (fun w => errV_beq _ w)) ?_
    refine rts _ rfl (opD_move lz) ?_
    refine rtg _ rfl lz (fun hg2_3_3 => opD_move (ls rfl (ls rfl (ls rfl oz)))) ?_
    refine rtg _ rfl (ls rfl lz) (fun hg2_4_4 => opD_ptr_eqnil Go.Proofs.Tryd.underlying24 (lz.trans (pif_pos hg2_4_4))) ?_
    refine rts _ rfl (opD_ple (q := pl (.bool x_1.2.isSome)) (by simp only [Bool.or_false]) (opD_or (ls rfl (ls rfl lz)) lz)) ?_
    refine .nil ?_
    refine aw_keep [(1, _), (21, _)] ⟨lg (ls rfl (ls rfl (ls rfl (ls rfl (ls rfl (ls rfl oz)))))), lg lz, trivial⟩ ?_
    refine aw_cond _ (os rfl oz) (fun hc => ?_) (fun hc => ?_)
    · skip
      replace h0 := ifb_t h0 hc
      clear hc
      refine aw_seq ?_
      refine aw_region (by decide) ?_
      refine rts _ rfl (opD_assign (ev_const _ _)) ?_
      refine .nil ?_
      refine aw_keep [(0, _)] ⟨lg lz, trivial⟩ ?_
      refine aw_ret ?_
      obtain rfl := some_of h0
      exact done_ext (.inr rfl) ((res_one rfl (it_tmp oz)).le (Pd.le_refl _)) (pl_bnd _ _ _)
    · skip
      replace h0 := ifb_f h0 hc
      clear hc
      refine aw_skip ?_
      refine aw_keep [(1, _)] ⟨lg oz, trivial⟩ ?_
      refine aw_seq ?_
      refine aw_region (by decide) ?_
      refine rts _ rfl (opD_move oz) ?_
      replace h0 := bnd_some h0
      obtain ⟨x_3, hx_3, h0⟩ := h0
      refine rts _ rfl (opD_pure ht16_W5 (c_l4sector hx_3) ⟨le_of_eq (ev_const _ _), trivial⟩) ?_
      replace h0 := bnd_some h0
      obtain ⟨x_4, hx_4, h0⟩ := h0
      refine rts _ rfl (opD_ple (q := pl (errV x_4.1)) rfl (opD_to (X' := s.ext [⟨HOT, [mpf KM_dev y_2.safe_]⟩, ⟨HOT, [mpf KM_dev x_4.2.waits_]⟩, ⟨160, [pl (.int .i64 x_4.2.pages_), mref (s.boxes.length + 0), mref (s.boxes.length + 1), pl (.int .i64 x_4.2.left_), pl (.bool x_4.2.down_)]⟩] []) (opD_call ht15_W5 (c_dWrite hx_4 (ud_len (m := 3) rfl rfl ⟨by omega, ⟨by omega, ⟨by omega, trivial⟩⟩, ⟨by omega, ⟨by omega, trivial⟩, ⟨by omega, trivial, trivial⟩⟩⟩) (loc_getN rfl rfl) (loc_getN rfl rfl) (loc_getN rfl rfl) (Pd.le_refl _) (mpf_bnd _ _)) ⟨le_of_eq (ls rfl lz), le_of_eq (ev_const _ _), le_of_eq lz, trivial⟩) (ul_loc (k := 0) rfl (ul_loc (k := 1) rfl (ul_loc (k := 2) rfl rfl (by simp only [na, nb, nc, nd, nf, ng, nh, ni, nj, nk] <;> rfl)) (by simp only [na, nb, nc, nd, nf, ng, nh, ni, nj, nk] <;> rfl)) (by simp only [na, nb, nc, nd, nf, ng, nh, ni, nj, nk] <;> rfl)))) ?_
      refine rts _ rfl (opD_assign lz) ?_
      refine .nil ?_
      refine aw_keep [(1, _), (3, _)] ⟨lg (ls rfl (ls rfl (ls rfl (ls rfl oz)))), lg lz, trivial⟩ ?_
      refine aw_seq ?_
      refine aw_region (by decide) ?_
      refine rts _ rfl (opD_move oz) ?_
      replace h0 := bnd_some h0
      obtain ⟨x_5, hx_5, h0⟩ := h0
      refine rts _ rfl (opD_call ht20_W5 (c_dRead hx_5 (ud_len (m := 3) rfl rfl ⟨by omega, ⟨by omega, ⟨by omega, trivial⟩⟩, ⟨by omega, ⟨by omega, trivial⟩, ⟨by omega, trivial, trivial⟩⟩⟩) (loc_getN rfl rfl) (loc_getN rfl rfl) (loc_getN rfl rfl) (Pd.le_refl _) (mpf_bnd _ _) (Pd.le_refl _) (mpf_bnd _ _)) ⟨le_of_eq lz, le_of_eq (ev_const _ _), trivial⟩) ?_
      refine rts _ rfl (opD_move lz) ?_
      refine rts _ rfl (opD_extract lz rfl) ?_
      refine rts _ rfl (opD_extract (ls rfl lz) rfl) ?_
      refine rts _ rfl (opD_assign (ls rfl lz)) ?_
      refine rts _ rfl (opD_assign (ls rfl lz)) ?_
      refine .nil ?_
      refine aw_keep [(1, _), (3, _), (4, _), (5, _)] ⟨lg (ls rfl (ls rfl (ls rfl (ls rfl (ls rfl (ls rfl (ls rfl oz))))))), lg (ls rfl (ls rfl (ls rfl (ls rfl (ls rfl (ls rfl (ls rfl (os rfl oz)))))))), lg (ls rfl lz), lg lz, trivial⟩ ?_
      refine aw_seq ?_
      refine aw_region (by decide) ?_
      refine rts _ rfl (opD_move oz) ?_
      replace h0 := bnd_some h0
      obtain ⟨x_6, hx_6, h0⟩ := h0
      refine rts _ rfl (opD_call ht46_W5 (c_dReadPage hx_6 (ud_len (m := 3) rfl rfl ⟨by omega, ⟨by omega, ⟨by omega, trivial⟩⟩, ⟨by omega, ⟨by omega, trivial⟩, ⟨by omega, trivial, trivial⟩⟩⟩) (loc_getN rfl rfl) (loc_getN rfl rfl) (loc_getN rfl rfl) (Pd.le_refl _) (mpf_bnd _ _) (Pd.le_refl _) (mpf_bnd _ _)) ⟨le_of_eq lz, le_of_eq (ev_const _ _), trivial⟩) ?_
      refine rts _ rfl (opD_move lz) ?_
      refine rts _ rfl (opD_extract lz rfl) ?_
      refine rts _ rfl (opD_extract (ls rfl lz) rfl) ?_
      refine rts _ rfl (opD_assign (ls rfl lz)) ?_
      refine rts _ rfl (opD_assign (ls rfl lz)) ?_
      refine .nil ?_
      refine aw_keep [(1, _), (3, _), (4, _), (5, _), (6, _), (7, _)] ⟨lg (ls rfl (ls rfl (ls rfl (ls rfl (ls rfl (ls rfl (ls rfl oz))))))), lg (ls rfl (ls rfl (ls rfl (ls rfl (ls rfl (ls rfl (ls rfl (os rfl oz)))))))), lg (ls rfl (ls rfl (ls rfl (ls rfl (ls rfl (ls rfl (ls rfl (os rfl (os rfl oz))))))))), lg (ls rfl (ls rfl (ls rfl (ls rfl (ls rfl (ls rfl (ls rfl (os rfl (os rfl (os rfl oz)))))))))), lg (ls rfl lz), lg lz, trivial⟩ ?_
      refine aw_seq ?_
      refine aw_region (by decide) ?_
      refine rts _ rfl (opD_move oz) ?_
      replace h0 := bnd_some h0
      obtain ⟨x_7, hx_7, h0⟩ := h0
      refine rts _ rfl (opD_ple (q := pl (.tuple #[])) rfl (opD_to (X' := s.ext [⟨HOT, [mpf KM_dev y_2.safe_]⟩, ⟨HOT, [mpf KM_dev x_4.2.waits_]⟩, ⟨160, [pl (.int .i64 x_7.pages_), mref (s.boxes.length + 0), mref (s.boxes.length + 1), pl (.int .i64 x_7.left_), pl (.bool x_7.down_)]⟩] []) (opD_call ht21_W5 (c_dArm hx_7 (ud_len (m := 3) rfl rfl ⟨by omega, ⟨by omega, ⟨by omega, trivial⟩⟩, ⟨by omega, ⟨by omega, trivial⟩, ⟨by omega, trivial, trivial⟩⟩⟩) (loc_getN rfl rfl) (loc_getN rfl rfl) (loc_getN rfl rfl) (Pd.le_refl _) (mpf_bnd _ _) (Pd.le_refl _) (mpf_bnd _ _)) ⟨le_of_eq lz, le_of_eq (ev_const _ _), trivial⟩) (ul_loc (k := 0) rfl (ul_loc (k := 1) rfl (ul_loc (k := 2) rfl rfl (by simp only [na, nb, nc, nd, nf, ng, nh, ni, nj, nk] <;> rfl)) (by simp only [na, nb, nc, nd, nf, ng, nh, ni, nj, nk] <;> rfl)) (by simp only [na, nb, nc, nd, nf, ng, nh, ni, nj, nk] <;> rfl)))) ?_
      refine .nil ?_
      refine aw_keep [(1, _), (3, _), (4, _), (5, _), (6, _), (7, _)] ⟨lg (ls rfl (ls rfl oz)), lg (ls rfl (ls rfl (os rfl oz))), lg (ls rfl (ls rfl (os rfl (os rfl oz)))), lg (ls rfl (ls rfl (os rfl (os rfl (os rfl oz))))), lg (ls rfl (ls rfl (os rfl (os rfl (os rfl (os rfl oz)))))), lg (ls rfl (ls rfl (os rfl (os rfl (os rfl (os rfl (os rfl oz))))))), trivial⟩ ?_
      refine aw_seq ?_
      refine aw_region (by decide) ?_
      refine rts _ rfl (opD_move oz) ?_
      replace h0 := bnd_some h0
      obtain ⟨x_8, hx_8, h0⟩ := h0
      refine rts _ rfl (opD_ple (q := pl (errV x_8.1)) rfl (opD_to (X' := s.ext [⟨HOT, [mpf KM_dev x_8.2.safe_]⟩, ⟨HOT, [mpf KM_dev x_8.2.waits_]⟩, ⟨160, [pl (.int .i64 x_8.2.pages_), mref (s.boxes.length + 0), mref (s.boxes.length + 1), pl (.int .i64 x_8.2.left_), pl (.bool x_8.2.down_)]⟩] []) (opD_call ht17_W5 (c_dSync hx_8 (ud_len (m := 3) rfl rfl ⟨by omega, ⟨by omega, ⟨by omega, trivial⟩⟩, ⟨by omega, ⟨by omega, trivial⟩, ⟨by omega, trivial, trivial⟩⟩⟩) (loc_getN rfl rfl) (loc_getN rfl rfl) (loc_getN rfl rfl)) ⟨le_of_eq lz, trivial⟩) (ul_loc (k := 0) rfl (ul_loc (k := 1) rfl (ul_loc (k := 2) rfl rfl (by simp only [na, nb, nc, nd, nf, ng, nh, ni, nj, nk] <;> rfl)) (by simp only [na, nb, nc, nd, nf, ng, nh, ni, nj, nk] <;> rfl)) (by simp only [na, nb, nc, nd, nf, ng, nh, ni, nj, nk] <;> rfl)))) ?_
      refine rts _ rfl (opD_assign lz) ?_
      refine .nil ?_
      refine aw_keep [(1, _), (3, _), (4, _), (5, _), (6, _), (7, _), (8, _)] ⟨lg (ls rfl (ls rfl (ls rfl oz))), lg (ls rfl (ls rfl (ls rfl (os rfl oz)))), lg (ls rfl (ls rfl (ls rfl (os rfl (os rfl oz))))), lg (ls rfl (ls rfl (ls rfl (os rfl (os rfl (os rfl oz)))))), lg (ls rfl (ls rfl (ls rfl (os rfl (os rfl (os rfl (os rfl oz))))))), lg (ls rfl (ls rfl (ls rfl (os rfl (os rfl (os rfl (os rfl (os rfl oz)))))))), lg lz, trivial⟩ ?_
      refine aw_seq ?_
      refine aw_region (by decide) ?_
      refine rts _ rfl (opD_move oz) ?_
      replace h0 := bnd_some h0
      obtain ⟨x_9, hx_9, h0⟩ := h0
      refine rts _ rfl (opD_call ht25_W5 (c_dDown hx_9 (ud_len (m := 3) rfl rfl ⟨by omega, ⟨by omega, ⟨by omega, trivial⟩⟩, ⟨by omega, ⟨by omega, trivial⟩, ⟨by omega, trivial, trivial⟩⟩⟩) (loc_getN rfl rfl) (loc_getN rfl rfl) (loc_getN rfl rfl) (Pd.le_refl _) (mpf_bnd _ _) (Pd.le_refl _) (mpf_bnd _ _)) ⟨le_of_eq lz, trivial⟩) ?_
      refine rts _ rfl (opD_assign lz) ?_
      refine .nil ?_
      refine aw_keep [(1, _), (3, _), (4, _), (5, _), (6, _), (7, _), (8, _), (9, _)] ⟨lg (ls rfl (ls rfl (ls rfl oz))), lg (ls rfl (ls rfl (ls rfl (os rfl oz)))), lg (ls rfl (ls rfl (ls rfl (os rfl (os rfl oz))))), lg (ls rfl (ls rfl (ls rfl (os rfl (os rfl (os rfl oz)))))), lg (ls rfl (ls rfl (ls rfl (os rfl (os rfl (os rfl (os rfl oz))))))), lg (ls rfl (ls rfl (ls rfl (os rfl (os rfl (os rfl (os rfl (os rfl oz)))))))), lg (ls rfl (ls rfl (ls rfl (os rfl (os rfl (os rfl (os rfl (os rfl (os rfl oz))))))))), lg lz, trivial⟩ ?_
      refine aw_seq ?_
      refine aw_region (by decide) ?_
      refine rts _ rfl (opD_move oz) ?_
      replace h0 := bnd_some h0
      obtain ⟨x_10, hx_10, h0⟩ := h0
      refine rts _ rfl (opD_ple (q := pl (.tuple #[])) rfl (opD_to (X' := s.ext [⟨HOT, [mpf KM_dev x_10.safe_]⟩, ⟨HOT, [mpf KM_dev x_10.waits_]⟩, ⟨160, [pl (.int .i64 x_10.pages_), mref (s.boxes.length + 0), mref (s.boxes.length + 1), pl (.int .i64 x_10.left_), pl (.bool x_10.down_)]⟩] []) (opD_call ht19_W5 (c_dCrash hx_10 (ud_len (m := 3) rfl rfl ⟨by omega, ⟨by omega, ⟨by omega, trivial⟩⟩, ⟨by omega, ⟨by omega, trivial⟩, ⟨by omega, trivial, trivial⟩⟩⟩) (loc_getN rfl rfl) (loc_getN rfl rfl) (loc_getN rfl rfl)) ⟨le_of_eq lz, (le_of_eq (ev_const _ _)).trans (le_nil rfl), trivial⟩) (ul_loc (k := 0) rfl (ul_loc (k := 1) rfl (ul_loc (k := 2) rfl rfl (by simp only [na, nb, nc, nd, nf, ng, nh, ni, nj, nk] <;> rfl)) (by simp only [na, nb, nc, nd, nf, ng, nh, ni, nj, nk] <;> rfl)) (by simp only [na, nb, nc, nd, nf, ng, nh, ni, nj, nk] <;> rfl)))) ?_
      refine .nil ?_
      refine aw_keep [(1, _), (3, _), (4, _), (5, _), (6, _), (7, _), (8, _), (9, _)] ⟨lg (ls rfl (ls rfl oz)), lg (ls rfl (ls rfl (os rfl oz))), lg (ls rfl (ls rfl (os rfl (os rfl oz)))), lg (ls rfl (ls rfl (os rfl (os rfl (os rfl oz))))), lg (ls rfl (ls rfl (os rfl (os rfl (os rfl (os rfl oz)))))), lg (ls rfl (ls rfl (os rfl (os rfl (os rfl (os rfl (os rfl oz))))))), lg (ls rfl (ls rfl (os rfl (os rfl (os rfl (os rfl (os rfl (os rfl oz)))))))), lg (ls rfl (ls rfl (os rfl (os rfl (os rfl (os rfl (os rfl (os rfl (os rfl oz))))))))), trivial⟩ ?_
      refine aw_seq ?_
      refine aw_region (by decide) ?_
      refine rts _ rfl (opD_move oz) ?_
      replace h0 := bnd_some h0
      obtain ⟨x_11, hx_11, h0⟩ := h0
      refine rts _ rfl (opD_call ht20_W5 (c_dRead hx_11 (ud_len (m := 3) rfl rfl ⟨by omega, ⟨by omega, ⟨by omega, trivial⟩⟩, ⟨by omega, ⟨by omega, trivial⟩, ⟨by omega, trivial, trivial⟩⟩⟩) (loc_getN rfl rfl) (loc_getN rfl rfl) (loc_getN rfl rfl) (Pd.le_refl _) (mpf_bnd _ _) (Pd.le_refl _) (mpf_bnd _ _)) ⟨le_of_eq lz, le_of_eq (ev_const _ _), trivial⟩) ?_
      refine rts _ rfl (opD_move lz) ?_
      refine rts _ rfl (opD_extract lz rfl) ?_
      refine rts _ rfl (opD_extract (ls rfl lz) rfl) ?_
      refine rts _ rfl (opD_assign (ls rfl lz)) ?_
      refine rts _ rfl (opD_assign (ls rfl lz)) ?_
      refine .nil ?_
      refine aw_keep [(3, _), (4, _), (5, _), (6, _), (7, _), (8, _), (9, _), (10, _), (11, _)] ⟨lg (ls rfl (ls rfl (ls rfl (ls rfl (ls rfl (ls rfl (ls rfl (os rfl oz)))))))), lg (ls rfl (ls rfl (ls rfl (ls rfl (ls rfl (ls rfl (ls rfl (os rfl (os rfl oz))))))))), lg (ls rfl (ls rfl (ls rfl (ls rfl (ls rfl (ls rfl (ls rfl (os rfl (os rfl (os rfl oz)))))))))), lg (ls rfl (ls rfl (ls rfl (ls rfl (ls rfl (ls rfl (ls rfl (os rfl (os rfl (os rfl (os rfl oz))))))))))), lg (ls rfl (ls rfl (ls rfl (ls rfl (ls rfl (ls rfl (ls rfl (os rfl (os rfl (os rfl (os rfl (os rfl oz)))))))))))), lg (ls rfl (ls rfl (ls rfl (ls rfl (ls rfl (ls rfl (ls rfl (os rfl (os rfl (os rfl (os rfl (os rfl (os rfl oz))))))))))))), lg (ls rfl (ls rfl (ls rfl (ls rfl (ls rfl (ls rfl (ls rfl (os rfl (os rfl (os rfl (os rfl (os rfl (os rfl (os rfl oz)))))))))))))), lg (ls rfl lz), lg lz, trivial⟩ ?_
      refine aw_seq ?_
      refine aw_region (by decide) ?_
      refine rts _ rfl (opD_move oz) ?_
      refine rts _ rfl (opD_bin lz (ev_const _ _) (fun w => errV_geql _ w _) (fun w => errV_eql _ w)) ?_
      refine rts _ rfl (opD_move lz) ?_
      refine rtg _ rfl lz (fun hg12_3_5 => opD_move (ls rfl (ls rfl (ls rfl (os rfl (os rfl oz)))))) ?_
      refine rtg _ rfl (ls rfl lz) (fun hg12_4_6 => opD_bin (lz.trans (pif_pos hg12_4_6)) (ev_const _ _) (fun w => errV_geql _ w _) (fun w => errV_eql _ w)) ?_
      refine rts _ rfl (opD_and (ls rfl (ls rfl lz)) lz) ?_
      refine rts _ rfl (opD_move lz) ?_
      refine rtg _ rfl lz (fun hg12_7_7 => opD_move (ls rfl (ls rfl (ls rfl (ls rfl (ls rfl (ls rfl (ls rfl (os rfl (os rfl (os rfl (os rfl oz)))))))))))) ?_
      refine rtg _ rfl (ls rfl lz) (fun hg12_8_8 => opD_bin (lz.trans (pif_pos hg12_8_8)) (ev_const _ _) (fun w => errV_geql _ w _) (fun w => errV_eql _ w)) ?_
      refine rts _ rfl (opD_and (ls rfl (ls rfl lz)) lz) ?_
      refine rts _ rfl (opD_move lz) ?_
      refine rtg _ rfl lz (fun hg12_11_9 => opD_move (ls rfl (ls rfl (ls rfl (ls rfl (ls rfl (ls rfl (ls rfl (ls rfl (ls rfl (ls rfl (ls rfl (os rfl (os rfl (os rfl (os rfl (os rfl (os rfl (os rfl (os rfl oz)))))))))))))))))))) ?_
      refine rtg _ rfl (ls rfl lz) (fun hg12_12_10 => opD_bin (lz.trans (pif_pos hg12_12_10)) (ev_const _ _) (fun w => errV_geql _ w _) (fun w => errV_eql _ w)) ?_
      refine rts _ rfl (opD_and (ls rfl (ls rfl lz)) lz) ?_
      refine rts _ rfl (opD_move lz) ?_
      refine rtg _ rfl lz (fun hg12_15_11 => opD_move (ls rfl (ls rfl (ls rfl (ls rfl (ls rfl (ls rfl (ls rfl (ls rfl (ls rfl (ls rfl (ls rfl (ls rfl (ls rfl (ls rfl (ls rfl (os rfl oz))))))))))))))))) ?_
      refine rtg _ rfl (ls rfl lz) (fun hg12_16_12 => opD_len_sl Go.Proofs.Tryd.underlying33 (lz.trans (pif_pos hg12_16_12))) ?_
      refine rtg _ rfl (ls rfl (ls rfl lz)) (fun hg12_17_13 => opD_eql (lz.trans (pif_pos hg12_17_13)) (ev_const _ _)) ?_
      refine rts _ rfl (opD_and (ls rfl (ls rfl (ls rfl lz))) lz) ?_
      refine rts _ rfl (opD_move lz) ?_
      refine rtg _ rfl lz (fun hg12_20_14 => opD_move (ls rfl (ls rfl (ls rfl (ls rfl (ls rfl (ls rfl (ls rfl (ls rfl (ls rfl (ls rfl (ls rfl (ls rfl (ls rfl (ls rfl (ls rfl (ls rfl (ls rfl (ls rfl (ls rfl (ls rfl (os rfl oz)))))))))))))))))))))) ?_
      replace h0 := grd_some h0
      obtain ⟨hg_16, h0⟩ := h0
      refine rtg _ rfl (ls rfl lz) (fun hg12_21_15 => opD_indexAddr_sl (i := (5 : Int).toNat) Go.Proofs.Tryd.underlying33 sz5_W5 (lz.trans (pif_pos hg12_21_15)) (ev_const _ _) (hg_16 hg12_21_15).eq (hg_16 hg12_21_15).2) ?_
      refine rtg _ rfl (ls rfl (ls rfl lz)) (fun hg12_22_17 => opD_load_el_one ag5_W5 (lz.trans (pif_pos hg12_22_17)) (at_getD default (hg_16 hg12_22_17).2) rfl) ?_
      refine rtg _ rfl (ls rfl (ls rfl (ls rfl lz))) (fun hg12_23_18 => opD_eql (lz.trans (pif_pos hg12_23_18)) (ev_const _ _)) ?_
      refine rts _ rfl (opD_and (ls rfl (ls rfl (ls rfl (ls rfl lz)))) lz) ?_
      refine rts _ rfl (opD_move lz) ?_
      refine rtg _ rfl lz (fun hg12_26_19 => opD_move (ls rfl (ls rfl (ls rfl (ls rfl (ls rfl (ls rfl (ls rfl (ls rfl (ls rfl (ls rfl (ls rfl (ls rfl (ls rfl (ls rfl (ls rfl (ls rfl (ls rfl (ls rfl (ls rfl (ls rfl (ls rfl (ls rfl (ls rfl (ls rfl (ls rfl (ls rfl (os rfl (os rfl (os rfl oz)))))))))))))))))))))))))))))) ?_
      refine rtg _ rfl (ls rfl lz) (fun hg12_27_20 => opD_len_sl Go.Proofs.Tryd.underlying33 (lz.trans (pif_pos hg12_27_20))) ?_
      refine rtg _ rfl (ls rfl (ls rfl lz)) (fun hg12_28_21 => opD_eql (lz.trans (pif_pos hg12_28_21)) (ev_const _ _)) ?_
      refine rts _ rfl (opD_and (ls rfl (ls rfl (ls rfl lz))) lz) ?_
      refine rts _ rfl (opD_move lz) ?_
      refine rtg _ rfl lz (fun hg12_31_22 => opD_move (ls rfl (ls rfl (ls rfl (ls rfl (ls rfl (ls rfl (ls rfl (ls rfl (ls rfl (ls rfl (ls rfl (ls rfl (ls rfl (ls rfl (ls rfl (ls rfl (ls rfl (ls rfl (ls rfl (ls rfl (ls rfl (ls rfl (ls rfl (ls rfl (ls rfl (ls rfl (ls rfl (ls rfl (ls rfl (ls rfl (ls rfl (os rfl (os rfl (os rfl oz))))))))))))))))))))))))))))))))))) ?_
      replace h0 := grd_some h0
      obtain ⟨hg_24, h0⟩ := h0
      refine rtg _ rfl (ls rfl lz) (fun hg12_32_23 => opD_indexAddr_sl (i := (69 : Int).toNat) Go.Proofs.Tryd.underlying33 sz5_W5 (lz.trans (pif_pos hg12_32_23)) (ev_const _ _) (hg_24 hg12_32_23).eq (hg_24 hg12_32_23).2) ?_
      refine rtg _ rfl (ls rfl (ls rfl lz)) (fun hg12_33_25 => opD_load_el_one ag5_W5 (lz.trans (pif_pos hg12_33_25)) (at_getD default (hg_24 hg12_33_25).2) rfl) ?_
      refine rtg _ rfl (ls rfl (ls rfl (ls rfl lz))) (fun hg12_34_26 => opD_eql (lz.trans (pif_pos hg12_34_26)) (ev_const _ _)) ?_
      refine rts _ rfl (opD_and (ls rfl (ls rfl (ls rfl (ls rfl lz)))) lz) ?_
      refine rts _ rfl (opD_move lz) ?_
      refine rtg _ rfl lz (fun hg12_37_27 => opD_move (ls rfl (ls rfl (ls rfl (ls rfl (ls rfl (ls rfl (ls rfl (ls rfl (ls rfl (ls rfl (ls rfl (ls rfl (ls rfl (ls rfl (ls rfl (ls rfl (ls rfl (ls rfl (ls rfl (ls rfl (ls rfl (ls rfl (ls rfl (ls rfl (ls rfl (ls rfl (ls rfl (ls rfl (ls rfl (ls rfl (ls rfl (ls rfl (ls rfl (ls rfl (ls rfl (ls rfl (ls rfl (os rfl (os rfl (os rfl (os rfl (os rfl oz))))))))))))))))))))))))))))))))))))))))))) ?_
      replace h0 := bnd_some h0
      obtain ⟨x_12, hx_12, h0⟩ := h0
      refine rtg _ rfl (ls rfl lz) (fun hg12_38_28 => opD_call ht24_W5 (c_num04 (gif_some hx_12 hg12_38_28) hst) ⟨le_of_eq (lz.trans (pif_pos hg12_38_28)), trivial⟩) ?_
      refine rtg _ rfl (ls rfl (ls rfl lz)) (fun hg12_39_29 => opD_eql (lz.trans (pif_pos hg12_39_29)) (ev_const _ _)) ?_
      refine rts _ rfl (opD_and (ls rfl (ls rfl (ls rfl lz))) lz) ?_
      refine rts _ rfl (opD_move lz) ?_
      refine rtg _ rfl lz (fun hg12_42_30 => opD_move (ls rfl (ls rfl (ls rfl (ls rfl (ls rfl (ls rfl (ls rfl (ls rfl (ls rfl (ls rfl (ls rfl (ls rfl (ls rfl (ls rfl (ls rfl (ls rfl (ls rfl (ls rfl (ls rfl (ls rfl (ls rfl (ls rfl (ls rfl (ls rfl (ls rfl (ls rfl (ls rfl (ls rfl (ls rfl (ls rfl (ls rfl (ls rfl (ls rfl (ls rfl (ls rfl (ls rfl (ls rfl (ls rfl (ls rfl (ls rfl (ls rfl (ls rfl (os rfl (os rfl (os rfl (os rfl (os rfl (os rfl oz))))))))))))))))))))))))))))))))))))))))))))))))) ?_
      refine rts _ rfl (opD_and (ls rfl lz) lz) ?_
      refine rts _ rfl (opD_move lz) ?_
      refine rtg _ rfl lz (fun hg12_45_31 => opD_move (ls rfl (ls rfl (ls rfl (ls rfl (ls rfl (ls rfl (ls rfl (ls rfl (ls rfl (ls rfl (ls rfl (ls rfl (ls rfl (ls rfl (ls rfl (ls rfl (ls rfl (ls rfl (ls rfl (ls rfl (ls rfl (ls rfl (ls rfl (ls rfl (ls rfl (ls rfl (ls rfl (ls rfl (ls rfl (ls rfl (ls rfl (ls rfl (ls rfl (ls rfl (ls rfl (ls rfl (ls rfl (ls rfl (ls rfl (ls rfl (ls rfl (ls rfl (ls rfl (ls rfl (ls rfl (os rfl (os rfl (os rfl (os rfl (os rfl (os rfl (os rfl oz))))))))))))))))))))))))))))))))))))))))))))))))))))) ?_
      refine rtg _ rfl (ls rfl lz) (fun hg12_46_32 => opD_len_sl Go.Proofs.Tryd.underlying33 (lz.trans (pif_pos hg12_46_32))) ?_
      refine rtg _ rfl (ls rfl (ls rfl lz)) (fun hg12_47_33 => opD_eql (lz.trans (pif_pos hg12_47_33)) (ev_const _ _)) ?_
      refine rts _ rfl (opD_and (ls rfl (ls rfl (ls rfl lz))) lz) ?_
      refine rts _ rfl (opD_move lz) ?_
      refine rtg _ rfl lz (fun hg12_50_34 => opD_move (ls rfl (ls rfl (ls rfl (ls rfl (ls rfl (ls rfl (ls rfl (ls rfl (ls rfl (ls rfl (ls rfl (ls rfl (ls rfl (ls rfl (ls rfl (ls rfl (ls rfl (ls rfl (ls rfl (ls rfl (ls rfl (ls rfl (ls rfl (ls rfl (ls rfl (ls rfl (ls rfl (ls rfl (ls rfl (ls rfl (ls rfl (ls rfl (ls rfl (ls rfl (ls rfl (ls rfl (ls rfl (ls rfl (ls rfl (ls rfl (ls rfl (ls rfl (ls rfl (ls rfl (ls rfl (ls rfl (ls rfl (ls rfl (ls rfl (ls rfl (os rfl (os rfl (os rfl (os rfl (os rfl (os rfl (os rfl oz)))))))))))))))))))))))))))))))))))))))))))))))))))))))))) ?_
      replace h0 := grd_some h0
      obtain ⟨hg_36, h0⟩ := h0
      refine rtg _ rfl (ls rfl lz) (fun hg12_51_35 => opD_indexAddr_sl (i := (5 : Int).toNat) Go.Proofs.Tryd.underlying33 sz5_W5 (lz.trans (pif_pos hg12_51_35)) (ev_const _ _) (hg_36 hg12_51_35).eq (hg_36 hg12_51_35).2) ?_
      refine rtg _ rfl (ls rfl (ls rfl lz)) (fun hg12_52_37 => opD_load_el_one ag5_W5 (lz.trans (pif_pos hg12_52_37)) (at_getD default (hg_36 hg12_52_37).2) rfl) ?_
      refine rtg _ rfl (ls rfl (ls rfl (ls rfl lz))) (fun hg12_53_38 => opD_eql (lz.trans (pif_pos hg12_53_38)) (ev_const _ _)) ?_
      refine rts _ rfl (opD_and (ls rfl (ls rfl (ls rfl (ls rfl lz)))) lz) ?_
      refine rts _ rfl (opD_assign lz) ?_
      refine .nil ?_
      refine aw_keep [(0, _)] ⟨lg lz, trivial⟩ ?_
      refine aw_ret ?_
      obtain rfl := some_of h0
      exact done_ext (.inr rfl) ((res_one rfl (it_tmp oz)).le (Pd.le_refl _)) (pl_bnd _ _ _)

noncomputable def F_lDeviceKeeps_b0 (p0 : (List (Int × Int))) (y_2 : Dev) (t_5 : Int × (At → Option (List Int)) × Int × Int × Bool × (List Int)) : Option ((Int × (At → Option (List Int)) × Int × Int × Bool × (List Int)) ⊕ ((Bool) ⊕ ((At → Option (List Int)) × Int × Int × Bool × (List Int)))) :=
  ifb (decide (t_5.1 < (p0.length : Int))) (ixb p0 t_5.1 fun x_7 => ixb p0 t_5.1 fun x_8 => bnd (F_l4sector x_8.2) fun x_9 => bnd (F_dWrite (⟨t_5.2.2.1, y_2.safe_, t_5.2.1, t_5.2.2.2.1, t_5.2.2.2.2.1⟩ : Dev) (IntKind.i64.wrap ((x_7.1.tmod 32))) x_9) fun x_10 => ifb x_10.1.isSome (some (.inr (.inl false))) (ixb p0 t_5.1 fun x_11 => grd (Below (IntKind.i64.wrap ((x_7.1.tmod 32))) 32) <| grd (Below (((IntKind.i64.wrap ((x_7.1.tmod 32))).toNat : Nat) : Int) t_5.2.2.2.2.2.length) <| some (.inl (IntKind.i64.wrap (t_5.1 + 1), x_10.2.waits_, x_10.2.pages_, x_10.2.left_, x_10.2.down_, (t_5.2.2.2.2.2.set ((IntKind.i64.wrap ((x_7.1.tmod 32))).toNat) x_11.2))))) (some (.inr (.inr (t_5.2.1, t_5.2.2.1, t_5.2.2.2.1, t_5.2.2.2.2.1, t_5.2.2.2.2.2))))
noncomputable def F_lDeviceKeeps_b1 (p1 : (List (Int × Int))) (x_12 : ((Option Int) × Dev)) (t_15 : Int × (At → Option (List Int)) × Int × Int × Bool × (List Int)) : Option ((Int × (At → Option (List Int)) × Int × Int × Bool × (List Int)) ⊕ ((Bool) ⊕ ((At → Option (List Int)) × Int × Int × Bool × (List Int)))) :=
  ifb (decide (t_15.1 < (p1.length : Int))) (ixb p1 t_15.1 fun x_17 => ixb p1 t_15.1 fun x_18 => bnd (F_l4sector x_18.2) fun x_19 => bnd (F_dWrite (⟨t_15.2.2.1, x_12.2.safe_, t_15.2.1, t_15.2.2.2.1, t_15.2.2.2.2.1⟩ : Dev) (IntKind.i64.wrap ((x_17.1.tmod 32))) x_19) fun x_20 => ifb x_20.1.isSome (some (.inr (.inl false))) (ixb p1 t_15.1 fun x_21 => grd (Below (IntKind.i64.wrap ((x_17.1.tmod 32))) 32) <| grd (Below (((IntKind.i64.wrap ((x_17.1.tmod 32))).toNat : Nat) : Int) t_15.2.2.2.2.2.length) <| some (.inl (IntKind.i64.wrap (t_15.1 + 1), x_20.2.waits_, x_20.2.pages_, x_20.2.left_, x_20.2.down_, (t_15.2.2.2.2.2.set ((IntKind.i64.wrap ((x_17.1.tmod 32))).toNat) x_21.2))))) (some (.inr (.inr (t_15.2.1, t_15.2.2.1, t_15.2.2.2.1, t_15.2.2.2.2.1, t_15.2.2.2.2.2))))
noncomputable def F_lDeviceKeeps_b2 (p2 : (List Bool)) (vz_4 : (At → Option (List Int)) × Int × Int × Bool × (List Int)) (vz_14 : (At → Option (List Int)) × Int × Int × Bool × (List Int)) (x_22 : ((List Int))) (x_23 : (Dev)) (t_25 : Int × Int) : Option ((Int × Int) ⊕ ((Bool) ⊕ (Int))) :=
  ifb (decide (t_25.2 < 32)) (grd (Below t_25.2 32) <| ixb vz_4.2.2.2.2 ((t_25.2.toNat : Nat) : Int) fun x_27 => grd (((decide (t_25.1 < (x_22.length : Int))) == true) = true → Below t_25.1 x_22.length) <| bnd (ifb ((decide (t_25.1 < (x_22.length : Int))) && (decide ((x_22.getD t_25.1.toNat default) = t_25.2))) (grd (((decide (t_25.1 < (p2.length : Int))) == true) = true → Below t_25.1 p2.length) <| bnd (ifb ((decide (t_25.1 < (p2.length : Int))) && (p2.getD t_25.1.toNat default)) (grd (Below t_25.2 32) <| ixb vz_14.2.2.2.2 ((t_25.2.toNat : Nat) : Int) fun x_30 => some x_30) (some x_27)) fun z_29 => some (IntKind.i64.wrap (t_25.1 + 1), z_29)) (some (t_25.1, x_27))) fun z_28 => bnd (F_dRead x_23 t_25.2) fun x_31 => bnd (gif (x_31.2.isSome == false) (F_l4sector z_28.2)) fun x_32 => ifb (x_31.2.isSome || (decide ((strOf x_31.1) ≠ (strOf x_32)))) (some (.inr (.inl false))) (some (.inl (z_28.1, IntKind.i64.wrap (t_25.2 + 1))))) (some (.inr (.inr t_25.1)))
noncomputable def F_lDeviceKeeps (fl : Nat) (p0 : (List (Int × Int))) (p1 : (List (Int × Int))) (p2 : (List Bool)) : Option (Bool) :=
  bnd (F_dNew 4) fun x_1 => opc (x_1.1) (some false) (fun y_2 => ifb ((x_1.2.isSome || (decide (60 < (p0.length : Int)))) || (decide (60 < (p1.length : Int)))) (bnd (gif (x_1.2.isNone == true) (F_l4sure fl)) fun x_3 => some (x_1.2.isNone && x_3)) (bnd (lp (F_lDeviceKeeps_b0 p0 y_2) fl (0, y_2.waits_, y_2.pages_, y_2.left_, y_2.down_, (List.replicate 32 (0 : Int)))) fun z_4 => ocs z_4 (fun qz_4_0 => some qz_4_0) fun z_4_0 => bnd (F_dSync (⟨z_4_0.2.1, y_2.safe_, z_4_0.1, z_4_0.2.2.1, z_4_0.2.2.2.1⟩ : Dev)) fun x_12 => bnd (gif (x_12.1.isSome == false) (F_dWaiting x_12.2)) fun x_13 => ifb (x_12.1.isSome || (decide ((x_13.length : Int) ≠ 0))) (some false) (grd (z_4_0.2.2.2.2.length = 32) <| grd ((List.replicate 32 (0 : Int)).length = 32) <| grd (z_4_0.2.2.2.2.length = 32) <| bnd (lp (F_lDeviceKeeps_b1 p1 x_12) fl (0, x_12.2.waits_, x_12.2.pages_, x_12.2.left_, x_12.2.down_, z_4_0.2.2.2.2)) fun z_14 => ocs z_14 (fun qz_14_0 => some qz_14_0) fun z_14_0 => bnd (F_dWaiting (⟨z_14_0.2.1, x_12.2.safe_, z_14_0.1, z_14_0.2.2.1, z_14_0.2.2.2.1⟩ : Dev)) fun x_22 => bnd (F_dCrash fl (⟨z_14_0.2.1, x_12.2.safe_, z_14_0.1, z_14_0.2.2.1, z_14_0.2.2.2.1⟩ : Dev) p2) fun x_23 => bnd (lp (F_lDeviceKeeps_b2 p2 z_4_0 z_14_0 x_22 x_23) fl (0, 0)) fun z_24 => ocs z_24 (fun qz_24_0 => some qz_24_0) fun z_24_0 => bnd (gif ((decide (z_24_0 = (x_22.length : Int))) == true) (F_l4sure fl)) fun x_33 => some ((decide (z_24_0 = (x_22.length : Int))) && x_33))))
set_option maxRecDepth 100000 in
set_option maxHeartbeats 2000000 in
theorem c_lDeviceKeeps {fl : Nat} {p0 : (List (Int × Int))} {p1 : (List (Int × Int))} {p2 : (List Bool)} {R : Bool} {s : St} (h0 : F_lDeviceKeeps fl p0 p1 p2 = some R) (hst : StGV s) : AC Go.Proofs.Tryd.prog 3 [sl (kPair (kI .u8) (kI .u8)) none none p0, sl (kPair (kI .u8) (kI .u8)) none none p1, sl kB none none p2] s (pl (.bool R)) s := by
  unfold F_lDeviceKeeps at h0
  refine ac_of_aw s.boxes.length s.fr.length Go.Proofs.Tryd.func3 rfl (by simp [Go.Proofs.Tryd.ntmps3]) ?_
  refine aw_ext0 ?_
  refine aw_keep [(0, _), (1, _), (2, _)] ⟨lg ez, lg (es ez), lg (es (es ez)), trivial⟩ ?_
  refine aw_seq ?_
  refine aw_region (by decide) ?_
  refine rts _ rfl (opD_assign (ev_const _ _)) ?_
  refine .nil ?_
  refine aw_keep [(0, _), (1, _), (2, _)] ⟨lg (ls rfl oz), lg (ls rfl (os rfl oz)), lg (ls rfl (os rfl (os rfl oz))), trivial⟩ ?_
  refine aw_seq ?_
  refine aw_region (by decide) ?_
  replace h0 := bnd_some h0
  obtain ⟨x_1, hx_1, h0⟩ := h0
  rcases opt_or (x_1.1) with hy_2 | ⟨y_2, hy_2⟩
  · skip
    replace h0 := opc_n h0 hy_2
    refine rts _ rfl (opD_call ht13_W5 (c_dNew_n hx_1 hy_2) ⟨le_of_eq (ev_const _ _), trivial⟩) ?_
    refine rts _ rfl (opD_move lz) ?_
    refine rts _ rfl (opD_extract lz rfl) ?_
    refine rts _ rfl (opD_extract (ls rfl lz) rfl) ?_
    refine rts _ rfl (opD_assign (ls rfl lz)) ?_
    refine rts _ rfl (opD_assign (ls rfl lz)) ?_
    refine .nil ?_
    refine aw_keep [(0, _), (1, _), (2, _), (7, _), (8, _)] ⟨lg (ls rfl (ls rfl (ls rfl (ls rfl (ls rfl (ls rfl oz)))))), lg (ls rfl (ls rfl (ls rfl (ls rfl (ls rfl (ls rfl (os rfl oz))))))), lg (ls rfl (ls rfl (ls rfl (ls rfl (ls rfl (ls rfl (os rfl (os rfl oz)))))))), lg (ls rfl lz), lg lz, trivial⟩ ?_
    refine aw_seq ?_
    refine aw_seq ?_
    refine aw_region (by decide) ?_
    refine rts _ rfl (opD_move (os rfl (os rfl (os rfl (os rfl oz))))) ?_
    refine rts _ rfl (opD_bin lz (ev_const _ _) (fun w => errV_guard _ w _) (fun w => errV_beq _ w)) ?_
    refine rts _ rfl (opD_move lz) ?_
    refine rtg _ rfl lz (fun hg2_3_1 => opD_move (ls rfl (ls rfl (ls rfl (os rfl (os rfl (os rfl oz))))))) ?_
    refine rtg _ rfl (ls rfl lz) (fun hg2_4_2 => opD_nilp_eqnil Go.Proofs.Tryd.underlying24 (lz.trans (pif_pos hg2_4_2))) ?_
    refine rts _ rfl (opD_ple (q := pl (.bool true)) (by simp only [Bool.or_true]) (opD_or (ls rfl (ls rfl lz)) lz)) ?_
    refine rts _ rfl (opD_move lz) ?_
    refine rtk ⟨_, rfl, .inl ⟨_, eg lz, rfl⟩⟩ ?_
    refine rtk ⟨_, rfl, .inl ⟨_, eg (ls rfl lz), rfl⟩⟩ ?_
    refine rtk ⟨_, rfl, .inl ⟨_, eg (ls rfl (ls rfl lz)), rfl⟩⟩ ?_
    refine rts _ rfl (opD_pickT (ls rfl (ls rfl (ls rfl lz))) (ev_const _ _)) ?_
    refine rts _ rfl (opD_move lz) ?_
    refine rtk ⟨_, rfl, .inl ⟨_, eg lz, rfl⟩⟩ ?_
    refine rtk ⟨_, rfl, .inl ⟨_, eg (ls rfl lz), rfl⟩⟩ ?_
    refine rtk ⟨_, rfl, .inl ⟨_, eg (ls rfl (ls rfl lz)), rfl⟩⟩ ?_
    refine rts _ rfl (opD_pickT (ls rfl (ls rfl (ls rfl lz))) (ev_const _ _)) ?_
    refine .nil ?_
    refine aw_keep [(0, _), (1, _), (2, _), (7, _), (8, _), (40, _)] ⟨lg (ls rfl (ls rfl (ls rfl (ls rfl (ls rfl (ls rfl (ls rfl (ls rfl (ls rfl (ls rfl (ls rfl (ls rfl (ls rfl (ls rfl (ls rfl (ls rfl oz)))))))))))))))), lg (ls rfl (ls rfl (ls rfl (ls rfl (ls rfl (ls rfl (ls rfl (ls rfl (ls rfl (ls rfl (ls rfl (ls rfl (ls rfl (ls rfl (ls rfl (ls rfl (os rfl oz))))))))))))))))), lg (ls rfl (ls rfl (ls rfl (ls rfl (ls rfl (ls rfl (ls rfl (ls rfl (ls rfl (ls rfl (ls rfl (ls rfl (ls rfl (ls rfl (ls rfl (ls rfl (os rfl (os rfl oz)))))))))))))))))), lg (ls rfl (ls rfl (ls rfl (ls rfl (ls rfl (ls rfl (ls rfl (ls rfl (ls rfl (ls rfl (ls rfl (ls rfl (ls rfl (ls rfl (ls rfl (ls rfl (os rfl (os rfl (os rfl oz))))))))))))))))))), lg (ls rfl (ls rfl (ls rfl (ls rfl (ls rfl (ls rfl (ls rfl (ls rfl (ls rfl (ls rfl (ls rfl (ls rfl (ls rfl (ls rfl (ls rfl (ls rfl (os rfl (os rfl (os rfl (os rfl oz)))))))))))))))))))), lg lz, trivial⟩ ?_
    refine aw_cond _ (os rfl (os rfl (os rfl (os rfl (os rfl oz))))) (fun hc => ?_) (fun hc => ?_)
    · skip
      refine aw_seq ?_
      refine aw_region (by decide) ?_
      refine rts _ rfl (opD_move (os rfl (os rfl (os rfl (os rfl oz))))) ?_
      refine rts _ rfl (opD_bin lz (ev_const _ _) (fun w => errV_geql _ w _) (fun w => errV_eql _ w)) ?_
      refine rts _ rfl (opD_move lz) ?_
      refine rtg _ rfl lz (fun hg3_3_3 => opD_move (ls rfl (ls rfl (ls rfl (os rfl (os rfl (os rfl oz))))))) ?_
      refine rtg _ rfl (ls rfl lz) (fun hg3_4_4 => opD_nilp_neqnil Go.Proofs.Tryd.underlying24 (lz.trans (pif_pos hg3_4_4))) ?_
      refine rts _ rfl (opD_ple (q := pl (.bool false)) (by simp only [Bool.and_false]) (opD_and (ls rfl (ls rfl lz)) lz)) ?_
      refine rts _ rfl (opD_move lz) ?_
      refine rtk ⟨_, rfl, .inl ⟨_, eg lz, rfl⟩⟩ ?_
      refine rts _ rfl (opD_pickF (ls rfl lz) (ev_const _ _)) ?_
      refine rts _ rfl (opD_assign lz) ?_
      refine .nil ?_
      refine aw_keep [(6, _)] ⟨lg lz, trivial⟩ ?_
      refine aw_ret ?_
      obtain rfl := some_of h0
      exact done_ext (.inr rfl) ((res_one rfl (it_tmp oz)).le (Pd.le_refl _)) (pl_bnd _ _ _)
    · skip
      cases hc
  · skip
    replace h0 := opc_s h0 hy_2
    refine rts _ rfl (opD_ple (q := tup [ptr (s.boxes.length + 2) 0, pl (errV x_1.2)]) rfl (opD_to (X' := s.ext [⟨HOT, [mpf KM_dev y_2.safe_]⟩, ⟨HOT, [mpf KM_dev y_2.waits_]⟩, ⟨160, [pl (.int .i64 y_2.pages_), mref (s.boxes.length + 0), mref (s.boxes.length + 1), pl (.int .i64 y_2.left_), pl (.bool y_2.down_)]⟩] []) (opD_call ht13_W5 (c_dNew_s hx_1 hy_2 (xlen rfl rfl)) ⟨le_of_eq (ev_const _ _), trivial⟩) (ul_new rfl (by simp only [na, nb, nc, nd, nf, ng, nh, ni, nj, nk] <;> rfl)))) ?_
    refine rts _ rfl (opD_move lz) ?_
    refine rts _ rfl (opD_extract lz rfl) ?_
    refine rts _ rfl (opD_extract (ls rfl lz) rfl) ?_
    refine rts _ rfl (opD_assign (ls rfl lz)) ?_
    refine rts _ rfl (opD_assign (ls rfl lz)) ?_
    refine .nil ?_
    refine aw_keep [(0, _), (1, _), (2, _), (7, _), (8, _)] ⟨lg (ls rfl (ls rfl (ls rfl (ls rfl (ls rfl (ls rfl oz)))))), lg (ls rfl (ls rfl (ls rfl (ls rfl (ls rfl (ls rfl (os rfl oz))))))), lg (ls rfl (ls rfl (ls rfl (ls rfl (ls rfl (ls rfl (os rfl (os rfl oz)))))))), lg (ls rfl lz), lg lz, trivial⟩ ?_
    refine aw_seq ?_
    refine aw_seq ?_
    refine aw_region (by decide) ?_
    refine rts _ rfl (opD_move (os rfl (os rfl (os rfl (os rfl oz))))) ?_
    refine rts _ rfl (opD_bin lz (ev_const _ _) (fun w => errV_guard _ w _) (fun w => errV_beq _ w)) ?_
    refine rts _ rfl (opD_move lz) ?_
    refine rtg _ rfl lz (fun hg2_3_5 => opD_move (ls rfl (ls rfl (ls rfl (os rfl (os rfl (os rfl oz))))))) ?_
    refine rtg _ rfl (ls rfl lz) (fun hg2_4_6 => opD_ptr_eqnil Go.Proofs.Tryd.underlying24 (lz.trans (pif_pos hg2_4_6))) ?_
    refine rts _ rfl (opD_ple (q := pl (.bool x_1.2.isSome)) (by simp only [Bool.or_false]) (opD_or (ls rfl (ls rfl lz)) lz)) ?_
    refine rts _ rfl (opD_move lz) ?_
    refine rtg _ rfl lz (fun hg2_7_7 => opD_move (ls rfl (ls rfl (ls rfl (ls rfl (ls rfl (ls rfl (ls rfl oz)))))))) ?_
    refine rtg _ rfl (ls rfl lz) (fun hg2_8_8 => opD_len_sl Go.Proofs.Tryd.underlying22 (lz.trans (pif_pos hg2_8_8))) ?_
    refine rtg _ rfl (ls rfl (ls rfl lz)) (fun hg2_9_9 => opD_gtr (lz.trans (pif_pos hg2_9_9)) (ev_const _ _)) ?_
    refine rts _ rfl (opD_or (ls rfl (ls rfl (ls rfl lz))) lz) ?_
    refine rts _ rfl (opD_move lz) ?_
    refine rtg _ rfl lz (fun hg2_12_10 => opD_move (ls rfl (ls rfl (ls rfl (ls rfl (ls rfl (ls rfl (ls rfl (ls rfl (ls rfl (ls rfl (ls rfl (ls rfl (os rfl oz)))))))))))))) ?_
    refine rtg _ rfl (ls rfl lz) (fun hg2_13_11 => opD_len_sl Go.Proofs.Tryd.underlying22 (lz.trans (pif_pos hg2_13_11))) ?_
    refine rtg _ rfl (ls rfl (ls rfl lz)) (fun hg2_14_12 => opD_gtr (lz.trans (pif_pos hg2_14_12)) (ev_const _ _)) ?_
    refine rts _ rfl (opD_or (ls rfl (ls rfl (ls rfl lz))) lz) ?_
    refine .nil ?_
    refine aw_keep [(0, _), (1, _), (2, _), (7, _), (8, _), (40, _)] ⟨lg (ls rfl (ls rfl (ls rfl (ls rfl (ls rfl (ls rfl (ls rfl (ls rfl (ls rfl (ls rfl (ls rfl (ls rfl (ls rfl (ls rfl (ls rfl (ls rfl oz)))))))))))))))), lg (ls rfl (ls rfl (ls rfl (ls rfl (ls rfl (ls rfl (ls rfl (ls rfl (ls rfl (ls rfl (ls rfl (ls rfl (ls rfl (ls rfl (ls rfl (ls rfl (os rfl oz))))))))))))))))), lg (ls rfl (ls rfl (ls rfl (ls rfl (ls rfl (ls rfl (ls rfl (ls rfl (ls rfl (ls rfl (ls rfl (ls rfl (ls rfl (ls rfl (ls rfl (ls rfl (os rfl (os rfl oz)))))))))))))))))), lg (ls rfl (ls rfl (ls rfl (ls rfl (ls rfl (ls rfl (ls rfl (ls rfl (ls rfl (ls rfl (ls rfl (ls rfl (ls rfl (ls rfl (ls rfl (ls rfl (os rfl (os rfl (os rfl oz))))))))))))))))))), lg (ls rfl (ls rfl (ls rfl (ls rfl (ls rfl (ls rfl (ls rfl (ls rfl (ls rfl (ls rfl (ls rfl (ls rfl (ls rfl (ls rfl (ls rfl (ls rfl (os rfl (os rfl (os rfl (os rfl oz)))))))))))))))))))), lg lz, trivial⟩ ?_
    refine aw_cond _ (os rfl (os rfl (os rfl (os rfl (os rfl oz))))) (fun hc => ?_) (fun hc => ?_)
    · skip
      replace h0 := ifb_t h0 hc
      clear hc
      refine aw_seq ?_
      refine aw_region (by decide) ?_
      refine rts _ rfl (opD_move (os rfl (os rfl (os rfl (os rfl oz))))) ?_
      refine rts _ rfl (opD_bin lz (ev_const _ _) (fun w => errV_geql _ w _) (fun w => errV_eql _ w)) ?_
      refine rts _ rfl (opD_move lz) ?_
      refine rtg _ rfl lz (fun hg3_3_13 => opD_move (ls rfl (ls rfl (ls rfl (os rfl (os rfl (os rfl oz))))))) ?_
      refine rtg _ rfl (ls rfl lz) (fun hg3_4_14 => opD_ptr_neqnil Go.Proofs.Tryd.underlying24 (lz.trans (pif_pos hg3_4_14))) ?_
      refine rts _ rfl (opD_ple (q := pl (.bool x_1.2.isNone)) (by simp only [Bool.and_true]) (opD_and (ls rfl (ls rfl lz)) lz)) ?_
      refine rts _ rfl (opD_move lz) ?_
      replace h0 := bnd_some h0
      obtain ⟨x_3, hx_3, h0⟩ := h0
      refine rtg _ rfl lz (fun hg3_7_15 => opD_call ht14_W5 (c_l4sure (gif_some hx_3 hg3_7_15) hst) trivial) ?_
      refine rts _ rfl (opD_and (ls rfl lz) lz) ?_
      refine rts _ rfl (opD_assign lz) ?_
      refine .nil ?_
      refine aw_keep [(6, _)] ⟨lg lz, trivial⟩ ?_
      refine aw_ret ?_
      obtain rfl := some_of h0
      exact done_ext (.inr rfl) ((res_one rfl (it_tmp oz)).le (Pd.le_refl _)) (pl_bnd _ _ _)
    · skip
      replace h0 := ifb_f h0 hc
      clear hc
      refine aw_skip ?_
      refine aw_keep [(0, _), (1, _), (2, _), (7, _)] ⟨lg oz, lg (os rfl oz), lg (os rfl (os rfl oz)), lg (os rfl (os rfl (os rfl oz))), trivial⟩ ?_
      refine aw_seq ?_
      refine aw_region (by decide) ?_
      refine rts _ rfl (allocFN (k := kI .u8) (x0 := 0) (z := .int .u8 0) (m := 32) rfl (by kernel_rfl) rfl (by first | exact List.length_nil | (simp only [List.length_cons, List.length_nil, Nat.zero_add, Nat.reduceAdd] <;> rfl)) (by simp only [na, nb, nc, nd, nf, ng, nh, ni, nj, nk] <;> rfl)) ?_
      refine rts _ rfl (allocFN (k := kI .u8) (x0 := 0) (z := .int .u8 0) (m := 32) rfl (by kernel_rfl) rfl (by first | exact List.length_nil | (simp only [List.length_cons, List.length_nil, Nat.zero_add, Nat.reduceAdd] <;> rfl)) (by simp only [na, nb, nc, nd, nf, ng, nh, ni, nj, nk] <;> rfl)) ?_
      refine .nil ?_
      refine aw_keep [(0, _), (1, _), (2, _), (7, _), (9, _), (10, _)] ⟨lg (ls rfl (ls rfl oz)), lg (ls rfl (ls rfl (os rfl oz))), lg (ls rfl (ls rfl (os rfl (os rfl oz)))), lg (ls rfl (ls rfl (os rfl (os rfl (os rfl oz))))), lg (ls rfl lz), lg lz, trivial⟩ ?_
      refine aw_seq ?_
      refine aw_seq ?_
      refine aw_region (by decide) ?_
      refine rts _ rfl (opD_assign (ev_const _ _)) ?_
      refine .nil ?_
      refine aw_keep [(0, _), (1, _), (2, _), (7, _), (9, _), (10, _), (11, _)] ⟨lg (ls rfl oz), lg (ls rfl (os rfl oz)), lg (ls rfl (os rfl (os rfl oz))), lg (ls rfl (os rfl (os rfl (os rfl oz)))), lg (ls rfl (os rfl (os rfl (os rfl (os rfl oz))))), lg (ls rfl (os rfl (os rfl (os rfl (os rfl (os rfl oz)))))), lg lz, trivial⟩ ?_
      replace h0 := bnd_some h0
      obtain ⟨z_4, hz_4, h0⟩ := h0
      refine aw_mid (fun e st => ∃ v : (At → Option (List Int)) × Int × Int × Bool × (List Int), Holds e [(1, sl (kPair (kI .u8) (kI .u8)) none none p1), (2, sl kB none none p2), (7, ptr (s.boxes.length + 2) 0), (9, ptr (s.boxes.length + 3) 0), (10, ptr (s.boxes.length + 4) 0)] ∧ st = s.ext [⟨HOT, [mpf KM_dev y_2.safe_]⟩, ⟨HOT, [mpf KM_dev v.1]⟩, ⟨160, [pl (.int .i64 v.2.1), mref (s.boxes.length + 0), mref (s.boxes.length + 1), pl (.int .i64 v.2.2.1), pl (.bool v.2.2.2.1)]⟩, ⟨30, (flat (kI .u8) v.2.2.2.2)⟩, ⟨30, (flat (kI .u8) (List.replicate 32 (0 : Int)))⟩] [] ∧ (.inr v) = z_4) ?_ ?_
      · skip
        refine aw_wkN rfl 5 0 rfl rfl ?_
        refine aw_block ?_
        refine aw_loop (fun n e st => ∃ v : Int × (At → Option (List Int)) × Int × Int × Bool × (List Int), Holds e [(0, sl (kPair (kI .u8) (kI .u8)) none none p0), (1, sl (kPair (kI .u8) (kI .u8)) none none p1), (2, sl kB none none p2), (7, ptr (s.boxes.length + 2) 0), (9, ptr (s.boxes.length + 3) 0), (10, ptr (s.boxes.length + 4) 0), (11, pl (.int .i64 v.1))] ∧ st = s.ext [⟨HOT, [mpf KM_dev y_2.safe_]⟩, ⟨HOT, [mpf KM_dev v.2.1]⟩, ⟨160, [pl (.int .i64 v.2.2.1), mref (s.boxes.length + 0), mref (s.boxes.length + 1), pl (.int .i64 v.2.2.2.1), pl (.bool v.2.2.2.2.1)]⟩, ⟨30, (flat (kI .u8) v.2.2.2.2.2)⟩, ⟨30, (flat (kI .u8) (List.replicate 32 (0 : Int)))⟩] [] ∧ lp (F_lDeviceKeeps_b0 p0 y_2) n v = some z_4) fl ⟨(0, y_2.waits_, y_2.pages_, y_2.left_, y_2.down_, (List.replicate 32 (0 : Int))), ⟨le_of_eq (eg oz), le_of_eq (eg (os rfl oz)), le_of_eq (eg (os rfl (os rfl oz))), le_of_eq (eg (os rfl (os rfl (os rfl oz)))), le_of_eq (eg (os rfl (os rfl (os rfl (os rfl oz))))), le_of_eq (eg (os rfl (os rfl (os rfl (os rfl (os rfl oz)))))), le_of_eq (eg (os rfl (os rfl (os rfl (os rfl (os rfl (os rfl oz))))))), trivial⟩, rfl, hz_4⟩ ?_
        rintro n e st ⟨t_5, hH, rfl, hz_4⟩
        replace hz_4 := lp_some hz_4
        obtain ⟨m_z_6, z_6, rfl, hz_6, hz_4⟩ := hz_4
        unfold F_lDeviceKeeps_b0 at hz_6
        refine aw_keep _ hH ?_
        refine aw_wkN rfl 5 0 rfl rfl ?_
        refine aw_seq ?_
        refine aw_seq ?_
        refine aw_region (by decide) ?_
        refine rts _ rfl (opD_move (os rfl (os rfl (os rfl (os rfl (os rfl (os rfl oz))))))) ?_
        refine rts _ rfl (opD_move (ls rfl oz)) ?_
        refine rts _ rfl (opD_len_sl Go.Proofs.Tryd.underlying22 lz) ?_
        refine rts _ rfl (opD_lss (ls rfl (ls rfl lz)) lz) ?_
        refine .nil ?_
        refine aw_keep [(0, _), (1, _), (2, _), (7, _), (9, _), (10, _), (11, _), (53, _)] ⟨lg (ls rfl (ls rfl (ls rfl (ls rfl oz)))), lg (ls rfl (ls rfl (ls rfl (ls rfl (os rfl oz))))), lg (ls rfl (ls rfl (ls rfl (ls rfl (os rfl (os rfl oz)))))), lg (ls rfl (ls rfl (ls rfl (ls rfl (os rfl (os rfl (os rfl oz))))))), lg (ls rfl (ls rfl (ls rfl (ls rfl (os rfl (os rfl (os rfl (os rfl oz)))))))), lg (ls rfl (ls rfl (ls rfl (ls rfl (os rfl (os rfl (os rfl (os rfl (os rfl oz))))))))), lg (ls rfl (ls rfl (ls rfl (ls rfl (os rfl (os rfl (os rfl (os rfl (os rfl (os rfl oz)))))))))), lg lz, trivial⟩ ?_
        refine aw_cond _ (os rfl (os rfl (os rfl (os rfl (os rfl (os rfl (os rfl oz))))))) (fun hc => ?_) (fun hc => ?_)
        · skip
          replace hz_6 := ifb_t hz_6 hc
          clear hc
          refine aw_skip ?_
          refine aw_keep [(0, _), (1, _), (2, _), (7, _), (9, _), (10, _), (11, _)] ⟨lg oz, lg (os rfl oz), lg (os rfl (os rfl oz)), lg (os rfl (os rfl (os rfl oz))), lg (os rfl (os rfl (os rfl (os rfl oz)))), lg (os rfl (os rfl (os rfl (os rfl (os rfl oz))))), lg (os rfl (os rfl (os rfl (os rfl (os rfl (os rfl oz)))))), trivial⟩ ?_
          refine aw_seq ?_
          refine aw_block ?_
          refine aw_seq ?_
          refine aw_region (by decide) ?_
          refine rts _ rfl (opD_move oz) ?_
          refine rts _ rfl (opD_move (ls rfl (os rfl (os rfl (os rfl (os rfl (os rfl (os rfl oz)))))))) ?_
          replace hz_6 := ixb_some hz_6
          obtain ⟨x_7, hx_7, hbx_7, hz_6⟩ := hz_6
          refine rts _ rfl (opD_indexAddr_sl (i := t_5.1.toNat) Go.Proofs.Tryd.underlying22 sz31_W5 (ls rfl lz) lz hbx_7.2.2 hbx_7.2.1) ?_
          refine rts _ rfl (opD_ple (q := el (kPair (kI .u8) (kI .u8)) p0 t_5.1.toNat 0) rfl (opD_indexAddr_el (i := 0) Go.Proofs.Tryd.underlying31 sz5_W5 lz (ev_const _ _) rfl (by decide))) ?_
          refine rts _ rfl (opD_load_el_one ag5_W5 lz hx_7 rfl) ?_
          refine rts _ rfl (opD_rem lz (ev_const _ _) (by decide) rfl) ?_
          refine rts _ rfl (opD_conv_int Go.Proofs.Tryd.underlying5 Go.Proofs.Tryd.underlying3 lz rfl) ?_
          refine rts _ rfl (opD_assign lz) ?_
          refine .nil ?_
          refine aw_keep [(0, _), (1, _), (2, _), (7, _), (9, _), (10, _), (11, _), (12, _)] ⟨lg (ls rfl (ls rfl (ls rfl (ls rfl (ls rfl (ls rfl (ls rfl (ls rfl oz)))))))), lg (ls rfl (ls rfl (ls rfl (ls rfl (ls rfl (ls rfl (ls rfl (ls rfl (os rfl oz))))))))), lg (ls rfl (ls rfl (ls rfl (ls rfl (ls rfl (ls rfl (ls rfl (ls rfl (os rfl (os rfl oz)))))))))), lg (ls rfl (ls rfl (ls rfl (ls rfl (ls rfl (ls rfl (ls rfl (ls rfl (os rfl (os rfl (os rfl oz))))))))))), lg (ls rfl (ls rfl (ls rfl (ls rfl (ls rfl (ls rfl (ls rfl (ls rfl (os rfl (os rfl (os rfl (os rfl oz)))))))))))), lg (ls rfl (ls rfl (ls rfl (ls rfl (ls rfl (ls rfl (ls rfl (ls rfl (os rfl (os rfl (os rfl (os rfl (os rfl oz))))))))))))), lg (ls rfl (ls rfl (ls rfl (ls rfl (ls rfl (ls rfl (ls rfl (ls rfl (os rfl (os rfl (os rfl (os rfl (os rfl (os rfl oz)))))))))))))), lg lz, trivial⟩ ?_
          refine aw_seq ?_
          refine aw_seq ?_
          refine aw_region (by decide) ?_
          refine rts _ rfl (opD_move (os rfl (os rfl (os rfl oz)))) ?_
          refine rts _ rfl (opD_move (ls rfl (os rfl (os rfl (os rfl (os rfl (os rfl (os rfl (os rfl oz))))))))) ?_
          refine rts _ rfl (opD_move (ls rfl (ls rfl oz))) ?_
          refine rts _ rfl (opD_move (ls rfl (ls rfl (ls rfl (os rfl (os rfl (os rfl (os rfl (os rfl (os rfl oz)))))))))) ?_
          replace hz_6 := ixb_some hz_6
          obtain ⟨x_8, hx_8, hbx_8, hz_6⟩ := hz_6
          refine rts _ rfl (opD_indexAddr_sl (i := t_5.1.toNat) Go.Proofs.Tryd.underlying22 sz31_W5 (ls rfl lz) lz hbx_8.2.2 hbx_8.2.1) ?_
          refine rts _ rfl (opD_ple (q := el (kPair (kI .u8) (kI .u8)) p0 t_5.1.toNat 1) rfl (opD_indexAddr_el (i := 1) Go.Proofs.Tryd.underlying31 sz5_W5 lz (ev_const _ _) rfl (by decide))) ?_
          refine rts _ rfl (opD_load_el_one ag5_W5 lz hx_8 rfl) ?_
          replace hz_6 := bnd_some hz_6
          obtain ⟨x_9, hx_9, hz_6⟩ := hz_6
          refine rts _ rfl (opD_pure ht16_W5 (c_l4sector hx_9) ⟨le_of_eq lz, trivial⟩) ?_
          replace hz_6 := bnd_some hz_6
          obtain ⟨x_10, hx_10, hz_6⟩ := hz_6
          refine rts _ rfl (opD_ple (q := pl (errV x_10.1)) rfl (opD_to (X' := s.ext [⟨HOT, [mpf KM_dev y_2.safe_]⟩, ⟨HOT, [mpf KM_dev x_10.2.waits_]⟩, ⟨160, [pl (.int .i64 x_10.2.pages_), mref (s.boxes.length + 0), mref (s.boxes.length + 1), pl (.int .i64 x_10.2.left_), pl (.bool x_10.2.down_)]⟩, ⟨30, (flat (kI .u8) t_5.2.2.2.2.2)⟩, ⟨30, (flat (kI .u8) (List.replicate 32 (0 : Int)))⟩] []) (opD_call ht15_W5 (c_dWrite hx_10 (ud_len (m := 5) rfl rfl ⟨by omega, ⟨by omega, ⟨by omega, trivial⟩⟩, ⟨by omega, ⟨by omega, trivial⟩, ⟨by omega, trivial, trivial⟩⟩⟩) (loc_getN rfl rfl) (loc_getN rfl rfl) (loc_getN rfl rfl) (Pd.le_refl _) (mpf_bnd _ _)) ⟨le_of_eq (ls rfl (ls rfl (ls rfl (ls rfl (ls rfl (ls rfl (ls rfl lz))))))), le_of_eq (ls rfl (ls rfl (ls rfl (ls rfl (ls rfl (ls rfl lz)))))), le_of_eq lz, trivial⟩) (ul_loc (k := 0) rfl (ul_loc (k := 1) rfl (ul_loc (k := 2) rfl rfl (by simp only [na, nb, nc, nd, nf, ng, nh, ni, nj, nk] <;> rfl)) (by simp only [na, nb, nc, nd, nf, ng, nh, ni, nj, nk] <;> rfl)) (by simp only [na, nb, nc, nd, nf, ng, nh, ni, nj, nk] <;> rfl)))) ?_
          refine rts _ rfl (opD_bin lz (ev_const _ _) (fun w => errV_guard _ w _) (fun w => errV_beq _ w)) ?_
          refine .nil ?_
          refine aw_keep [(0, _), (1, _), (2, _), (7, _), (9, _), (10, _), (11, _), (12, _), (72, _)] ⟨lg (ls rfl (ls rfl (ls rfl (ls rfl (ls rfl (ls rfl (ls rfl (ls rfl (ls rfl (ls rfl oz)))))))))), lg (ls rfl (ls rfl (ls rfl (ls rfl (ls rfl (ls rfl (ls rfl (ls rfl (ls rfl (ls rfl (os rfl oz))))))))))), lg (ls rfl (ls rfl (ls rfl (ls rfl (ls rfl (ls rfl (ls rfl (ls rfl (ls rfl (ls rfl (os rfl (os rfl oz)))))))))))), lg (ls rfl (ls rfl (ls rfl (ls rfl (ls rfl (ls rfl (ls rfl (ls rfl (ls rfl (ls rfl (os rfl (os rfl (os rfl oz))))))))))))), lg (ls rfl (ls rfl (ls rfl (ls rfl (ls rfl (ls rfl (ls rfl (ls rfl (ls rfl (ls rfl (os rfl (os rfl (os rfl (os rfl oz)))))))))))))), lg (ls rfl (ls rfl (ls rfl (ls rfl (ls rfl (ls rfl (ls rfl (ls rfl (ls rfl (ls rfl (os rfl (os rfl (os rfl (os rfl (os rfl oz))))))))))))))), lg (ls rfl (ls rfl (ls rfl (ls rfl (ls rfl (ls rfl (ls rfl (ls rfl (ls rfl (ls rfl (os rfl (os rfl (os rfl (os rfl (os rfl (os rfl oz)))))))))))))))), lg (ls rfl (ls rfl (ls rfl (ls rfl (ls rfl (ls rfl (ls rfl (ls rfl (ls rfl (ls rfl (os rfl (os rfl (os rfl (os rfl (os rfl (os rfl (os rfl oz))))))))))))))))), lg lz, trivial⟩ ?_
          refine aw_cond _ (os rfl (os rfl (os rfl (os rfl (os rfl (os rfl (os rfl (os rfl oz)))))))) (fun hc => ?_) (fun hc => ?_)
          · skip
            replace hz_6 := ifb_t hz_6 hc
            clear hc
            refine aw_seq ?_
            refine aw_region (by decide) ?_
            refine rts _ rfl (opD_assign (ev_const _ _)) ?_
            refine .nil ?_
            refine aw_keep [(6, _)] ⟨lg lz, trivial⟩ ?_
            refine aw_ret ?_
            obtain rfl := some_of hz_6
            replace hz_4 := ocs_r hz_4
            obtain rfl := some_of hz_4
            replace h0 := ocs_l h0
            refine wk_no ?_
            refine wk_no ?_
            obtain rfl := some_of h0
            exact done_ext (.inr rfl) ((res_one rfl (it_tmp oz)).le (Pd.le_refl _)) (pl_bnd _ _ _)
          · skip
            replace hz_6 := ifb_f hz_6 hc
            clear hc
            refine aw_skip ?_
            refine aw_keep [(0, _), (1, _), (2, _), (7, _), (9, _), (10, _), (11, _), (12, _)] ⟨lg oz, lg (os rfl oz), lg (os rfl (os rfl oz)), lg (os rfl (os rfl (os rfl oz))), lg (os rfl (os rfl (os rfl (os rfl oz)))), lg (os rfl (os rfl (os rfl (os rfl (os rfl oz))))), lg (os rfl (os rfl (os rfl (os rfl (os rfl (os rfl oz)))))), lg (os rfl (os rfl (os rfl (os rfl (os rfl (os rfl (os rfl oz))))))), trivial⟩ ?_
            refine aw_region (by decide) ?_
            refine rts _ rfl (opD_move (os rfl (os rfl (os rfl (os rfl (os rfl (os rfl (os rfl oz)))))))) ?_
            refine rts _ rfl (opD_move (ls rfl oz)) ?_
            refine rts _ rfl (opD_move (ls rfl (ls rfl (os rfl (os rfl (os rfl (os rfl (os rfl (os rfl oz))))))))) ?_
            replace hz_6 := ixb_some hz_6
            obtain ⟨x_11, hx_11, hbx_11, hz_6⟩ := hz_6
            refine rts _ rfl (opD_indexAddr_sl (i := t_5.1.toNat) Go.Proofs.Tryd.underlying22 sz31_W5 (ls rfl lz) lz hbx_11.2.2 hbx_11.2.1) ?_
            refine rts _ rfl (opD_ple (q := el (kPair (kI .u8) (kI .u8)) p0 t_5.1.toNat 1) rfl (opD_indexAddr_el (i := 1) Go.Proofs.Tryd.underlying31 sz5_W5 lz (ev_const _ _) rfl (by decide))) ?_
            refine rts _ rfl (opD_load_el_one ag5_W5 lz hx_11 rfl) ?_
            replace hz_6 := grd_some hz_6
            obtain ⟨hg_22, hz_6⟩ := hz_6
            refine rts _ rfl (opD_indexAddr_arr (i := (IntKind.i64.wrap ((x_7.1.tmod 32))).toNat) Go.Proofs.Tryd.underlying30 sz5_W5 (ls rfl (ls rfl (ls rfl (ls rfl (ls rfl (ls rfl (os rfl (os rfl (os rfl (os rfl oz)))))))))) (ls rfl (ls rfl (ls rfl (ls rfl (ls rfl lz))))) hg_22.eq hg_22.2) ?_
            replace hz_6 := grd_some hz_6
            obtain ⟨hg_23, hz_6⟩ := hz_6
            refine rts _ rfl (storeFN (k := kI .u8) (z := x_11.2) rfl sz5_W5 lz (le_of_eq (ls rfl lz)) (one_pl rfl) rfl rfl (nat_lt hg_23) rfl (kb_I _) (by simp only [na, nb, nc, nd, nf, ng, nh, ni, nj, nk] <;> rfl)) ?_
            refine .nil ?_
            refine aw_keep [(0, _), (1, _), (2, _), (7, _), (9, _), (10, _), (11, _)] ⟨lg (lx (ls rfl (ls rfl (ls rfl (ls rfl (ls rfl (ls rfl (ls rfl oz)))))))), lg (lx (ls rfl (ls rfl (ls rfl (ls rfl (ls rfl (ls rfl (ls rfl (os rfl oz))))))))), lg (lx (ls rfl (ls rfl (ls rfl (ls rfl (ls rfl (ls rfl (ls rfl (os rfl (os rfl oz)))))))))), lg (lx (ls rfl (ls rfl (ls rfl (ls rfl (ls rfl (ls rfl (ls rfl (os rfl (os rfl (os rfl oz))))))))))), lg (lx (ls rfl (ls rfl (ls rfl (ls rfl (ls rfl (ls rfl (ls rfl (os rfl (os rfl (os rfl (os rfl oz)))))))))))), lg (lx (ls rfl (ls rfl (ls rfl (ls rfl (ls rfl (ls rfl (ls rfl (os rfl (os rfl (os rfl (os rfl (os rfl oz))))))))))))), lg (lx (ls rfl (ls rfl (ls rfl (ls rfl (ls rfl (ls rfl (ls rfl (os rfl (os rfl (os rfl (os rfl (os rfl (os rfl oz)))))))))))))), trivial⟩ ?_
            refine aw_region (by decide) ?_
            refine rts _ rfl (opD_move (os rfl (os rfl (os rfl (os rfl (os rfl (os rfl oz))))))) ?_
            refine rts _ rfl (opD_add lz (ev_const _ _) rfl) ?_
            refine rts _ rfl (opD_assign lz) ?_
            refine .nil ?_
            obtain rfl := some_of hz_6
            replace hz_4 := ocs_l hz_4
            refine wk_yesN rfl (l := [(0, sl (kPair (kI .u8) (kI .u8)) none none p0), (1, sl (kPair (kI .u8) (kI .u8)) none none p1), (2, sl kB none none p2), (7, ptr (s.boxes.length + 2) 0), (9, ptr (s.boxes.length + 3) 0), (10, ptr (s.boxes.length + 4) 0), (11, pl (.int .i64 (IntKind.i64.wrap (t_5.1 + 1))))]) (bs' := [⟨HOT, [mpf KM_dev y_2.safe_]⟩, ⟨HOT, [mpf KM_dev x_10.2.waits_]⟩, ⟨160, [pl (.int .i64 x_10.2.pages_), mref (s.boxes.length + 0), mref (s.boxes.length + 1), pl (.int .i64 x_10.2.left_), pl (.bool x_10.2.down_)]⟩, ⟨30, (flat (kI .u8) (t_5.2.2.2.2.2.set ((IntKind.i64.wrap ((x_7.1.tmod 32))).toNat) x_11.2))⟩, ⟨30, (flat (kI .u8) (List.replicate 32 (0 : Int)))⟩]) ⟨le_of_eq (eg (ls rfl (ls rfl (ls rfl oz)))), le_of_eq (eg (ls rfl (ls rfl (ls rfl (os rfl oz))))), le_of_eq (eg (ls rfl (ls rfl (ls rfl (os rfl (os rfl oz)))))), le_of_eq (eg (ls rfl (ls rfl (ls rfl (os rfl (os rfl (os rfl oz))))))), le_of_eq (eg (ls rfl (ls rfl (ls rfl (os rfl (os rfl (os rfl (os rfl oz)))))))), le_of_eq (eg (ls rfl (ls rfl (ls rfl (os rfl (os rfl (os rfl (os rfl (os rfl oz))))))))), le_of_eq (eg lz), trivial⟩ (bnd_cons (sl_b (kb_pair (kb_I _) (kb_I _))) (bnd_cons (sl_b (kb_pair (kb_I _) (kb_I _))) (bnd_cons (sl_b kb_B) (bnd_cons (ptr_bnd _ (by first | omega | (simp only [List.length_append, List.length_cons, List.length_nil]; omega))) (bnd_cons (ptr_bnd _ (by first | omega | (simp only [List.length_append, List.length_cons, List.length_nil]; omega))) (bnd_cons (ptr_bnd _ (by first | omega | (simp only [List.length_append, List.length_cons, List.length_nil]; omega))) (bnd_cons (pl_bnd _ _ _) bnd_nil))))))) (Nat.le_of_ble_eq_true rfl) (by simp only [na, nb, nc, nd, nf, ng, nh, ni, nj, nk] <;> rfl) (bxle_same (bxle_same (bxle_same (bxle_same (bxle_same bxle_nil))))) rfl (by simp only [na, nb, nc, nd, nf, ng, nh, ni, nj, nk] <;> rfl) (bl_cons (bnd_cons ((mpf_bnd _ _) _ _) bnd_nil) (bl_cons (bnd_cons ((mpf_bnd _ _) _ _) bnd_nil) (bl_cons (bnd_cons (pl_bnd _ _ _) (bnd_cons (mref_bnd _ (by first | omega | (simp only [List.length_append, List.length_cons, List.length_nil]; omega))) (bnd_cons (mref_bnd _ (by first | omega | (simp only [List.length_append, List.length_cons, List.length_nil]; omega))) (bnd_cons (pl_bnd _ _ _) (bnd_cons (pl_bnd _ _ _) bnd_nil))))) (bl_cons (flatKB (kb_I _)) (bl_cons (flatKB (kb_I _)) bl_nil))))) ?_
            exact ⟨m_z_6, Nat.lt_succ_self _, (IntKind.i64.wrap (t_5.1 + 1), x_10.2.waits_, x_10.2.pages_, x_10.2.left_, x_10.2.down_, (t_5.2.2.2.2.2.set ((IntKind.i64.wrap ((x_7.1.tmod 32))).toNat) x_11.2)), ⟨le_of_eq (eg oz), le_of_eq (eg (os rfl oz)), le_of_eq (eg (os rfl (os rfl oz))), le_of_eq (eg (os rfl (os rfl (os rfl oz)))), le_of_eq (eg (os rfl (os rfl (os rfl (os rfl oz))))), le_of_eq (eg (os rfl (os rfl (os rfl (os rfl (os rfl oz)))))), le_of_eq (eg (os rfl (os rfl (os rfl (os rfl (os rfl (os rfl oz))))))), trivial⟩, rfl, hz_4⟩
        · skip
          replace hz_6 := ifb_f hz_6 hc
          clear hc
          refine aw_exit ?_
          obtain rfl := some_of hz_6
          replace hz_4 := ocs_r hz_4
          refine wk_no ?_
          refine wk_yesN rfl (l := [(1, sl (kPair (kI .u8) (kI .u8)) none none p1), (2, sl kB none none p2), (7, ptr (s.boxes.length + 2) 0), (9, ptr (s.boxes.length + 3) 0), (10, ptr (s.boxes.length + 4) 0)]) (bs' := [⟨HOT, [mpf KM_dev y_2.safe_]⟩, ⟨HOT, [mpf KM_dev t_5.2.1]⟩, ⟨160, [pl (.int .i64 t_5.2.2.1), mref (s.boxes.length + 0), mref (s.boxes.length + 1), pl (.int .i64 t_5.2.2.2.1), pl (.bool t_5.2.2.2.2.1)]⟩, ⟨30, (flat (kI .u8) t_5.2.2.2.2.2)⟩, ⟨30, (flat (kI .u8) (List.replicate 32 (0 : Int)))⟩]) ⟨le_of_eq (eg (os rfl oz)), le_of_eq (eg (os rfl (os rfl oz))), le_of_eq (eg (os rfl (os rfl (os rfl oz)))), le_of_eq (eg (os rfl (os rfl (os rfl (os rfl oz))))), le_of_eq (eg (os rfl (os rfl (os rfl (os rfl (os rfl oz)))))), trivial⟩ (bnd_cons (sl_b (kb_pair (kb_I _) (kb_I _))) (bnd_cons (sl_b kb_B) (bnd_cons (ptr_bnd _ (by first | omega | (simp only [List.length_append, List.length_cons, List.length_nil]; omega))) (bnd_cons (ptr_bnd _ (by first | omega | (simp only [List.length_append, List.length_cons, List.length_nil]; omega))) (bnd_cons (ptr_bnd _ (by first | omega | (simp only [List.length_append, List.length_cons, List.length_nil]; omega))) bnd_nil))))) (Nat.le_of_ble_eq_true rfl) (by simp only [na, nb, nc, nd, nf, ng, nh, ni, nj, nk] <;> rfl) (bxle_same (bxle_same (bxle_same (bxle_same (bxle_same bxle_nil))))) rfl (by simp only [na, nb, nc, nd, nf, ng, nh, ni, nj, nk] <;> rfl) (bl_cons (bnd_cons ((mpf_bnd _ _) _ _) bnd_nil) (bl_cons (bnd_cons ((mpf_bnd _ _) _ _) bnd_nil) (bl_cons (bnd_cons (pl_bnd _ _ _) (bnd_cons (mref_bnd _ (by first | omega | (simp only [List.length_append, List.length_cons, List.length_nil]; omega))) (bnd_cons (mref_bnd _ (by first | omega | (simp only [List.length_append, List.length_cons, List.length_nil]; omega))) (bnd_cons (pl_bnd _ _ _) (bnd_cons (pl_bnd _ _ _) bnd_nil))))) (bl_cons (flatKB (kb_I _)) (bl_cons (flatKB (kb_I _)) bl_nil))))) ?_
          exact ⟨(t_5.2.1, t_5.2.2.1, t_5.2.2.2.1, t_5.2.2.2.2.1, t_5.2.2.2.2.2), ⟨le_of_eq (eg oz), le_of_eq (eg (os rfl oz)), le_of_eq (eg (os rfl (os rfl oz))), le_of_eq (eg (os rfl (os rfl (os rfl oz)))), le_of_eq (eg (os rfl (os rfl (os rfl (os rfl oz))))), trivial⟩, rfl, some_of hz_4⟩
      · rintro e st ⟨vz_4, hH, rfl, rfl⟩
        refine aw_keep _ hH ?_
        replace h0 := ocs_r h0
        refine aw_keep [(1, _), (2, _), (7, _), (9, _), (10, _)] ⟨lg oz, lg (os rfl oz), lg (os rfl (os rfl oz)), lg (os rfl (os rfl (os rfl oz))), lg (os rfl (os rfl (os rfl (os rfl oz)))), trivial⟩ ?_
        refine aw_seq ?_
        refine aw_seq ?_
        refine aw_region (by decide) ?_
        refine rts _ rfl (opD_move (os rfl (os rfl oz))) ?_
        replace h0 := bnd_some h0
        obtain ⟨x_12, hx_12, h0⟩ := h0
        refine rts _ rfl (opD_ple (q := pl (errV x_12.1)) rfl (opD_to (X' := s.ext [⟨HOT, [mpf KM_dev x_12.2.safe_]⟩, ⟨HOT, [mpf KM_dev x_12.2.waits_]⟩, ⟨160, [pl (.int .i64 x_12.2.pages_), mref (s.boxes.length + 0), mref (s.boxes.length + 1), pl (.int .i64 x_12.2.left_), pl (.bool x_12.2.down_)]⟩, ⟨30, (flat (kI .u8) vz_4.2.2.2.2)⟩, ⟨30, (flat (kI .u8) (List.replicate 32 (0 : Int)))⟩] []) (opD_call ht17_W5 (c_dSync hx_12 (ud_len (m := 5) rfl rfl ⟨by omega, ⟨by omega, ⟨by omega, trivial⟩⟩, ⟨by omega, ⟨by omega, trivial⟩, ⟨by omega, trivial, trivial⟩⟩⟩) (loc_getN rfl rfl) (loc_getN rfl rfl) (loc_getN rfl rfl)) ⟨le_of_eq lz, trivial⟩) (ul_loc (k := 0) rfl (ul_loc (k := 1) rfl (ul_loc (k := 2) rfl rfl (by simp only [na, nb, nc, nd, nf, ng, nh, ni, nj, nk] <;> rfl)) (by simp only [na, nb, nc, nd, nf, ng, nh, ni, nj, nk] <;> rfl)) (by simp only [na, nb, nc, nd, nf, ng, nh, ni, nj, nk] <;> rfl)))) ?_
        refine rts _ rfl (opD_bin lz (ev_const _ _) (fun w => errV_guard _ w _) (fun w => errV_beq _ w)) ?_
        refine rts _ rfl (opD_move lz) ?_
        refine rtg _ rfl lz (fun hg12_4_24 => opD_move (ls rfl (ls rfl (ls rfl (ls rfl (os rfl (os rfl oz))))))) ?_
        replace h0 := bnd_some h0
        obtain ⟨x_13, hx_13, h0⟩ := h0
        refine rtg _ rfl (ls rfl lz) (fun hg12_5_25 => opD_call ht18_W5 (c_dWaiting (gif_some hx_13 hg12_5_25) (ud_len (m := 5) rfl rfl ⟨by omega, ⟨by omega, ⟨by omega, trivial⟩⟩, ⟨by omega, ⟨by omega, trivial⟩, ⟨by omega, trivial, trivial⟩⟩⟩) (loc_getN rfl rfl) (loc_getN rfl rfl) (loc_getN rfl rfl) (Pd.le_refl _) (mpf_bnd _ _) (Pd.le_refl _) (mpf_bnd _ _)) ⟨le_of_eq (lz.trans (pif_pos hg12_5_25)), trivial⟩) ?_
        refine rtg _ rfl (ls rfl (ls rfl lz)) (fun hg12_6_26 => opD_len_sl Go.Proofs.Tryd.underlying36 (lz.trans (pif_pos hg12_6_26))) ?_
        refine rtg _ rfl (ls rfl (ls rfl (ls rfl lz))) (fun hg12_7_27 => opD_neq (lz.trans (pif_pos hg12_7_27)) (ev_const _ _)) ?_
        refine rts _ rfl (opD_or (ls rfl (ls rfl (ls rfl (ls rfl lz)))) lz) ?_
        refine .nil ?_
        refine aw_keep [(1, _), (2, _), (7, _), (9, _), (10, _), (88, _)] ⟨lg (ls rfl (ls rfl (ls rfl (ls rfl (ls rfl (ls rfl (ls rfl (ls rfl (ls rfl oz))))))))), lg (ls rfl (ls rfl (ls rfl (ls rfl (ls rfl (ls rfl (ls rfl (ls rfl (ls rfl (os rfl oz)))))))))), lg (ls rfl (ls rfl (ls rfl (ls rfl (ls rfl (ls rfl (ls rfl (ls rfl (ls rfl (os rfl (os rfl oz))))))))))), lg (ls rfl (ls rfl (ls rfl (ls rfl (ls rfl (ls rfl (ls rfl (ls rfl (ls rfl (os rfl (os rfl (os rfl oz)))))))))))), lg (ls rfl (ls rfl (ls rfl (ls rfl (ls rfl (ls rfl (ls rfl (ls rfl (ls rfl (os rfl (os rfl (os rfl (os rfl oz))))))))))))), lg lz, trivial⟩ ?_
        refine aw_cond _ (os rfl (os rfl (os rfl (os rfl (os rfl oz))))) (fun hc => ?_) (fun hc => ?_)
        · skip
          replace h0 := ifb_t h0 hc
          clear hc
          refine aw_seq ?_
          refine aw_region (by decide) ?_
          refine rts _ rfl (opD_assign (ev_const _ _)) ?_
          refine .nil ?_
          refine aw_keep [(6, _)] ⟨lg lz, trivial⟩ ?_
          refine aw_ret ?_
          obtain rfl := some_of h0
          exact done_ext (.inr rfl) ((res_one rfl (it_tmp oz)).le (Pd.le_refl _)) (pl_bnd _ _ _)
        · skip
          replace h0 := ifb_f h0 hc
          clear hc
          refine aw_skip ?_
          refine aw_keep [(1, _), (2, _), (7, _), (9, _), (10, _)] ⟨lg oz, lg (os rfl oz), lg (os rfl (os rfl oz)), lg (os rfl (os rfl (os rfl oz))), lg (os rfl (os rfl (os rfl (os rfl oz)))), trivial⟩ ?_
          refine aw_seq ?_
          refine aw_region (by decide) ?_
          replace h0 := grd_some h0
          obtain ⟨hg_28, h0⟩ := h0
          refine rts _ rfl (loadFN ag30_W5 sz30_W5 (os rfl (os rfl (os rfl oz))) (loc_getN rfl rfl) rfl hg_28) ?_
          replace h0 := grd_some h0
          obtain ⟨hg_29, h0⟩ := h0
          replace h0 := grd_some h0
          obtain ⟨hg_30, h0⟩ := h0
          refine rts _ rfl (storeWF (k := kI .u8) rfl sz30_W5 (ls rfl (os rfl (os rfl (os rfl (os rfl oz))))) lz rfl rfl hg_29 hg_30 (by decide) (kb_I _) (by simp only [na, nb, nc, nd, nf, ng, nh, ni, nj, nk] <;> rfl)) ?_
          refine .nil ?_
          refine aw_keep [(1, _), (2, _), (7, _), (9, _), (10, _)] ⟨lg (lx (ls rfl oz)), lg (lx (ls rfl (os rfl oz))), lg (lx (ls rfl (os rfl (os rfl oz)))), lg (lx (ls rfl (os rfl (os rfl (os rfl oz))))), lg (lx (ls rfl (os rfl (os rfl (os rfl (os rfl oz)))))), trivial⟩ ?_
          refine aw_seq ?_
          refine aw_seq ?_
          refine aw_region (by decide) ?_
          refine rts _ rfl (opD_assign (ev_const _ _)) ?_
          refine .nil ?_
          refine aw_keep [(1, _), (2, _), (7, _), (9, _), (10, _), (13, _)] ⟨lg (ls rfl oz), lg (ls rfl (os rfl oz)), lg (ls rfl (os rfl (os rfl oz))), lg (ls rfl (os rfl (os rfl (os rfl oz)))), lg (ls rfl (os rfl (os rfl (os rfl (os rfl oz))))), lg lz, trivial⟩ ?_
          replace h0 := bnd_some h0
          obtain ⟨z_14, hz_14, h0⟩ := h0
          refine aw_mid (fun e st => ∃ v : (At → Option (List Int)) × Int × Int × Bool × (List Int), Holds e [(2, sl kB none none p2), (7, ptr (s.boxes.length + 2) 0), (9, ptr (s.boxes.length + 3) 0), (10, ptr (s.boxes.length + 4) 0)] ∧ st = s.ext [⟨HOT, [mpf KM_dev x_12.2.safe_]⟩, ⟨HOT, [mpf KM_dev v.1]⟩, ⟨160, [pl (.int .i64 v.2.1), mref (s.boxes.length + 0), mref (s.boxes.length + 1), pl (.int .i64 v.2.2.1), pl (.bool v.2.2.2.1)]⟩, ⟨30, (flat (kI .u8) vz_4.2.2.2.2)⟩, ⟨30, (flat (kI .u8) v.2.2.2.2)⟩] [] ∧ (.inr v) = z_14) ?_ ?_
          · skip
            refine aw_wkN rfl 5 0 rfl rfl ?_
            refine aw_block ?_
            refine aw_loop (fun n e st => ∃ v : Int × (At → Option (List Int)) × Int × Int × Bool × (List Int), Holds e [(1, sl (kPair (kI .u8) (kI .u8)) none none p1), (2, sl kB none none p2), (7, ptr (s.boxes.length + 2) 0), (9, ptr (s.boxes.length + 3) 0), (10, ptr (s.boxes.length + 4) 0), (13, pl (.int .i64 v.1))] ∧ st = s.ext [⟨HOT, [mpf KM_dev x_12.2.safe_]⟩, ⟨HOT, [mpf KM_dev v.2.1]⟩, ⟨160, [pl (.int .i64 v.2.2.1), mref (s.boxes.length + 0), mref (s.boxes.length + 1), pl (.int .i64 v.2.2.2.1), pl (.bool v.2.2.2.2.1)]⟩, ⟨30, (flat (kI .u8) vz_4.2.2.2.2)⟩, ⟨30, (flat (kI .u8) v.2.2.2.2.2)⟩] [] ∧ lp (F_lDeviceKeeps_b1 p1 x_12) n v = some z_14) fl ⟨(0, x_12.2.waits_, x_12.2.pages_, x_12.2.left_, x_12.2.down_, vz_4.2.2.2.2), ⟨le_of_eq (eg oz), le_of_eq (eg (os rfl oz)), le_of_eq (eg (os rfl (os rfl oz))), le_of_eq (eg (os rfl (os rfl (os rfl oz)))), le_of_eq (eg (os rfl (os rfl (os rfl (os rfl oz))))), le_of_eq (eg (os rfl (os rfl (os rfl (os rfl (os rfl oz)))))), trivial⟩, rfl, hz_14⟩ ?_
            rintro n e st ⟨t_15, hH, rfl, hz_14⟩
            replace hz_14 := lp_some hz_14
            obtain ⟨m_z_16, z_16, rfl, hz_16, hz_14⟩ := hz_14
            unfold F_lDeviceKeeps_b1 at hz_16
            refine aw_keep _ hH ?_
            refine aw_wkN rfl 5 0 rfl rfl ?_
            refine aw_seq ?_
            refine aw_seq ?_
            refine aw_region (by decide) ?_
            refine rts _ rfl (opD_move (os rfl (os rfl (os rfl (os rfl (os rfl oz)))))) ?_
            refine rts _ rfl (opD_move (ls rfl oz)) ?_
            refine rts _ rfl (opD_len_sl Go.Proofs.Tryd.underlying22 lz) ?_
            refine rts _ rfl (opD_lss (ls rfl (ls rfl lz)) lz) ?_
            refine .nil ?_
            refine aw_keep [(1, _), (2, _), (7, _), (9, _), (10, _), (13, _), (93, _)] ⟨lg (ls rfl (ls rfl (ls rfl (ls rfl oz)))), lg (ls rfl (ls rfl (ls rfl (ls rfl (os rfl oz))))), lg (ls rfl (ls rfl (ls rfl (ls rfl (os rfl (os rfl oz)))))), lg (ls rfl (ls rfl (ls rfl (ls rfl (os rfl (os rfl (os rfl oz))))))), lg (ls rfl (ls rfl (ls rfl (ls rfl (os rfl (os rfl (os rfl (os rfl oz)))))))), lg (ls rfl (ls rfl (ls rfl (ls rfl (os rfl (os rfl (os rfl (os rfl (os rfl oz))))))))), lg lz, trivial⟩ ?_
            refine aw_cond _ (os rfl (os rfl (os rfl (os rfl (os rfl (os rfl oz)))))) (fun hc => ?_) (fun hc => ?_)
            · skip
              replace hz_16 := ifb_t hz_16 hc
              clear hc
              refine aw_skip ?_
              refine aw_keep [(1, _), (2, _), (7, _), (9, _), (10, _), (13, _)] ⟨lg oz, lg (os rfl oz), lg (os rfl (os rfl oz)), lg (os rfl (os rfl (os rfl oz))), lg (os rfl (os rfl (os rfl (os rfl oz)))), lg (os rfl (os rfl (os rfl (os rfl (os rfl oz))))), trivial⟩ ?_
              refine aw_seq ?_
              refine aw_block ?_
              refine aw_seq ?_
              refine aw_region (by decide) ?_
              refine rts _ rfl (opD_move oz) ?_
              refine rts _ rfl (opD_move (ls rfl (os rfl (os rfl (os rfl (os rfl (os rfl oz))))))) ?_
              replace hz_16 := ixb_some hz_16
              obtain ⟨x_17, hx_17, hbx_17, hz_16⟩ := hz_16
              refine rts _ rfl (opD_indexAddr_sl (i := t_15.1.toNat) Go.Proofs.Tryd.underlying22 sz31_W5 (ls rfl lz) lz hbx_17.2.2 hbx_17.2.1) ?_
              refine rts _ rfl (opD_ple (q := el (kPair (kI .u8) (kI .u8)) p1 t_15.1.toNat 0) rfl (opD_indexAddr_el (i := 0) Go.Proofs.Tryd.underlying31 sz5_W5 lz (ev_const _ _) rfl (by decide))) ?_
              refine rts _ rfl (opD_load_el_one ag5_W5 lz hx_17 rfl) ?_
              refine rts _ rfl (opD_rem lz (ev_const _ _) (by decide) rfl) ?_
              refine rts _ rfl (opD_conv_int Go.Proofs.Tryd.underlying5 Go.Proofs.Tryd.underlying3 lz rfl) ?_
              refine rts _ rfl (opD_assign lz) ?_
              refine .nil ?_
              refine aw_keep [(1, _), (2, _), (7, _), (9, _), (10, _), (13, _), (14, _)] ⟨lg (ls rfl (ls rfl (ls rfl (ls rfl (ls rfl (ls rfl (ls rfl (ls rfl oz)))))))), lg (ls rfl (ls rfl (ls rfl (ls rfl (ls rfl (ls rfl (ls rfl (ls rfl (os rfl oz))))))))), lg (ls rfl (ls rfl (ls rfl (ls rfl (ls rfl (ls rfl (ls rfl (ls rfl (os rfl (os rfl oz)))))))))), lg (ls rfl (ls rfl (ls rfl (ls rfl (ls rfl (ls rfl (ls rfl (ls rfl (os rfl (os rfl (os rfl oz))))))))))), lg (ls rfl (ls rfl (ls rfl (ls rfl (ls rfl (ls rfl (ls rfl (ls rfl (os rfl (os rfl (os rfl (os rfl oz)))))))))))), lg (ls rfl (ls rfl (ls rfl (ls rfl (ls rfl (ls rfl (ls rfl (ls rfl (os rfl (os rfl (os rfl (os rfl (os rfl oz))))))))))))), lg lz, trivial⟩ ?_
              refine aw_seq ?_
              refine aw_seq ?_
              refine aw_region (by decide) ?_
              refine rts _ rfl (opD_move (os rfl (os rfl oz))) ?_
              refine rts _ rfl (opD_move (ls rfl (os rfl (os rfl (os rfl (os rfl (os rfl (os rfl oz)))))))) ?_
              refine rts _ rfl (opD_move (ls rfl (ls rfl oz))) ?_
              refine rts _ rfl (opD_move (ls rfl (ls rfl (ls rfl (os rfl (os rfl (os rfl (os rfl (os rfl oz))))))))) ?_
              replace hz_16 := ixb_some hz_16
              obtain ⟨x_18, hx_18, hbx_18, hz_16⟩ := hz_16
              refine rts _ rfl (opD_indexAddr_sl (i := t_15.1.toNat) Go.Proofs.Tryd.underlying22 sz31_W5 (ls rfl lz) lz hbx_18.2.2 hbx_18.2.1) ?_
              refine rts _ rfl (opD_ple (q := el (kPair (kI .u8) (kI .u8)) p1 t_15.1.toNat 1) rfl (opD_indexAddr_el (i := 1) Go.Proofs.Tryd.underlying31 sz5_W5 lz (ev_const _ _) rfl (by decide))) ?_
              refine rts _ rfl (opD_load_el_one ag5_W5 lz hx_18 rfl) ?_
              replace hz_16 := bnd_some hz_16
              obtain ⟨x_19, hx_19, hz_16⟩ := hz_16
              refine rts _ rfl (opD_pure ht16_W5 (c_l4sector hx_19) ⟨le_of_eq lz, trivial⟩) ?_
              replace hz_16 := bnd_some hz_16
              obtain ⟨x_20, hx_20, hz_16⟩ := hz_16
              refine rts _ rfl (opD_ple (q := pl (errV x_20.1)) rfl (opD_to (X' := s.ext [⟨HOT, [mpf KM_dev x_12.2.safe_]⟩, ⟨HOT, [mpf KM_dev x_20.2.waits_]⟩, ⟨160, [pl (.int .i64 x_20.2.pages_), mref (s.boxes.length + 0), mref (s.boxes.length + 1), pl (.int .i64 x_20.2.left_), pl (.bool x_20.2.down_)]⟩, ⟨30, (flat (kI .u8) vz_4.2.2.2.2)⟩, ⟨30, (flat (kI .u8) t_15.2.2.2.2.2)⟩] []) (opD_call ht15_W5 (c_dWrite hx_20 (ud_len (m := 5) rfl rfl ⟨by omega, ⟨by omega, ⟨by omega, trivial⟩⟩, ⟨by omega, ⟨by omega, trivial⟩, ⟨by omega, trivial, trivial⟩⟩⟩) (loc_getN rfl rfl) (loc_getN rfl rfl) (loc_getN rfl rfl) (Pd.le_refl _) (mpf_bnd _ _)) ⟨le_of_eq (ls rfl (ls rfl (ls rfl (ls rfl (ls rfl (ls rfl (ls rfl lz))))))), le_of_eq (ls rfl (ls rfl (ls rfl (ls rfl (ls rfl (ls rfl lz)))))), le_of_eq lz, trivial⟩) (ul_loc (k := 0) rfl (ul_loc (k := 1) rfl (ul_loc (k := 2) rfl rfl (by simp only [na, nb, nc, nd, nf, ng, nh, ni, nj, nk] <;> rfl)) (by simp only [na, nb, nc, nd, nf, ng, nh, ni, nj, nk] <;> rfl)) (by simp only [na, nb, nc, nd, nf, ng, nh, ni, nj, nk] <;> rfl)))) ?_
              refine rts _ rfl (opD_bin lz (ev_const _ _) (fun w => errV_guard _ w _) (fun w => errV_beq _ w)) ?_
              refine .nil ?_
              refine aw_keep [(1, _), (2, _), (7, _), (9, _), (10, _), (13, _), (14, _), (112, _)] ⟨lg (ls rfl (ls rfl (ls rfl (ls rfl (ls rfl (ls rfl (ls rfl (ls rfl (ls rfl (ls rfl oz)))))))))), lg (ls rfl (ls rfl (ls rfl (ls rfl (ls rfl (ls rfl (ls rfl (ls rfl (ls rfl (ls rfl (os rfl oz))))))))))), lg (ls rfl (ls rfl (ls rfl (ls rfl (ls rfl (ls rfl (ls rfl (ls rfl (ls rfl (ls rfl (os rfl (os rfl oz)))))))))))), lg (ls rfl (ls rfl (ls rfl (ls rfl (ls rfl (ls rfl (ls rfl (ls rfl (ls rfl (ls rfl (os rfl (os rfl (os rfl oz))))))))))))), lg (ls rfl (ls rfl (ls rfl (ls rfl (ls rfl (ls rfl (ls rfl (ls rfl (ls rfl (ls rfl (os rfl (os rfl (os rfl (os rfl oz)))))))))))))), lg (ls rfl (ls rfl (ls rfl (ls rfl (ls rfl (ls rfl (ls rfl (ls rfl (ls rfl (ls rfl (os rfl (os rfl (os rfl (os rfl (os rfl oz))))))))))))))), lg (ls rfl (ls rfl (ls rfl (ls rfl (ls rfl (ls rfl (ls rfl (ls rfl (ls rfl (ls rfl (os rfl (os rfl (os rfl (os rfl (os rfl (os rfl oz)))))))))))))))), lg lz, trivial⟩ ?_
              refine aw_cond _ (os rfl (os rfl (os rfl (os rfl (os rfl (os rfl (os rfl oz))))))) (fun hc => ?_) (fun hc => ?_)
              · skip
                replace hz_16 := ifb_t hz_16 hc
                clear hc
                refine aw_seq ?_
                refine aw_region (by decide) ?_
                refine rts _ rfl (opD_assign (ev_const _ _)) ?_
                refine .nil ?_
                refine aw_keep [(6, _)] ⟨lg lz, trivial⟩ ?_
                refine aw_ret ?_
                obtain rfl := some_of hz_16
                replace hz_14 := ocs_r hz_14
                obtain rfl := some_of hz_14
                replace h0 := ocs_l h0
                refine wk_no ?_
                refine wk_no ?_
                obtain rfl := some_of h0
                exact done_ext (.inr rfl) ((res_one rfl (it_tmp oz)).le (Pd.le_refl _)) (pl_bnd _ _ _)
              · skip
                replace hz_16 := ifb_f hz_16 hc
                clear hc
                refine aw_skip ?_
                refine aw_keep [(1, _), (2, _), (7, _), (9, _), (10, _), (13, _), (14, _)] ⟨lg oz, lg (os rfl oz), lg (os rfl (os rfl oz)), lg (os rfl (os rfl (os rfl oz))), lg (os rfl (os rfl (os rfl (os rfl oz)))), lg (os rfl (os rfl (os rfl (os rfl (os rfl oz))))), lg (os rfl (os rfl (os rfl (os rfl (os rfl (os rfl oz)))))), trivial⟩ ?_
                refine aw_region (by decide) ?_
                refine rts _ rfl (opD_move (os rfl (os rfl (os rfl (os rfl (os rfl (os rfl oz))))))) ?_
                refine rts _ rfl (opD_move (ls rfl oz)) ?_
                refine rts _ rfl (opD_move (ls rfl (ls rfl (os rfl (os rfl (os rfl (os rfl (os rfl oz)))))))) ?_
                replace hz_16 := ixb_some hz_16
                obtain ⟨x_21, hx_21, hbx_21, hz_16⟩ := hz_16
                refine rts _ rfl (opD_indexAddr_sl (i := t_15.1.toNat) Go.Proofs.Tryd.underlying22 sz31_W5 (ls rfl lz) lz hbx_21.2.2 hbx_21.2.1) ?_
                refine rts _ rfl (opD_ple (q := el (kPair (kI .u8) (kI .u8)) p1 t_15.1.toNat 1) rfl (opD_indexAddr_el (i := 1) Go.Proofs.Tryd.underlying31 sz5_W5 lz (ev_const _ _) rfl (by decide))) ?_
                refine rts _ rfl (opD_load_el_one ag5_W5 lz hx_21 rfl) ?_
                replace hz_16 := grd_some hz_16
                obtain ⟨hg_37, hz_16⟩ := hz_16
                refine rts _ rfl (opD_indexAddr_arr (i := (IntKind.i64.wrap ((x_17.1.tmod 32))).toNat) Go.Proofs.Tryd.underlying30 sz5_W5 (ls rfl (ls rfl (ls rfl (ls rfl (ls rfl (ls rfl (os rfl (os rfl (os rfl (os rfl oz)))))))))) (ls rfl (ls rfl (ls rfl (ls rfl (ls rfl lz))))) hg_37.eq hg_37.2) ?_
                replace hz_16 := grd_some hz_16
                obtain ⟨hg_38, hz_16⟩ := hz_16
                refine rts _ rfl (storeFN (k := kI .u8) (z := x_21.2) rfl sz5_W5 lz (le_of_eq (ls rfl lz)) (one_pl rfl) rfl rfl (nat_lt hg_38) rfl (kb_I _) (by simp only [na, nb, nc, nd, nf, ng, nh, ni, nj, nk] <;> rfl)) ?_
                refine .nil ?_
                refine aw_keep [(1, _), (2, _), (7, _), (9, _), (10, _), (13, _)] ⟨lg (lx (ls rfl (ls rfl (ls rfl (ls rfl (ls rfl (ls rfl (ls rfl oz)))))))), lg (lx (ls rfl (ls rfl (ls rfl (ls rfl (ls rfl (ls rfl (ls rfl (os rfl oz))))))))), lg (lx (ls rfl (ls rfl (ls rfl (ls rfl (ls rfl (ls rfl (ls rfl (os rfl (os rfl oz)))))))))), lg (lx (ls rfl (ls rfl (ls rfl (ls rfl (ls rfl (ls rfl (ls rfl (os rfl (os rfl (os rfl oz))))))))))), lg (lx (ls rfl (ls rfl (ls rfl (ls rfl (ls rfl (ls rfl (ls rfl (os rfl (os rfl (os rfl (os rfl oz)))))))))))), lg (lx (ls rfl (ls rfl (ls rfl (ls rfl (ls rfl (ls rfl (ls rfl (os rfl (os rfl (os rfl (os rfl (os rfl oz))))))))))))), trivial⟩ ?_
                refine aw_region (by decide) ?_
                refine rts _ rfl (opD_move (os rfl (os rfl (os rfl (os rfl (os rfl oz)))))) ?_
                refine rts _ rfl (opD_add lz (ev_const _ _) rfl) ?_
                refine rts _ rfl (opD_assign lz) ?_
                refine .nil ?_
                obtain rfl := some_of hz_16
                replace hz_14 := ocs_l hz_14
                refine wk_yesN rfl (l := [(1, sl (kPair (kI .u8) (kI .u8)) none none p1), (2, sl kB none none p2), (7, ptr (s.boxes.length + 2) 0), (9, ptr (s.boxes.length + 3) 0), (10, ptr (s.boxes.length + 4) 0), (13, pl (.int .i64 (IntKind.i64.wrap (t_15.1 + 1))))]) (bs' := [⟨HOT, [mpf KM_dev x_12.2.safe_]⟩, ⟨HOT, [mpf KM_dev x_20.2.waits_]⟩, ⟨160, [pl (.int .i64 x_20.2.pages_), mref (s.boxes.length + 0), mref (s.boxes.length + 1), pl (.int .i64 x_20.2.left_), pl (.bool x_20.2.down_)]⟩, ⟨30, (flat (kI .u8) vz_4.2.2.2.2)⟩, ⟨30, (flat (kI .u8) (t_15.2.2.2.2.2.set ((IntKind.i64.wrap ((x_17.1.tmod 32))).toNat) x_21.2))⟩]) ⟨le_of_eq (eg (ls rfl (ls rfl (ls rfl oz)))), le_of_eq (eg (ls rfl (ls rfl (ls rfl (os rfl oz))))), le_of_eq (eg (ls rfl (ls rfl (ls rfl (os rfl (os rfl oz)))))), le_of_eq (eg (ls rfl (ls rfl (ls rfl (os rfl (os rfl (os rfl oz))))))), le_of_eq (eg (ls rfl (ls rfl (ls rfl (os rfl (os rfl (os rfl (os rfl oz)))))))), le_of_eq (eg lz), trivial⟩ (bnd_cons (sl_b (kb_pair (kb_I _) (kb_I _))) (bnd_cons (sl_b kb_B) (bnd_cons (ptr_bnd _ (by first | omega | (simp only [List.length_append, List.length_cons, List.length_nil]; omega))) (bnd_cons (ptr_bnd _ (by first | omega | (simp only [List.length_append, List.length_cons, List.length_nil]; omega))) (bnd_cons (ptr_bnd _ (by first | omega | (simp only [List.length_append, List.length_cons, List.length_nil]; omega))) (bnd_cons (pl_bnd _ _ _) bnd_nil)))))) (Nat.le_of_ble_eq_true rfl) (by simp only [na, nb, nc, nd, nf, ng, nh, ni, nj, nk] <;> rfl) (bxle_same (bxle_same (bxle_same (bxle_same (bxle_same bxle_nil))))) rfl (by simp only [na, nb, nc, nd, nf, ng, nh, ni, nj, nk] <;> rfl) (bl_cons (bnd_cons ((mpf_bnd _ _) _ _) bnd_nil) (bl_cons (bnd_cons ((mpf_bnd _ _) _ _) bnd_nil) (bl_cons (bnd_cons (pl_bnd _ _ _) (bnd_cons (mref_bnd _ (by first | omega | (simp only [List.length_append, List.length_cons, List.length_nil]; omega))) (bnd_cons (mref_bnd _ (by first | omega | (simp only [List.length_append, List.length_cons, List.length_nil]; omega))) (bnd_cons (pl_bnd _ _ _) (bnd_cons (pl_bnd _ _ _) bnd_nil))))) (bl_cons (flatKB (kb_I _)) (bl_cons (flatKB (kb_I _)) bl_nil))))) ?_
                exact ⟨m_z_16, Nat.lt_succ_self _, (IntKind.i64.wrap (t_15.1 + 1), x_20.2.waits_, x_20.2.pages_, x_20.2.left_, x_20.2.down_, (t_15.2.2.2.2.2.set ((IntKind.i64.wrap ((x_17.1.tmod 32))).toNat) x_21.2)), ⟨le_of_eq (eg oz), le_of_eq (eg (os rfl oz)), le_of_eq (eg (os rfl (os rfl oz))), le_of_eq (eg (os rfl (os rfl (os rfl oz)))), le_of_eq (eg (os rfl (os rfl (os rfl (os rfl oz))))), le_of_eq (eg (os rfl (os rfl (os rfl (os rfl (os rfl oz)))))), trivial⟩, rfl, hz_14⟩
            · skip
              replace hz_16 := ifb_f hz_16 hc
              clear hc
              refine aw_exit ?_
              obtain rfl := some_of hz_16
              replace hz_14 := ocs_r hz_14
              refine wk_no ?_
              refine wk_yesN rfl (l := [(2, sl kB none none p2), (7, ptr (s.boxes.length + 2) 0), (9, ptr (s.boxes.length + 3) 0), (10, ptr (s.boxes.length + 4) 0)]) (bs' := [⟨HOT, [mpf KM_dev x_12.2.safe_]⟩, ⟨HOT, [mpf KM_dev t_15.2.1]⟩, ⟨160, [pl (.int .i64 t_15.2.2.1), mref (s.boxes.length + 0), mref (s.boxes.length + 1), pl (.int .i64 t_15.2.2.2.1), pl (.bool t_15.2.2.2.2.1)]⟩, ⟨30, (flat (kI .u8) vz_4.2.2.2.2)⟩, ⟨30, (flat (kI .u8) t_15.2.2.2.2.2)⟩]) ⟨le_of_eq (eg (os rfl oz)), le_of_eq (eg (os rfl (os rfl oz))), le_of_eq (eg (os rfl (os rfl (os rfl oz)))), le_of_eq (eg (os rfl (os rfl (os rfl (os rfl oz))))), trivial⟩ (bnd_cons (sl_b kb_B) (bnd_cons (ptr_bnd _ (by first | omega | (simp only [List.length_append, List.length_cons, List.length_nil]; omega))) (bnd_cons (ptr_bnd _ (by first | omega | (simp only [List.length_append, List.length_cons, List.length_nil]; omega))) (bnd_cons (ptr_bnd _ (by first | omega | (simp only [List.length_append, List.length_cons, List.length_nil]; omega))) bnd_nil)))) (Nat.le_of_ble_eq_true rfl) (by simp only [na, nb, nc, nd, nf, ng, nh, ni, nj, nk] <;> rfl) (bxle_same (bxle_same (bxle_same (bxle_same (bxle_same bxle_nil))))) rfl (by simp only [na, nb, nc, nd, nf, ng, nh, ni, nj, nk] <;> rfl) (bl_cons (bnd_cons ((mpf_bnd _ _) _ _) bnd_nil) (bl_cons (bnd_cons ((mpf_bnd _ _) _ _) bnd_nil) (bl_cons (bnd_cons (pl_bnd _ _ _) (bnd_cons (mref_bnd _ (by first | omega | (simp only [List.length_append, List.length_cons, List.length_nil]; omega))) (bnd_cons (mref_bnd _ (by first | omega | (simp only [List.length_append, List.length_cons, List.length_nil]; omega))) (bnd_cons (pl_bnd _ _ _) (bnd_cons (pl_bnd _ _ _) bnd_nil))))) (bl_cons (flatKB (kb_I _)) (bl_cons (flatKB (kb_I _)) bl_nil))))) ?_
              exact ⟨(t_15.2.1, t_15.2.2.1, t_15.2.2.2.1, t_15.2.2.2.2.1, t_15.2.2.2.2.2), ⟨le_of_eq (eg oz), le_of_eq (eg (os rfl oz)), le_of_eq (eg (os rfl (os rfl oz))), le_of_eq (eg (os rfl (os rfl (os rfl oz)))), trivial⟩, rfl, some_of hz_14⟩
          · rintro e st ⟨vz_14, hH, rfl, rfl⟩
            refine aw_keep _ hH ?_
            replace h0 := ocs_r h0
            refine aw_keep [(2, _), (7, _), (9, _), (10, _)] ⟨lg oz, lg (os rfl oz), lg (os rfl (os rfl oz)), lg (os rfl (os rfl (os rfl oz))), trivial⟩ ?_
            refine aw_seq ?_
            refine aw_region (by decide) ?_
            refine rts _ rfl (opD_move (os rfl oz)) ?_
            replace h0 := bnd_some h0
            obtain ⟨x_22, hx_22, h0⟩ := h0
            refine rts _ rfl (opD_call ht18_W5 (c_dWaiting hx_22 (ud_len (m := 5) rfl rfl ⟨by omega, ⟨by omega, ⟨by omega, trivial⟩⟩, ⟨by omega, ⟨by omega, trivial⟩, ⟨by omega, trivial, trivial⟩⟩⟩) (loc_getN rfl rfl) (loc_getN rfl rfl) (loc_getN rfl rfl) (Pd.le_refl _) (mpf_bnd _ _) (Pd.le_refl _) (mpf_bnd _ _)) ⟨le_of_eq lz, trivial⟩) ?_
            refine rts _ rfl (opD_assign lz) ?_
            refine .nil ?_
            refine aw_keep [(2, _), (7, _), (9, _), (10, _), (15, _)] ⟨lg (ls rfl (ls rfl (ls rfl oz))), lg (ls rfl (ls rfl (ls rfl (os rfl oz)))), lg (ls rfl (ls rfl (ls rfl (os rfl (os rfl oz))))), lg (ls rfl (ls rfl (ls rfl (os rfl (os rfl (os rfl oz)))))), lg lz, trivial⟩ ?_
            refine aw_seq ?_
            refine aw_region (by decide) ?_
            refine rts _ rfl (opD_move (os rfl oz)) ?_
            refine rts _ rfl (opD_move (ls rfl oz)) ?_
            replace h0 := bnd_some h0
            obtain ⟨x_23, hx_23, h0⟩ := h0
            refine rts _ rfl (opD_ple (q := pl (.tuple #[])) rfl (opD_to (X' := s.ext [⟨HOT, [mpf KM_dev x_23.safe_]⟩, ⟨HOT, [mpf KM_dev x_23.waits_]⟩, ⟨160, [pl (.int .i64 x_23.pages_), mref (s.boxes.length + 0), mref (s.boxes.length + 1), pl (.int .i64 x_23.left_), pl (.bool x_23.down_)]⟩, ⟨30, (flat (kI .u8) vz_4.2.2.2.2)⟩, ⟨30, (flat (kI .u8) vz_14.2.2.2.2)⟩] []) (opD_call ht19_W5 (c_dCrash hx_23 (ud_len (m := 5) rfl rfl ⟨by omega, ⟨by omega, ⟨by omega, trivial⟩⟩, ⟨by omega, ⟨by omega, trivial⟩, ⟨by omega, trivial, trivial⟩⟩⟩) (loc_getN rfl rfl) (loc_getN rfl rfl) (loc_getN rfl rfl)) ⟨le_of_eq (ls rfl lz), le_of_eq lz, trivial⟩) (ul_loc (k := 0) rfl (ul_loc (k := 1) rfl (ul_loc (k := 2) rfl rfl (by simp only [na, nb, nc, nd, nf, ng, nh, ni, nj, nk] <;> rfl)) (by simp only [na, nb, nc, nd, nf, ng, nh, ni, nj, nk] <;> rfl)) (by simp only [na, nb, nc, nd, nf, ng, nh, ni, nj, nk] <;> rfl)))) ?_
            refine .nil ?_
            refine aw_keep [(2, _), (7, _), (9, _), (10, _), (15, _)] ⟨lg (ls rfl (ls rfl (ls rfl oz))), lg (ls rfl (ls rfl (ls rfl (os rfl oz)))), lg (ls rfl (ls rfl (ls rfl (os rfl (os rfl oz))))), lg (ls rfl (ls rfl (ls rfl (os rfl (os rfl (os rfl oz)))))), lg (ls rfl (ls rfl (ls rfl (os rfl (os rfl (os rfl (os rfl oz))))))), trivial⟩ ?_
            refine aw_seq ?_
            refine aw_region (by decide) ?_
            refine rts _ rfl (opD_assign (ev_const _ _)) ?_
            refine .nil ?_
            refine aw_keep [(2, _), (7, _), (9, _), (10, _), (15, _), (16, _)] ⟨lg (ls rfl oz), lg (ls rfl (os rfl oz)), lg (ls rfl (os rfl (os rfl oz))), lg (ls rfl (os rfl (os rfl (os rfl oz)))), lg (ls rfl (os rfl (os rfl (os rfl (os rfl oz))))), lg lz, trivial⟩ ?_
            refine aw_seq ?_
            refine aw_seq ?_
            refine aw_region (by decide) ?_
            refine rts _ rfl (opD_assign (ev_const _ _)) ?_
            refine .nil ?_
            refine aw_keep [(2, _), (7, _), (9, _), (10, _), (15, _), (16, _), (17, _)] ⟨lg (ls rfl oz), lg (ls rfl (os rfl oz)), lg (ls rfl (os rfl (os rfl oz))), lg (ls rfl (os rfl (os rfl (os rfl oz)))), lg (ls rfl (os rfl (os rfl (os rfl (os rfl oz))))), lg (ls rfl (os rfl (os rfl (os rfl (os rfl (os rfl oz)))))), lg lz, trivial⟩ ?_
            replace h0 := bnd_some h0
            obtain ⟨z_24, hz_24, h0⟩ := h0
            refine aw_mid (fun e st => ∃ v : Int, Holds e [(15, sl (kI .i64) none none x_22), (16, pl (.int .i64 v))] ∧ st = s.ext [⟨HOT, [mpf KM_dev x_23.safe_]⟩, ⟨HOT, [mpf KM_dev x_23.waits_]⟩, ⟨160, [pl (.int .i64 x_23.pages_), mref (s.boxes.length + 0), mref (s.boxes.length + 1), pl (.int .i64 x_23.left_), pl (.bool x_23.down_)]⟩, ⟨30, (flat (kI .u8) vz_4.2.2.2.2)⟩, ⟨30, (flat (kI .u8) vz_14.2.2.2.2)⟩] [] ∧ (.inr v) = z_24) ?_ ?_
            · skip
              refine aw_wkN rfl 5 0 rfl rfl ?_
              refine aw_block ?_
              refine aw_loop (fun n e st => ∃ v : Int × Int, Holds e [(2, sl kB none none p2), (7, ptr (s.boxes.length + 2) 0), (9, ptr (s.boxes.length + 3) 0), (10, ptr (s.boxes.length + 4) 0), (15, sl (kI .i64) none none x_22), (16, pl (.int .i64 v.1)), (17, pl (.int .i64 v.2))] ∧ st = s.ext [⟨HOT, [mpf KM_dev x_23.safe_]⟩, ⟨HOT, [mpf KM_dev x_23.waits_]⟩, ⟨160, [pl (.int .i64 x_23.pages_), mref (s.boxes.length + 0), mref (s.boxes.length + 1), pl (.int .i64 x_23.left_), pl (.bool x_23.down_)]⟩, ⟨30, (flat (kI .u8) vz_4.2.2.2.2)⟩, ⟨30, (flat (kI .u8) vz_14.2.2.2.2)⟩] [] ∧ lp (F_lDeviceKeeps_b2 p2 vz_4 vz_14 x_22 x_23) n v = some z_24) fl ⟨(0, 0), ⟨le_of_eq (eg oz), le_of_eq (eg (os rfl oz)), le_of_eq (eg (os rfl (os rfl oz))), le_of_eq (eg (os rfl (os rfl (os rfl oz)))), le_of_eq (eg (os rfl (os rfl (os rfl (os rfl oz))))), le_of_eq (eg (os rfl (os rfl (os rfl (os rfl (os rfl oz)))))), le_of_eq (eg (os rfl (os rfl (os rfl (os rfl (os rfl (os rfl oz))))))), trivial⟩, rfl, hz_24⟩ ?_
              rintro n e st ⟨t_25, hH, rfl, hz_24⟩
              replace hz_24 := lp_some hz_24
              obtain ⟨m_z_26, z_26, rfl, hz_26, hz_24⟩ := hz_24
              unfold F_lDeviceKeeps_b2 at hz_26
              refine aw_keep _ hH ?_
              refine aw_wkN rfl 5 0 rfl rfl ?_
              refine aw_seq ?_
              refine aw_seq ?_
              refine aw_region (by decide) ?_
              refine rts _ rfl (opD_move (os rfl (os rfl (os rfl (os rfl (os rfl (os rfl oz))))))) ?_
              refine rts _ rfl (opD_lss lz (ev_const _ _)) ?_
              refine .nil ?_
              refine aw_keep [(2, _), (7, _), (9, _), (10, _), (15, _), (16, _), (17, _), (126, _)] ⟨lg (ls rfl (ls rfl oz)), lg (ls rfl (ls rfl (os rfl oz))), lg (ls rfl (ls rfl (os rfl (os rfl oz)))), lg (ls rfl (ls rfl (os rfl (os rfl (os rfl oz))))), lg (ls rfl (ls rfl (os rfl (os rfl (os rfl (os rfl oz)))))), lg (ls rfl (ls rfl (os rfl (os rfl (os rfl (os rfl (os rfl oz))))))), lg (ls rfl (ls rfl (os rfl (os rfl (os rfl (os rfl (os rfl (os rfl oz)))))))), lg lz, trivial⟩ ?_
              refine aw_cond _ (os rfl (os rfl (os rfl (os rfl (os rfl (os rfl (os rfl oz))))))) (fun hc => ?_) (fun hc => ?_)
              · skip
                replace hz_26 := ifb_t hz_26 hc
                clear hc
                refine aw_skip ?_
                refine aw_keep [(2, _), (7, _), (9, _), (10, _), (15, _), (16, _), (17, _)] ⟨lg oz, lg (os rfl oz), lg (os rfl (os rfl oz)), lg (os rfl (os rfl (os rfl oz))), lg (os rfl (os rfl (os rfl (os rfl oz)))), lg (os rfl (os rfl (os rfl (os rfl (os rfl oz))))), lg (os rfl (os rfl (os rfl (os rfl (os rfl (os rfl oz)))))), trivial⟩ ?_
                refine aw_seq ?_
                refine aw_block ?_
                refine aw_seq ?_
                refine aw_region (by decide) ?_
                refine rts _ rfl (opD_move (os rfl (os rfl (os rfl (os rfl (os rfl (os rfl oz))))))) ?_
                replace hz_26 := grd_some hz_26
                obtain ⟨hg_141, hz_26⟩ := hz_26
                refine rts _ rfl (opD_indexAddr_arr (i := t_25.2.toNat) Go.Proofs.Tryd.underlying30 sz5_W5 (ls rfl (os rfl (os rfl oz))) lz hg_141.eq hg_141.2) ?_
                replace hz_26 := ixb_some hz_26
                obtain ⟨x_27, hx_27, hbx_27, hz_26⟩ := hz_26
                refine rts _ rfl (opD_load_one ag5_W5 lz (loc_getN rfl rfl) (flat_at0 rfl (nat_ix hx_27) rfl)) ?_
                refine rts _ rfl (opD_assign lz) ?_
                refine .nil ?_
                refine aw_keep [(2, _), (7, _), (9, _), (10, _), (15, _), (16, _), (17, _), (18, _)] ⟨lg (ls rfl (ls rfl (ls rfl (ls rfl oz)))), lg (ls rfl (ls rfl (ls rfl (ls rfl (os rfl oz))))), lg (ls rfl (ls rfl (ls rfl (ls rfl (os rfl (os rfl oz)))))), lg (ls rfl (ls rfl (ls rfl (ls rfl (os rfl (os rfl (os rfl oz))))))), lg (ls rfl (ls rfl (ls rfl (ls rfl (os rfl (os rfl (os rfl (os rfl oz)))))))), lg (ls rfl (ls rfl (ls rfl (ls rfl (os rfl (os rfl (os rfl (os rfl (os rfl oz))))))))), lg (ls rfl (ls rfl (ls rfl (ls rfl (os rfl (os rfl (os rfl (os rfl (os rfl (os rfl oz)))))))))), lg lz, trivial⟩ ?_
                refine aw_seq ?_
                refine aw_seq ?_
                refine aw_region (by decide) ?_
                refine rts _ rfl (opD_move (os rfl (os rfl (os rfl (os rfl (os rfl oz)))))) ?_
                refine rts _ rfl (opD_move (ls rfl (os rfl (os rfl (os rfl (os rfl oz)))))) ?_
                refine rts _ rfl (opD_len_sl Go.Proofs.Tryd.underlying36 lz) ?_
                refine rts _ rfl (opD_lss (ls rfl (ls rfl lz)) lz) ?_
                refine rts _ rfl (opD_move lz) ?_
                refine rtg _ rfl lz (fun hg29_5_142 => opD_move (ls rfl (ls rfl (ls rfl (ls rfl (ls rfl (os rfl (os rfl (os rfl (os rfl oz)))))))))) ?_
                refine rtg _ rfl (ls rfl lz) (fun hg29_6_143 => opD_move (ls rfl (ls rfl (ls rfl (ls rfl (ls rfl (ls rfl (os rfl (os rfl (os rfl (os rfl (os rfl oz)))))))))))) ?_
                replace hz_26 := grd_some hz_26
                obtain ⟨hg_145, hz_26⟩ := hz_26
                refine rtg _ rfl (ls rfl (ls rfl lz)) (fun hg29_7_144 => opD_indexAddr_sl (i := t_25.1.toNat) Go.Proofs.Tryd.underlying36 sz3_W5 ((ls rfl lz).trans (pif_pos hg29_7_144)) (lz.trans (pif_pos hg29_7_144)) (hg_145 hg29_7_144).eq (hg_145 hg29_7_144).2) ?_
                refine rtg _ rfl (ls rfl (ls rfl (ls rfl lz))) (fun hg29_8_146 => opD_load_el_one ag3_W5 (lz.trans (pif_pos hg29_8_146)) (at_getD default (hg_145 hg29_8_146).2) rfl) ?_
                refine rtg _ rfl (ls rfl (ls rfl (ls rfl (ls rfl lz)))) (fun hg29_9_147 => opD_move (ls rfl (ls rfl (ls rfl (ls rfl (ls rfl (ls rfl (ls rfl (ls rfl (ls rfl (os rfl (os rfl (os rfl (os rfl (os rfl (os rfl oz)))))))))))))))) ?_
                refine rtg _ rfl (ls rfl (ls rfl (ls rfl (ls rfl (ls rfl lz))))) (fun hg29_10_148 => opD_eql ((ls rfl lz).trans (pif_pos hg29_10_148)) (lz.trans (pif_pos hg29_10_148))) ?_
                refine rts _ rfl (opD_and (ls rfl (ls rfl (ls rfl (ls rfl (ls rfl (ls rfl lz)))))) lz) ?_
                refine .nil ?_
                refine aw_keep [(2, _), (7, _), (9, _), (10, _), (15, _), (16, _), (17, _), (18, _), (143, _)] ⟨lg (ls rfl (ls rfl (ls rfl (ls rfl (ls rfl (ls rfl (ls rfl (ls rfl (ls rfl (ls rfl (ls rfl (ls rfl oz)))))))))))), lg (ls rfl (ls rfl (ls rfl (ls rfl (ls rfl (ls rfl (ls rfl (ls rfl (ls rfl (ls rfl (ls rfl (ls rfl (os rfl oz))))))))))))), lg (ls rfl (ls rfl (ls rfl (ls rfl (ls rfl (ls rfl (ls rfl (ls rfl (ls rfl (ls rfl (ls rfl (ls rfl (os rfl (os rfl oz)))))))))))))), lg (ls rfl (ls rfl (ls rfl (ls rfl (ls rfl (ls rfl (ls rfl (ls rfl (ls rfl (ls rfl (ls rfl (ls rfl (os rfl (os rfl (os rfl oz))))))))))))))), lg (ls rfl (ls rfl (ls rfl (ls rfl (ls rfl (ls rfl (ls rfl (ls rfl (ls rfl (ls rfl (ls rfl (ls rfl (os rfl (os rfl (os rfl (os rfl oz)))))))))))))))), lg (ls rfl (ls rfl (ls rfl (ls rfl (ls rfl (ls rfl (ls rfl (ls rfl (ls rfl (ls rfl (ls rfl (ls rfl (os rfl (os rfl (os rfl (os rfl (os rfl oz))))))))))))))))), lg (ls rfl (ls rfl (ls rfl (ls rfl (ls rfl (ls rfl (ls rfl (ls rfl (ls rfl (ls rfl (ls rfl (ls rfl (os rfl (os rfl (os rfl (os rfl (os rfl (os rfl oz)))))))))))))))))), lg (ls rfl (ls rfl (ls rfl (ls rfl (ls rfl (ls rfl (ls rfl (ls rfl (ls rfl (ls rfl (ls rfl (ls rfl (os rfl (os rfl (os rfl (os rfl (os rfl (os rfl (os rfl oz))))))))))))))))))), lg lz, trivial⟩ ?_
                replace hz_26 := bnd_some hz_26
                obtain ⟨z_28, hz_28, hz_26⟩ := hz_26
                refine aw_mid (fun e st => ∃ v : Int × Int, Holds e [(2, sl kB none none p2), (7, ptr (s.boxes.length + 2) 0), (9, ptr (s.boxes.length + 3) 0), (10, ptr (s.boxes.length + 4) 0), (15, sl (kI .i64) none none x_22), (16, pl (.int .i64 v.1)), (17, pl (.int .i64 t_25.2)), (18, pl (.int .u8 v.2))] ∧ st = s.ext [⟨HOT, [mpf KM_dev x_23.safe_]⟩, ⟨HOT, [mpf KM_dev x_23.waits_]⟩, ⟨160, [pl (.int .i64 x_23.pages_), mref (s.boxes.length + 0), mref (s.boxes.length + 1), pl (.int .i64 x_23.left_), pl (.bool x_23.down_)]⟩, ⟨30, (flat (kI .u8) vz_4.2.2.2.2)⟩, ⟨30, (flat (kI .u8) vz_14.2.2.2.2)⟩] [] ∧ v = z_28) ?_ ?_
                · skip
                  refine aw_wkN rfl 5 0 rfl rfl ?_
                  refine aw_cond _ (os rfl (os rfl (os rfl (os rfl (os rfl (os rfl (os rfl (os rfl oz)))))))) (fun hc => ?_) (fun hc => ?_)
                  · skip
                    replace hz_28 := ifb_t hz_28 hc
                    clear hc
                    refine aw_seq ?_
                    refine aw_seq ?_
                    refine aw_region (by decide) ?_
                    refine rts _ rfl (opD_move (os rfl (os rfl (os rfl (os rfl (os rfl oz)))))) ?_
                    refine rts _ rfl (opD_move (ls rfl oz)) ?_
                    refine rts _ rfl (opD_len_sl Go.Proofs.Tryd.underlying23 lz) ?_
                    refine rts _ rfl (opD_lss (ls rfl (ls rfl lz)) lz) ?_
                    refine rts _ rfl (opD_move lz) ?_
                    refine rtg _ rfl lz (fun hg30_5_156 => opD_move (ls rfl (ls rfl (ls rfl (ls rfl (ls rfl oz)))))) ?_
                    refine rtg _ rfl (ls rfl lz) (fun hg30_6_157 => opD_move (ls rfl (ls rfl (ls rfl (ls rfl (ls rfl (ls rfl (os rfl (os rfl (os rfl (os rfl (os rfl oz)))))))))))) ?_
                    replace hz_28 := grd_some hz_28
                    obtain ⟨hg_159, hz_28⟩ := hz_28
                    refine rtg _ rfl (ls rfl (ls rfl lz)) (fun hg30_7_158 => opD_indexAddr_sl (i := t_25.1.toNat) Go.Proofs.Tryd.underlying23 sz4_W5 ((ls rfl lz).trans (pif_pos hg30_7_158)) (lz.trans (pif_pos hg30_7_158)) (hg_159 hg30_7_158).eq (hg_159 hg30_7_158).2) ?_
                    refine rtg _ rfl (ls rfl (ls rfl (ls rfl lz))) (fun hg30_8_160 => opD_load_el_one ag4_W5 (lz.trans (pif_pos hg30_8_160)) (at_getD default (hg_159 hg30_8_160).2) rfl) ?_
                    refine rts _ rfl (opD_and (ls rfl (ls rfl (ls rfl (ls rfl lz)))) lz) ?_
                    refine .nil ?_
                    refine aw_keep [(2, _), (7, _), (9, _), (10, _), (15, _), (16, _), (17, _), (18, _), (153, _)] ⟨lg (ls rfl (ls rfl (ls rfl (ls rfl (ls rfl (ls rfl (ls rfl (ls rfl (ls rfl (ls rfl oz)))))))))), lg (ls rfl (ls rfl (ls rfl (ls rfl (ls rfl (ls rfl (ls rfl (ls rfl (ls rfl (ls rfl (os rfl oz))))))))))), lg (ls rfl (ls rfl (ls rfl (ls rfl (ls rfl (ls rfl (ls rfl (ls rfl (ls rfl (ls rfl (os rfl (os rfl oz)))))))))))), lg (ls rfl (ls rfl (ls rfl (ls rfl (ls rfl (ls rfl (ls rfl (ls rfl (ls rfl (ls rfl (os rfl (os rfl (os rfl oz))))))))))))), lg (ls rfl (ls rfl (ls rfl (ls rfl (ls rfl (ls rfl (ls rfl (ls rfl (ls rfl (ls rfl (os rfl (os rfl (os rfl (os rfl oz)))))))))))))), lg (ls rfl (ls rfl (ls rfl (ls rfl (ls rfl (ls rfl (ls rfl (ls rfl (ls rfl (ls rfl (os rfl (os rfl (os rfl (os rfl (os rfl oz))))))))))))))), lg (ls rfl (ls rfl (ls rfl (ls rfl (ls rfl (ls rfl (ls rfl (ls rfl (ls rfl (ls rfl (os rfl (os rfl (os rfl (os rfl (os rfl (os rfl oz)))))))))))))))), lg (ls rfl (ls rfl (ls rfl (ls rfl (ls rfl (ls rfl (ls rfl (ls rfl (ls rfl (ls rfl (os rfl (os rfl (os rfl (os rfl (os rfl (os rfl (os rfl oz))))))))))))))))), lg lz, trivial⟩ ?_
                    replace hz_28 := bnd_some hz_28
                    obtain ⟨z_29, hz_29, hz_28⟩ := hz_28
                    refine aw_mid (fun e st => ∃ v : Int, Holds e [(2, sl kB none none p2), (7, ptr (s.boxes.length + 2) 0), (9, ptr (s.boxes.length + 3) 0), (10, ptr (s.boxes.length + 4) 0), (15, sl (kI .i64) none none x_22), (16, pl (.int .i64 t_25.1)), (17, pl (.int .i64 t_25.2)), (18, pl (.int .u8 v))] ∧ st = s.ext [⟨HOT, [mpf KM_dev x_23.safe_]⟩, ⟨HOT, [mpf KM_dev x_23.waits_]⟩, ⟨160, [pl (.int .i64 x_23.pages_), mref (s.boxes.length + 0), mref (s.boxes.length + 1), pl (.int .i64 x_23.left_), pl (.bool x_23.down_)]⟩, ⟨30, (flat (kI .u8) vz_4.2.2.2.2)⟩, ⟨30, (flat (kI .u8) vz_14.2.2.2.2)⟩] [] ∧ v = z_29) ?_ ?_
                    · skip
                      refine aw_wkN rfl 5 0 rfl rfl ?_
                      refine aw_cond _ (os rfl (os rfl (os rfl (os rfl (os rfl (os rfl (os rfl (os rfl oz)))))))) (fun hc => ?_) (fun hc => ?_)
                      · skip
                        replace hz_29 := ifb_t hz_29 hc
                        clear hc
                        refine aw_region (by decide) ?_
                        refine rts _ rfl (opD_move (os rfl (os rfl (os rfl (os rfl (os rfl (os rfl oz))))))) ?_
                        replace hz_29 := grd_some hz_29
                        obtain ⟨hg_162, hz_29⟩ := hz_29
                        refine rts _ rfl (opD_indexAddr_arr (i := t_25.2.toNat) Go.Proofs.Tryd.underlying30 sz5_W5 (ls rfl (os rfl (os rfl (os rfl oz)))) lz hg_162.eq hg_162.2) ?_
                        replace hz_29 := ixb_some hz_29
                        obtain ⟨x_30, hx_30, hbx_30, hz_29⟩ := hz_29
                        refine rts _ rfl (opD_load_one ag5_W5 lz (loc_getN rfl rfl) (flat_at0 rfl (nat_ix hx_30) rfl)) ?_
                        refine rts _ rfl (opD_assign lz) ?_
                        refine .nil ?_
                        refine wk_yesN rfl (l := [(2, sl kB none none p2), (7, ptr (s.boxes.length + 2) 0), (9, ptr (s.boxes.length + 3) 0), (10, ptr (s.boxes.length + 4) 0), (15, sl (kI .i64) none none x_22), (16, pl (.int .i64 t_25.1)), (17, pl (.int .i64 t_25.2)), (18, pl (.int .u8 x_30))]) (bs' := [⟨HOT, [mpf KM_dev x_23.safe_]⟩, ⟨HOT, [mpf KM_dev x_23.waits_]⟩, ⟨160, [pl (.int .i64 x_23.pages_), mref (s.boxes.length + 0), mref (s.boxes.length + 1), pl (.int .i64 x_23.left_), pl (.bool x_23.down_)]⟩, ⟨30, (flat (kI .u8) vz_4.2.2.2.2)⟩, ⟨30, (flat (kI .u8) vz_14.2.2.2.2)⟩]) ⟨le_of_eq (eg (ls rfl (ls rfl (ls rfl (ls rfl oz))))), le_of_eq (eg (ls rfl (ls rfl (ls rfl (ls rfl (os rfl oz)))))), le_of_eq (eg (ls rfl (ls rfl (ls rfl (ls rfl (os rfl (os rfl oz))))))), le_of_eq (eg (ls rfl (ls rfl (ls rfl (ls rfl (os rfl (os rfl (os rfl oz)))))))), le_of_eq (eg (ls rfl (ls rfl (ls rfl (ls rfl (os rfl (os rfl (os rfl (os rfl oz))))))))), le_of_eq (eg (ls rfl (ls rfl (ls rfl (ls rfl (os rfl (os rfl (os rfl (os rfl (os rfl oz)))))))))), le_of_eq (eg (ls rfl (ls rfl (ls rfl (ls rfl (os rfl (os rfl (os rfl (os rfl (os rfl (os rfl oz))))))))))), le_of_eq (eg lz), trivial⟩ (bnd_cons (sl_b kb_B) (bnd_cons (ptr_bnd _ (by first | omega | (simp only [List.length_append, List.length_cons, List.length_nil]; omega))) (bnd_cons (ptr_bnd _ (by first | omega | (simp only [List.length_append, List.length_cons, List.length_nil]; omega))) (bnd_cons (ptr_bnd _ (by first | omega | (simp only [List.length_append, List.length_cons, List.length_nil]; omega))) (bnd_cons (sl_b (kb_I _)) (bnd_cons (pl_bnd _ _ _) (bnd_cons (pl_bnd _ _ _) (bnd_cons (pl_bnd _ _ _) bnd_nil)))))))) (Nat.le_of_ble_eq_true rfl) (by simp only [na, nb, nc, nd, nf, ng, nh, ni, nj, nk] <;> rfl) (bxle_same (bxle_same (bxle_same (bxle_same (bxle_same bxle_nil))))) rfl (by simp only [na, nb, nc, nd, nf, ng, nh, ni, nj, nk] <;> rfl) (bl_cons (bnd_cons ((mpf_bnd _ _) _ _) bnd_nil) (bl_cons (bnd_cons ((mpf_bnd _ _) _ _) bnd_nil) (bl_cons (bnd_cons (pl_bnd _ _ _) (bnd_cons (mref_bnd _ (by first | omega | (simp only [List.length_append, List.length_cons, List.length_nil]; omega))) (bnd_cons (mref_bnd _ (by first | omega | (simp only [List.length_append, List.length_cons, List.length_nil]; omega))) (bnd_cons (pl_bnd _ _ _) (bnd_cons (pl_bnd _ _ _) bnd_nil))))) (bl_cons (flatKB (kb_I _)) (bl_cons (flatKB (kb_I _)) bl_nil))))) ?_
                        exact ⟨x_30, ⟨le_of_eq (eg oz), le_of_eq (eg (os rfl oz)), le_of_eq (eg (os rfl (os rfl oz))), le_of_eq (eg (os rfl (os rfl (os rfl oz)))), le_of_eq (eg (os rfl (os rfl (os rfl (os rfl oz))))), le_of_eq (eg (os rfl (os rfl (os rfl (os rfl (os rfl oz)))))), le_of_eq (eg (os rfl (os rfl (os rfl (os rfl (os rfl (os rfl oz))))))), le_of_eq (eg (os rfl (os rfl (os rfl (os rfl (os rfl (os rfl (os rfl oz)))))))), trivial⟩, rfl, some_of hz_29⟩
                      · skip
                        replace hz_29 := ifb_f hz_29 hc
                        clear hc
                        refine aw_skip ?_
                        refine wk_yesN rfl (l := [(2, sl kB none none p2), (7, ptr (s.boxes.length + 2) 0), (9, ptr (s.boxes.length + 3) 0), (10, ptr (s.boxes.length + 4) 0), (15, sl (kI .i64) none none x_22), (16, pl (.int .i64 t_25.1)), (17, pl (.int .i64 t_25.2)), (18, pl (.int .u8 x_27))]) (bs' := [⟨HOT, [mpf KM_dev x_23.safe_]⟩, ⟨HOT, [mpf KM_dev x_23.waits_]⟩, ⟨160, [pl (.int .i64 x_23.pages_), mref (s.boxes.length + 0), mref (s.boxes.length + 1), pl (.int .i64 x_23.left_), pl (.bool x_23.down_)]⟩, ⟨30, (flat (kI .u8) vz_4.2.2.2.2)⟩, ⟨30, (flat (kI .u8) vz_14.2.2.2.2)⟩]) ⟨le_of_eq (eg oz), le_of_eq (eg (os rfl oz)), le_of_eq (eg (os rfl (os rfl oz))), le_of_eq (eg (os rfl (os rfl (os rfl oz)))), le_of_eq (eg (os rfl (os rfl (os rfl (os rfl oz))))), le_of_eq (eg (os rfl (os rfl (os rfl (os rfl (os rfl oz)))))), le_of_eq (eg (os rfl (os rfl (os rfl (os rfl (os rfl (os rfl oz))))))), le_of_eq (eg (os rfl (os rfl (os rfl (os rfl (os rfl (os rfl (os rfl oz)))))))), trivial⟩ (bnd_cons (sl_b kb_B) (bnd_cons (ptr_bnd _ (by first | omega | (simp only [List.length_append, List.length_cons, List.length_nil]; omega))) (bnd_cons (ptr_bnd _ (by first | omega | (simp only [List.length_append, List.length_cons, List.length_nil]; omega))) (bnd_cons (ptr_bnd _ (by first | omega | (simp only [List.length_append, List.length_cons, List.length_nil]; omega))) (bnd_cons (sl_b (kb_I _)) (bnd_cons (pl_bnd _ _ _) (bnd_cons (pl_bnd _ _ _) (bnd_cons (pl_bnd _ _ _) bnd_nil)))))))) (Nat.le_of_ble_eq_true rfl) (by simp only [na, nb, nc, nd, nf, ng, nh, ni, nj, nk] <;> rfl) (bxle_same (bxle_same (bxle_same (bxle_same (bxle_same bxle_nil))))) rfl (by simp only [na, nb, nc, nd, nf, ng, nh, ni, nj, nk] <;> rfl) (bl_cons (bnd_cons ((mpf_bnd _ _) _ _) bnd_nil) (bl_cons (bnd_cons ((mpf_bnd _ _) _ _) bnd_nil) (bl_cons (bnd_cons (pl_bnd _ _ _) (bnd_cons (mref_bnd _ (by first | omega | (simp only [List.length_append, List.length_cons, List.length_nil]; omega))) (bnd_cons (mref_bnd _ (by first | omega | (simp only [List.length_append, List.length_cons, List.length_nil]; omega))) (bnd_cons (pl_bnd _ _ _) (bnd_cons (pl_bnd _ _ _) bnd_nil))))) (bl_cons (flatKB (kb_I _)) (bl_cons (flatKB (kb_I _)) bl_nil))))) ?_
                        exact ⟨x_27, ⟨le_of_eq (eg oz), le_of_eq (eg (os rfl oz)), le_of_eq (eg (os rfl (os rfl oz))), le_of_eq (eg (os rfl (os rfl (os rfl oz)))), le_of_eq (eg (os rfl (os rfl (os rfl (os rfl oz))))), le_of_eq (eg (os rfl (os rfl (os rfl (os rfl (os rfl oz)))))), le_of_eq (eg (os rfl (os rfl (os rfl (os rfl (os rfl (os rfl oz))))))), le_of_eq (eg (os rfl (os rfl (os rfl (os rfl (os rfl (os rfl (os rfl oz)))))))), trivial⟩, rfl, some_of hz_29⟩
                    · rintro e st ⟨vz_29, hH, rfl, rfl⟩
                      refine aw_keep _ hH ?_
                      refine aw_keep [(2, _), (7, _), (9, _), (10, _), (15, _), (16, _), (17, _), (18, _)] ⟨lg oz, lg (os rfl oz), lg (os rfl (os rfl oz)), lg (os rfl (os rfl (os rfl oz))), lg (os rfl (os rfl (os rfl (os rfl oz)))), lg (os rfl (os rfl (os rfl (os rfl (os rfl oz))))), lg (os rfl (os rfl (os rfl (os rfl (os rfl (os rfl oz)))))), lg (os rfl (os rfl (os rfl (os rfl (os rfl (os rfl (os rfl oz))))))), trivial⟩ ?_
                      refine aw_region (by decide) ?_
                      refine rts _ rfl (opD_move (os rfl (os rfl (os rfl (os rfl (os rfl oz)))))) ?_
                      refine rts _ rfl (opD_add lz (ev_const _ _) rfl) ?_
                      refine rts _ rfl (opD_assign lz) ?_
                      refine .nil ?_
                      refine wk_yesN rfl (l := [(2, sl kB none none p2), (7, ptr (s.boxes.length + 2) 0), (9, ptr (s.boxes.length + 3) 0), (10, ptr (s.boxes.length + 4) 0), (15, sl (kI .i64) none none x_22), (16, pl (.int .i64 (IntKind.i64.wrap (t_25.1 + 1)))), (17, pl (.int .i64 t_25.2)), (18, pl (.int .u8 vz_29))]) (bs' := [⟨HOT, [mpf KM_dev x_23.safe_]⟩, ⟨HOT, [mpf KM_dev x_23.waits_]⟩, ⟨160, [pl (.int .i64 x_23.pages_), mref (s.boxes.length + 0), mref (s.boxes.length + 1), pl (.int .i64 x_23.left_), pl (.bool x_23.down_)]⟩, ⟨30, (flat (kI .u8) vz_4.2.2.2.2)⟩, ⟨30, (flat (kI .u8) vz_14.2.2.2.2)⟩]) ⟨le_of_eq (eg (ls rfl (ls rfl (ls rfl oz)))), le_of_eq (eg (ls rfl (ls rfl (ls rfl (os rfl oz))))), le_of_eq (eg (ls rfl (ls rfl (ls rfl (os rfl (os rfl oz)))))), le_of_eq (eg (ls rfl (ls rfl (ls rfl (os rfl (os rfl (os rfl oz))))))), le_of_eq (eg (ls rfl (ls rfl (ls rfl (os rfl (os rfl (os rfl (os rfl oz)))))))), le_of_eq (eg lz), le_of_eq (eg (ls rfl (ls rfl (ls rfl (os rfl (os rfl (os rfl (os rfl (os rfl (os rfl oz)))))))))), le_of_eq (eg (ls rfl (ls rfl (ls rfl (os rfl (os rfl (os rfl (os rfl (os rfl (os rfl (os rfl oz))))))))))), trivial⟩ (bnd_cons (sl_b kb_B) (bnd_cons (ptr_bnd _ (by first | omega | (simp only [List.length_append, List.length_cons, List.length_nil]; omega))) (bnd_cons (ptr_bnd _ (by first | omega | (simp only [List.length_append, List.length_cons, List.length_nil]; omega))) (bnd_cons (ptr_bnd _ (by first | omega | (simp only [List.length_append, List.length_cons, List.length_nil]; omega))) (bnd_cons (sl_b (kb_I _)) (bnd_cons (pl_bnd _ _ _) (bnd_cons (pl_bnd _ _ _) (bnd_cons (pl_bnd _ _ _) bnd_nil)))))))) (Nat.le_of_ble_eq_true rfl) (by simp only [na, nb, nc, nd, nf, ng, nh, ni, nj, nk] <;> rfl) (bxle_same (bxle_same (bxle_same (bxle_same (bxle_same bxle_nil))))) rfl (by simp only [na, nb, nc, nd, nf, ng, nh, ni, nj, nk] <;> rfl) (bl_cons (bnd_cons ((mpf_bnd _ _) _ _) bnd_nil) (bl_cons (bnd_cons ((mpf_bnd _ _) _ _) bnd_nil) (bl_cons (bnd_cons (pl_bnd _ _ _) (bnd_cons (mref_bnd _ (by first | omega | (simp only [List.length_append, List.length_cons, List.length_nil]; omega))) (bnd_cons (mref_bnd _ (by first | omega | (simp only [List.length_append, List.length_cons, List.length_nil]; omega))) (bnd_cons (pl_bnd _ _ _) (bnd_cons (pl_bnd _ _ _) bnd_nil))))) (bl_cons (flatKB (kb_I _)) (bl_cons (flatKB (kb_I _)) bl_nil))))) ?_
                      exact ⟨(IntKind.i64.wrap (t_25.1 + 1), vz_29), ⟨le_of_eq (eg oz), le_of_eq (eg (os rfl oz)), le_of_eq (eg (os rfl (os rfl oz))), le_of_eq (eg (os rfl (os rfl (os rfl oz)))), le_of_eq (eg (os rfl (os rfl (os rfl (os rfl oz))))), le_of_eq (eg (os rfl (os rfl (os rfl (os rfl (os rfl oz)))))), le_of_eq (eg (os rfl (os rfl (os rfl (os rfl (os rfl (os rfl oz))))))), le_of_eq (eg (os rfl (os rfl (os rfl (os rfl (os rfl (os rfl (os rfl oz)))))))), trivial⟩, rfl, some_of hz_28⟩
                  · skip
                    replace hz_28 := ifb_f hz_28 hc
                    clear hc
                    refine aw_skip ?_
                    refine wk_yesN rfl (l := [(2, sl kB none none p2), (7, ptr (s.boxes.length + 2) 0), (9, ptr (s.boxes.length + 3) 0), (10, ptr (s.boxes.length + 4) 0), (15, sl (kI .i64) none none x_22), (16, pl (.int .i64 t_25.1)), (17, pl (.int .i64 t_25.2)), (18, pl (.int .u8 x_27))]) (bs' := [⟨HOT, [mpf KM_dev x_23.safe_]⟩, ⟨HOT, [mpf KM_dev x_23.waits_]⟩, ⟨160, [pl (.int .i64 x_23.pages_), mref (s.boxes.length + 0), mref (s.boxes.length + 1), pl (.int .i64 x_23.left_), pl (.bool x_23.down_)]⟩, ⟨30, (flat (kI .u8) vz_4.2.2.2.2)⟩, ⟨30, (flat (kI .u8) vz_14.2.2.2.2)⟩]) ⟨le_of_eq (eg oz), le_of_eq (eg (os rfl oz)), le_of_eq (eg (os rfl (os rfl oz))), le_of_eq (eg (os rfl (os rfl (os rfl oz)))), le_of_eq (eg (os rfl (os rfl (os rfl (os rfl oz))))), le_of_eq (eg (os rfl (os rfl (os rfl (os rfl (os rfl oz)))))), le_of_eq (eg (os rfl (os rfl (os rfl (os rfl (os rfl (os rfl oz))))))), le_of_eq (eg (os rfl (os rfl (os rfl (os rfl (os rfl (os rfl (os rfl oz)))))))), trivial⟩ (bnd_cons (sl_b kb_B) (bnd_cons (ptr_bnd _ (by first | omega | (simp only [List.length_append, List.length_cons, List.length_nil]; omega))) (bnd_cons (ptr_bnd _ (by first | omega | (simp only [List.length_append, List.length_cons, List.length_nil]; omega))) (bnd_cons (ptr_bnd _ (by first | omega | (simp only [List.length_append, List.length_cons, List.length_nil]; omega))) (bnd_cons (sl_b (kb_I _)) (bnd_cons (pl_bnd _ _ _) (bnd_cons (pl_bnd _ _ _) (bnd_cons (pl_bnd _ _ _) bnd_nil)))))))) (Nat.le_of_ble_eq_true rfl) (by simp only [na, nb, nc, nd, nf, ng, nh, ni, nj, nk] <;> rfl) (bxle_same (bxle_same (bxle_same (bxle_same (bxle_same bxle_nil))))) rfl (by simp only [na, nb, nc, nd, nf, ng, nh, ni, nj, nk] <;> rfl) (bl_cons (bnd_cons ((mpf_bnd _ _) _ _) bnd_nil) (bl_cons (bnd_cons ((mpf_bnd _ _) _ _) bnd_nil) (bl_cons (bnd_cons (pl_bnd _ _ _) (bnd_cons (mref_bnd _ (by first | omega | (simp only [List.length_append, List.length_cons, List.length_nil]; omega))) (bnd_cons (mref_bnd _ (by first | omega | (simp only [List.length_append, List.length_cons, List.length_nil]; omega))) (bnd_cons (pl_bnd _ _ _) (bnd_cons (pl_bnd _ _ _) bnd_nil))))) (bl_cons (flatKB (kb_I _)) (bl_cons (flatKB (kb_I _)) bl_nil))))) ?_
                    exact ⟨(t_25.1, x_27), ⟨le_of_eq (eg oz), le_of_eq (eg (os rfl oz)), le_of_eq (eg (os rfl (os rfl oz))), le_of_eq (eg (os rfl (os rfl (os rfl oz)))), le_of_eq (eg (os rfl (os rfl (os rfl (os rfl oz))))), le_of_eq (eg (os rfl (os rfl (os rfl (os rfl (os rfl oz)))))), le_of_eq (eg (os rfl (os rfl (os rfl (os rfl (os rfl (os rfl oz))))))), le_of_eq (eg (os rfl (os rfl (os rfl (os rfl (os rfl (os rfl (os rfl oz)))))))), trivial⟩, rfl, some_of hz_28⟩
                · rintro e st ⟨vz_28, hH, rfl, rfl⟩
                  refine aw_keep _ hH ?_
                  refine aw_keep [(2, _), (7, _), (9, _), (10, _), (15, _), (16, _), (17, _), (18, _)] ⟨lg oz, lg (os rfl oz), lg (os rfl (os rfl oz)), lg (os rfl (os rfl (os rfl oz))), lg (os rfl (os rfl (os rfl (os rfl oz)))), lg (os rfl (os rfl (os rfl (os rfl (os rfl oz))))), lg (os rfl (os rfl (os rfl (os rfl (os rfl (os rfl oz)))))), lg (os rfl (os rfl (os rfl (os rfl (os rfl (os rfl (os rfl oz))))))), trivial⟩ ?_
                  refine aw_seq ?_
                  refine aw_region (by decide) ?_
                  refine rts _ rfl (opD_move (os rfl oz)) ?_
                  refine rts _ rfl (opD_move (ls rfl (os rfl (os rfl (os rfl (os rfl (os rfl (os rfl oz)))))))) ?_
                  replace hz_26 := bnd_some hz_26
                  obtain ⟨x_31, hx_31, hz_26⟩ := hz_26
                  refine rts _ rfl (opD_call ht20_W5 (c_dRead hx_31 (ud_len (m := 5) rfl rfl ⟨by omega, ⟨by omega, ⟨by omega, trivial⟩⟩, ⟨by omega, ⟨by omega, trivial⟩, ⟨by omega, trivial, trivial⟩⟩⟩) (loc_getN rfl rfl) (loc_getN rfl rfl) (loc_getN rfl rfl) (Pd.le_refl _) (mpf_bnd _ _) (Pd.le_refl _) (mpf_bnd _ _)) ⟨le_of_eq (ls rfl lz), le_of_eq lz, trivial⟩) ?_
                  refine rts _ rfl (opD_move lz) ?_
                  refine rts _ rfl (opD_extract lz rfl) ?_
                  refine rts _ rfl (opD_extract (ls rfl lz) rfl) ?_
                  refine rts _ rfl (opD_assign (ls rfl lz)) ?_
                  refine rts _ rfl (opD_assign (ls rfl lz)) ?_
                  refine .nil ?_
                  refine aw_keep [(2, _), (7, _), (9, _), (10, _), (15, _), (16, _), (17, _), (18, _), (19, _), (20, _)] ⟨lg (ls rfl (ls rfl (ls rfl (ls rfl (ls rfl (ls rfl (ls rfl (ls rfl oz)))))))), lg (ls rfl (ls rfl (ls rfl (ls rfl (ls rfl (ls rfl (ls rfl (ls rfl (os rfl oz))))))))), lg (ls rfl (ls rfl (ls rfl (ls rfl (ls rfl (ls rfl (ls rfl (ls rfl (os rfl (os rfl oz)))))))))), lg (ls rfl (ls rfl (ls rfl (ls rfl (ls rfl (ls rfl (ls rfl (ls rfl (os rfl (os rfl (os rfl oz))))))))))), lg (ls rfl (ls rfl (ls rfl (ls rfl (ls rfl (ls rfl (ls rfl (ls rfl (os rfl (os rfl (os rfl (os rfl oz)))))))))))), lg (ls rfl (ls rfl (ls rfl (ls rfl (ls rfl (ls rfl (ls rfl (ls rfl (os rfl (os rfl (os rfl (os rfl (os rfl oz))))))))))))), lg (ls rfl (ls rfl (ls rfl (ls rfl (ls rfl (ls rfl (ls rfl (ls rfl (os rfl (os rfl (os rfl (os rfl (os rfl (os rfl oz)))))))))))))), lg (ls rfl (ls rfl (ls rfl (ls rfl (ls rfl (ls rfl (ls rfl (ls rfl (os rfl (os rfl (os rfl (os rfl (os rfl (os rfl (os rfl oz))))))))))))))), lg (ls rfl lz), lg lz, trivial⟩ ?_
                  refine aw_seq ?_
                  refine aw_flat mixed_W5 (by decide +kernel) ?_
                  refine zts _ rfl (opD_move (os rfl (os rfl (os rfl (os rfl (os rfl (os rfl (os rfl (os rfl (os rfl oz)))))))))) ?_
                  refine zts _ rfl (opD_bin lz (ev_const _ _) (fun w => errV_guard _ w _) (fun w => errV_beq _ w)) ?_
                  refine zts _ rfl (opD_move lz) ?_
                  refine ztg _ rfl lz (fun hg34_3_169 => opD_move (ls rfl (ls rfl (ls rfl (os rfl (os rfl (os rfl (os rfl (os rfl (os rfl (os rfl (os rfl oz)))))))))))) ?_
                  refine ztg _ rfl (ls rfl lz) (fun hg34_4_170 => opD_bytes_str Go.Proofs.Tryd.underlying33 Go.Proofs.Tryd.underlying5 Go.Proofs.Tryd.underlying9 (lz.trans (pif_pos hg34_4_170))) ?_
                  refine ztg _ rfl (ls rfl (ls rfl lz)) (fun hg34_5_171 => opD_move (ls rfl (ls rfl (ls rfl (ls rfl (ls rfl (os rfl (os rfl (os rfl (os rfl (os rfl (os rfl (os rfl oz))))))))))))) ?_
                  replace hz_26 := bnd_some hz_26
                  obtain ⟨x_32, hx_32, hz_26⟩ := hz_26
                  refine ztg _ rfl (ls rfl (ls rfl (ls rfl lz))) (fun hg34_6_172 => opD_pure ht16_W5 (c_l4sector (gif_some hx_32 hg34_6_172)) ⟨le_of_eq (lz.trans (pif_pos hg34_6_172)), trivial⟩) ?_
                  refine ztg _ rfl (ls rfl (ls rfl (ls rfl (ls rfl lz)))) (fun hg34_7_173 => opD_bytes_str Go.Proofs.Tryd.underlying33 Go.Proofs.Tryd.underlying5 Go.Proofs.Tryd.underlying9 (lz.trans (pif_pos hg34_7_173))) ?_
                  refine ztg _ rfl (ls rfl (ls rfl (ls rfl (ls rfl (ls rfl lz))))) (fun hg34_8_174 => opD_sneq ((ls rfl (ls rfl (ls rfl lz))).trans (pif_pos hg34_8_174)) (lz.trans (pif_pos hg34_8_174))) ?_
                  refine zts _ rfl (opD_or (ls rfl (ls rfl (ls rfl (ls rfl (ls rfl (ls rfl lz)))))) lz) ?_
                  refine .nil ?_
                  refine aw_keep [(2, _), (7, _), (9, _), (10, _), (15, _), (16, _), (17, _), (174, _)] ⟨lg (ls rfl (ls rfl (ls rfl (ls rfl (ls rfl (ls rfl (ls rfl (ls rfl (ls rfl (ls rfl oz)))))))))), lg (ls rfl (ls rfl (ls rfl (ls rfl (ls rfl (ls rfl (ls rfl (ls rfl (ls rfl (ls rfl (os rfl oz))))))))))), lg (ls rfl (ls rfl (ls rfl (ls rfl (ls rfl (ls rfl (ls rfl (ls rfl (ls rfl (ls rfl (os rfl (os rfl oz)))))))))))), lg (ls rfl (ls rfl (ls rfl (ls rfl (ls rfl (ls rfl (ls rfl (ls rfl (ls rfl (ls rfl (os rfl (os rfl (os rfl oz))))))))))))), lg (ls rfl (ls rfl (ls rfl (ls rfl (ls rfl (ls rfl (ls rfl (ls rfl (ls rfl (ls rfl (os rfl (os rfl (os rfl (os rfl oz)))))))))))))), lg (ls rfl (ls rfl (ls rfl (ls rfl (ls rfl (ls rfl (ls rfl (ls rfl (ls rfl (ls rfl (os rfl (os rfl (os rfl (os rfl (os rfl oz))))))))))))))), lg (ls rfl (ls rfl (ls rfl (ls rfl (ls rfl (ls rfl (ls rfl (ls rfl (ls rfl (ls rfl (os rfl (os rfl (os rfl (os rfl (os rfl (os rfl oz)))))))))))))))), lg lz, trivial⟩ ?_
                  refine aw_cond _ (os rfl (os rfl (os rfl (os rfl (os rfl (os rfl (os rfl oz))))))) (fun hc => ?_) (fun hc => ?_)
                  · skip
                    replace hz_26 := ifb_t hz_26 hc
                    clear hc
                    refine aw_seq ?_
                    refine aw_region (by decide) ?_
                    refine rts _ rfl (opD_assign (ev_const _ _)) ?_
                    refine .nil ?_
                    refine aw_keep [(6, _)] ⟨lg lz, trivial⟩ ?_
                    refine aw_ret ?_
                    obtain rfl := some_of hz_26
                    replace hz_24 := ocs_r hz_24
                    obtain rfl := some_of hz_24
                    replace h0 := ocs_l h0
                    refine wk_no ?_
                    refine wk_no ?_
                    obtain rfl := some_of h0
                    exact done_ext (.inr rfl) ((res_one rfl (it_tmp oz)).le (Pd.le_refl _)) (pl_bnd _ _ _)
                  · skip
                    replace hz_26 := ifb_f hz_26 hc
                    clear hc
                    refine aw_skip ?_
                    refine aw_keep [(2, _), (7, _), (9, _), (10, _), (15, _), (16, _), (17, _)] ⟨lg oz, lg (os rfl oz), lg (os rfl (os rfl oz)), lg (os rfl (os rfl (os rfl oz))), lg (os rfl (os rfl (os rfl (os rfl oz)))), lg (os rfl (os rfl (os rfl (os rfl (os rfl oz))))), lg (os rfl (os rfl (os rfl (os rfl (os rfl (os rfl oz)))))), trivial⟩ ?_
                    refine aw_region (by decide) ?_
                    refine rts _ rfl (opD_move (os rfl (os rfl (os rfl (os rfl (os rfl (os rfl oz))))))) ?_
                    refine rts _ rfl (opD_add lz (ev_const _ _) rfl) ?_
                    refine rts _ rfl (opD_assign lz) ?_
                    refine .nil ?_
                    obtain rfl := some_of hz_26
                    replace hz_24 := ocs_l hz_24
                    refine wk_yesN rfl (l := [(2, sl kB none none p2), (7, ptr (s.boxes.length + 2) 0), (9, ptr (s.boxes.length + 3) 0), (10, ptr (s.boxes.length + 4) 0), (15, sl (kI .i64) none none x_22), (16, pl (.int .i64 vz_28.1)), (17, pl (.int .i64 (IntKind.i64.wrap (t_25.2 + 1))))]) (bs' := [⟨HOT, [mpf KM_dev x_23.safe_]⟩, ⟨HOT, [mpf KM_dev x_23.waits_]⟩, ⟨160, [pl (.int .i64 x_23.pages_), mref (s.boxes.length + 0), mref (s.boxes.length + 1), pl (.int .i64 x_23.left_), pl (.bool x_23.down_)]⟩, ⟨30, (flat (kI .u8) vz_4.2.2.2.2)⟩, ⟨30, (flat (kI .u8) vz_14.2.2.2.2)⟩]) ⟨le_of_eq (eg (ls rfl (ls rfl (ls rfl oz)))), le_of_eq (eg (ls rfl (ls rfl (ls rfl (os rfl oz))))), le_of_eq (eg (ls rfl (ls rfl (ls rfl (os rfl (os rfl oz)))))), le_of_eq (eg (ls rfl (ls rfl (ls rfl (os rfl (os rfl (os rfl oz))))))), le_of_eq (eg (ls rfl (ls rfl (ls rfl (os rfl (os rfl (os rfl (os rfl oz)))))))), le_of_eq (eg (ls rfl (ls rfl (ls rfl (os rfl (os rfl (os rfl (os rfl (os rfl oz))))))))), le_of_eq (eg lz), trivial⟩ (bnd_cons (sl_b kb_B) (bnd_cons (ptr_bnd _ (by first | omega | (simp only [List.length_append, List.length_cons, List.length_nil]; omega))) (bnd_cons (ptr_bnd _ (by first | omega | (simp only [List.length_append, List.length_cons, List.length_nil]; omega))) (bnd_cons (ptr_bnd _ (by first | omega | (simp only [List.length_append, List.length_cons, List.length_nil]; omega))) (bnd_cons (sl_b (kb_I _)) (bnd_cons (pl_bnd _ _ _) (bnd_cons (pl_bnd _ _ _) bnd_nil))))))) (Nat.le_of_ble_eq_true rfl) (by simp only [na, nb, nc, nd, nf, ng, nh, ni, nj, nk] <;> rfl) (bxle_same (bxle_same (bxle_same (bxle_same (bxle_same bxle_nil))))) rfl (by simp only [na, nb, nc, nd, nf, ng, nh, ni, nj, nk] <;> rfl) (bl_cons (bnd_cons ((mpf_bnd _ _) _ _) bnd_nil) (bl_cons (bnd_cons ((mpf_bnd _ _) _ _) bnd_nil) (bl_cons (bnd_cons (pl_bnd _ _ _) (bnd_cons (mref_bnd _ (by first | omega | (simp only [List.length_append, List.length_cons, List.length_nil]; omega))) (bnd_cons (mref_bnd _ (by first | omega | (simp only [List.length_append, List.length_cons, List.length_nil]; omega))) (bnd_cons (pl_bnd _ _ _) (bnd_cons (pl_bnd _ _ _) bnd_nil))))) (bl_cons (flatKB (kb_I _)) (bl_cons (flatKB (kb_I _)) bl_nil))))) ?_
                    exact ⟨m_z_26, Nat.lt_succ_self _, (vz_28.1, IntKind.i64.wrap (t_25.2 + 1)), ⟨le_of_eq (eg oz), le_of_eq (eg (os rfl oz)), le_of_eq (eg (os rfl (os rfl oz))), le_of_eq (eg (os rfl (os rfl (os rfl oz)))), le_of_eq (eg (os rfl (os rfl (os rfl (os rfl oz))))), le_of_eq (eg (os rfl (os rfl (os rfl (os rfl (os rfl oz)))))), le_of_eq (eg (os rfl (os rfl (os rfl (os rfl (os rfl (os rfl oz))))))), trivial⟩, rfl, hz_24⟩
              · skip
                replace hz_26 := ifb_f hz_26 hc
                clear hc
                refine aw_exit ?_
                obtain rfl := some_of hz_26
                replace hz_24 := ocs_r hz_24
                refine wk_no ?_
                refine wk_yesN rfl (l := [(15, sl (kI .i64) none none x_22), (16, pl (.int .i64 t_25.1))]) (bs' := [⟨HOT, [mpf KM_dev x_23.safe_]⟩, ⟨HOT, [mpf KM_dev x_23.waits_]⟩, ⟨160, [pl (.int .i64 x_23.pages_), mref (s.boxes.length + 0), mref (s.boxes.length + 1), pl (.int .i64 x_23.left_), pl (.bool x_23.down_)]⟩, ⟨30, (flat (kI .u8) vz_4.2.2.2.2)⟩, ⟨30, (flat (kI .u8) vz_14.2.2.2.2)⟩]) ⟨le_of_eq (eg (os rfl (os rfl (os rfl (os rfl oz))))), le_of_eq (eg (os rfl (os rfl (os rfl (os rfl (os rfl oz)))))), trivial⟩ (bnd_cons (sl_b (kb_I _)) (bnd_cons (pl_bnd _ _ _) bnd_nil)) (Nat.le_of_ble_eq_true rfl) (by simp only [na, nb, nc, nd, nf, ng, nh, ni, nj, nk] <;> rfl) (bxle_same (bxle_same (bxle_same (bxle_same (bxle_same bxle_nil))))) rfl (by simp only [na, nb, nc, nd, nf, ng, nh, ni, nj, nk] <;> rfl) (bl_cons (bnd_cons ((mpf_bnd _ _) _ _) bnd_nil) (bl_cons (bnd_cons ((mpf_bnd _ _) _ _) bnd_nil) (bl_cons (bnd_cons (pl_bnd _ _ _) (bnd_cons (mref_bnd _ (by first | omega | (simp only [List.length_append, List.length_cons, List.length_nil]; omega))) (bnd_cons (mref_bnd _ (by first | omega | (simp only [List.length_append, List.length_cons, List.length_nil]; omega))) (bnd_cons (pl_bnd _ _ _) (bnd_cons (pl_bnd _ _ _) bnd_nil))))) (bl_cons (flatKB (kb_I _)) (bl_cons (flatKB (kb_I _)) bl_nil))))) ?_
                exact ⟨t_25.1, ⟨le_of_eq (eg oz), le_of_eq (eg (os rfl oz)), trivial⟩, rfl, some_of hz_24⟩
            · rintro e st ⟨vz_24, hH, rfl, rfl⟩
              refine aw_keep _ hH ?_
              replace h0 := ocs_r h0
              refine aw_keep [(15, _), (16, _)] ⟨lg oz, lg (os rfl oz), trivial⟩ ?_
              refine aw_seq ?_
              refine aw_region (by decide) ?_
              refine rts _ rfl (opD_move (os rfl oz)) ?_
              refine rts _ rfl (opD_move (ls rfl oz)) ?_
              refine rts _ rfl (opD_len_sl Go.Proofs.Tryd.underlying36 lz) ?_
              refine rts _ rfl (opD_eql (ls rfl (ls rfl lz)) lz) ?_
              refine rts _ rfl (opD_move lz) ?_
              replace h0 := bnd_some h0
              obtain ⟨x_33, hx_33, h0⟩ := h0
              refine rtg _ rfl lz (fun hg36_5_175 => opD_call ht14_W5 (c_l4sure (gif_some hx_33 hg36_5_175) hst) trivial) ?_
              refine rts _ rfl (opD_and (ls rfl lz) lz) ?_
              refine rts _ rfl (opD_assign lz) ?_
              refine .nil ?_
              refine aw_keep [(6, _)] ⟨lg lz, trivial⟩ ?_
              refine aw_ret ?_
              obtain rfl := some_of h0
              exact done_ext (.inr rfl) ((res_one rfl (it_tmp oz)).le (Pd.le_refl _)) (pl_bnd _ _ _)

noncomputable def F_lDeviceCopies_b0 (p0 : (List (Int × Int))) (y_2 : Dev) (t_5 : Int × (At → Option (List Int)) × Int × Int × Bool) : Option ((Int × (At → Option (List Int)) × Int × Int × Bool) ⊕ ((Bool) ⊕ ((At → Option (List Int)) × Int × Int × Bool))) :=
  ifb (decide (t_5.1 < (p0.length : Int))) (ixb p0 t_5.1 fun x_7 => ixb p0 t_5.1 fun x_8 => bnd (F_l4sector x_8.2) fun x_9 => bnd (F_dWrite (⟨t_5.2.2.1, y_2.safe_, t_5.2.1, t_5.2.2.2.1, t_5.2.2.2.2⟩ : Dev) (IntKind.i64.wrap ((x_7.1.tmod 32))) x_9) fun x_10 => ifb x_10.1.isSome (some (.inr (.inl false))) (some (.inl (IntKind.i64.wrap (t_5.1 + 1), x_10.2.waits_, x_10.2.pages_, x_10.2.left_, x_10.2.down_)))) (some (.inr (.inr (t_5.2.1, t_5.2.2.1, t_5.2.2.2.1, t_5.2.2.2.2))))
noncomputable def F_lDeviceCopies_b1 (p1 : (List (Int × Int))) (p2 : Int) (x_12 : (Dev)) (t_17 : Int × Int × Int × Bool × (At → Option (List Int))) : Option ((Int × Int × Int × Bool × (At → Option (List Int))) ⊕ ((Bool) ⊕ (Int × Int × Bool × (At → Option (List Int))))) :=
  ifb (decide (t_17.1 < (p1.length : Int))) (ixb p1 t_17.1 fun x_19 => ixb p1 t_17.1 fun x_20 => bnd (F_l4sector x_20.2) fun x_21 => bnd (F_dWrite (⟨t_17.2.1, x_12.safe_, t_17.2.2.2.2, t_17.2.2.1, t_17.2.2.2.1⟩ : Dev) (IntKind.i64.wrap ((x_19.1.tmod 32))) x_21) fun x_22 => bnd (gif (((x_22.1.isNone != (decide (t_17.1 < (IntKind.i64.wrap (p2))))) == false) && (x_22.1.isSome == true)) (oNum04 x_22.1)) fun x_23 => ifb ((x_22.1.isNone != (decide (t_17.1 < (IntKind.i64.wrap (p2))))) || (x_22.1.isSome && (decide (x_23 ≠ 9)))) (some (.inr (.inl false))) (some (.inl (IntKind.i64.wrap (t_17.1 + 1), x_22.2.pages_, x_22.2.left_, x_22.2.down_, x_22.2.waits_)))) (some (.inr (.inr (t_17.2.1, t_17.2.2.1, t_17.2.2.2.1, t_17.2.2.2.2))))
noncomputable def F_lDeviceCopies_b2 (p0 : (List (Int × Int))) (t_27 : Int × (List Int)) : Option ((Int × (List Int)) ⊕ (((List Int)))) :=
  ifb (decide (t_27.1 < (p0.length : Int))) (ixb p0 t_27.1 fun x_29 => ixb p0 t_27.1 fun x_30 => grd (Below (x_29.1.tmod 32) 32) <| grd (Below (((x_29.1.tmod 32).toNat : Nat) : Int) t_27.2.length) <| some (.inl (IntKind.i64.wrap (t_27.1 + 1), (t_27.2.set ((x_29.1.tmod 32).toNat) x_30.2)))) (some (.inr t_27.2))
noncomputable def F_lDeviceCopies_b3 (y_2 : Dev) (vz_4 : (At → Option (List Int)) × Int × Int × Bool) (x_11 : (Dev)) (vz_26 : (List Int)) (t_32 : Int) : Option ((Int) ⊕ ((Bool) ⊕ (Unit))) :=
  ifb (decide (t_32 < 32)) (bnd (F_dRead (⟨x_11.pages_, y_2.safe_, vz_4.1, x_11.left_, x_11.down_⟩ : Dev) t_32) fun x_34 => grd ((x_34.2.isSome == false) = true → Below t_32 32) <| grd ((x_34.2.isSome == false) = true → Below ((t_32.toNat : Nat) : Int) vz_26.length) <| bnd (gif (x_34.2.isSome == false) (F_l4sector (vz_26.getD t_32.toNat default))) fun x_36 => ifb (x_34.2.isSome || (decide ((strOf x_34.1) ≠ (strOf x_36)))) (some (.inr (.inl false))) (some (.inl (IntKind.i64.wrap (t_32 + 1))))) (some (.inr (.inr ())))
noncomputable def F_lDeviceCopies (fl : Nat) (p0 : (List (Int × Int))) (p1 : (List (Int × Int))) (p2 : Int) : Option (Bool) :=
  bnd (F_dNew 4) fun x_1 => opc (x_1.1) (some false) (fun y_2 => ifb ((x_1.2.isSome || (decide (60 < (p0.length : Int)))) || (decide (60 < (p1.length : Int)))) (bnd (gif (x_1.2.isNone == true) (F_l4sure fl)) fun x_3 => some (x_1.2.isNone && x_3)) (bnd (lp (F_lDeviceCopies_b0 p0 y_2) fl (0, y_2.waits_, y_2.pages_, y_2.left_, y_2.down_)) fun z_4 => ocs z_4 (fun qz_4_0 => some qz_4_0) fun z_4_0 => bnd (F_dArm (⟨z_4_0.2.1, y_2.safe_, z_4_0.1, z_4_0.2.2.1, z_4_0.2.2.2⟩ : Dev) (IntKind.i64.wrap (p2))) fun x_11 => bnd (F_dCopy (⟨x_11.pages_, y_2.safe_, z_4_0.1, x_11.left_, x_11.down_⟩ : Dev)) fun x_12 => bnd (F_dWaiting x_12) fun x_13 => bnd (F_dWaiting (⟨x_11.pages_, y_2.safe_, z_4_0.1, x_11.left_, x_11.down_⟩ : Dev)) fun x_14 => bnd (F_l4ints fl x_13 x_14) fun x_15 => ifb (!x_15) (some false) (bnd (lp (F_lDeviceCopies_b1 p1 p2 x_12) fl (0, x_12.pages_, x_12.left_, x_12.down_, x_12.waits_)) fun z_16 => ocs z_16 (fun qz_16_0 => some qz_16_0) fun z_16_0 => bnd (F_dDown (⟨x_11.pages_, y_2.safe_, z_4_0.1, x_11.left_, x_11.down_⟩ : Dev)) fun x_24 => bnd (gif (x_24 == false) (F_dDown (⟨z_16_0.1, x_12.safe_, z_16_0.2.2.2, z_16_0.2.1, z_16_0.2.2.1⟩ : Dev))) fun x_25 => ifb (x_24 || (x_25 != (decide ((IntKind.i64.wrap (p2)) < (p1.length : Int))))) (some false) (bnd (lp (F_lDeviceCopies_b2 p0) fl (0, (List.replicate 32 (0 : Int)))) fun z_26 => bnd (lp (F_lDeviceCopies_b3 y_2 z_4_0 x_11 z_26) fl 0) fun z_31 => ocs z_31 (fun qz_31_0 => some qz_31_0) fun z_31_0 => bnd (F_l4sure fl) fun x_37 => some x_37))))
set_option maxRecDepth 100000 in
set_option maxHeartbeats 2000000 in
theorem c_lDeviceCopies {fl : Nat} {p0 : (List (Int × Int))} {p1 : (List (Int × Int))} {p2 : Int} {R : Bool} {s : St} (h0 : F_lDeviceCopies fl p0 p1 p2 = some R) (hst : StGV s) : AC Go.Proofs.Tryd.prog 4 [sl (kPair (kI .u8) (kI .u8)) none none p0, sl (kPair (kI .u8) (kI .u8)) none none p1, pl (.int .u8 p2)] s (pl (.bool R)) s := by
  unfold F_lDeviceCopies at h0
  refine ac_of_aw s.boxes.length s.fr.length Go.Proofs.Tryd.func4 rfl (by simp [Go.Proofs.Tryd.ntmps4]) ?_
  refine aw_ext0 ?_
  refine aw_keep [(0, _), (1, _), (2, _)] ⟨lg ez, lg (es ez), lg (es (es ez)), trivial⟩ ?_
  refine aw_seq ?_
  refine aw_region (by decide) ?_
  refine rts _ rfl (opD_assign (ev_const _ _)) ?_
  refine .nil ?_
  refine aw_keep [(0, _), (1, _), (2, _)] ⟨lg (ls rfl oz), lg (ls rfl (os rfl oz)), lg (ls rfl (os rfl (os rfl oz))), trivial⟩ ?_
  refine aw_seq ?_
  refine aw_region (by decide) ?_
  replace h0 := bnd_some h0
  obtain ⟨x_1, hx_1, h0⟩ := h0
  rcases opt_or (x_1.1) with hy_2 | ⟨y_2, hy_2⟩
  · skip
    replace h0 := opc_n h0 hy_2
    refine rts _ rfl (opD_call ht13_W5 (c_dNew_n hx_1 hy_2) ⟨le_of_eq (ev_const _ _), trivial⟩) ?_
    refine rts _ rfl (opD_move lz) ?_
    refine rts _ rfl (opD_extract lz rfl) ?_
    refine rts _ rfl (opD_extract (ls rfl lz) rfl) ?_
    refine rts _ rfl (opD_assign (ls rfl lz)) ?_
    refine rts _ rfl (opD_assign (ls rfl lz)) ?_
    refine .nil ?_
    refine aw_keep [(0, _), (1, _), (2, _), (7, _), (8, _)] ⟨lg (ls rfl (ls rfl (ls rfl (ls rfl (ls rfl (ls rfl oz)))))), lg (ls rfl (ls rfl (ls rfl (ls rfl (ls rfl (ls rfl (os rfl oz))))))), lg (ls rfl (ls rfl (ls rfl (ls rfl (ls rfl (ls rfl (os rfl (os rfl oz)))))))), lg (ls rfl lz), lg lz, trivial⟩ ?_
    refine aw_seq ?_
    refine aw_seq ?_
    refine aw_region (by decide) ?_
    refine rts _ rfl (opD_move (os rfl (os rfl (os rfl (os rfl oz))))) ?_
    refine rts _ rfl (opD_bin lz (ev_const _ _) (fun w => errV_guard _ w _) (fun w => errV_beq _ w)) ?_
    refine rts _ rfl (opD_move lz) ?_
    refine rtg _ rfl lz (fun hg2_3_1 => opD_move (ls rfl (ls rfl (ls rfl (os rfl (os rfl (os rfl oz))))))) ?_
    refine rtg _ rfl (ls rfl lz) (fun hg2_4_2 => opD_nilp_eqnil Go.Proofs.Tryd.underlying24 (lz.trans (pif_pos hg2_4_2))) ?_
    refine rts _ rfl (opD_ple (q := pl (.bool true)) (by simp only [Bool.or_true]) (opD_or (ls rfl (ls rfl lz)) lz)) ?_
    refine rts _ rfl (opD_move lz) ?_
    refine rtk ⟨_, rfl, .inl ⟨_, eg lz, rfl⟩⟩ ?_
    refine rtk ⟨_, rfl, .inl ⟨_, eg (ls rfl lz), rfl⟩⟩ ?_
    refine rtk ⟨_, rfl, .inl ⟨_, eg (ls rfl (ls rfl lz)), rfl⟩⟩ ?_
    refine rts _ rfl (opD_pickT (ls rfl (ls rfl (ls rfl lz))) (ev_const _ _)) ?_
    refine rts _ rfl (opD_move lz) ?_
    refine rtk ⟨_, rfl, .inl ⟨_, eg lz, rfl⟩⟩ ?_
    refine rtk ⟨_, rfl, .inl ⟨_, eg (ls rfl lz), rfl⟩⟩ ?_
    refine rtk ⟨_, rfl, .inl ⟨_, eg (ls rfl (ls rfl lz)), rfl⟩⟩ ?_
    refine rts _ rfl (opD_pickT (ls rfl (ls rfl (ls rfl lz))) (ev_const _ _)) ?_
    refine .nil ?_
    refine aw_keep [(0, _), (1, _), (2, _), (7, _), (8, _), (37, _)] ⟨lg (ls rfl (ls rfl (ls rfl (ls rfl (ls rfl (ls rfl (ls rfl (ls rfl (ls rfl (ls rfl (ls rfl (ls rfl (ls rfl (ls rfl (ls rfl (ls rfl oz)))))))))))))))), lg (ls rfl (ls rfl (ls rfl (ls rfl (ls rfl (ls rfl (ls rfl (ls rfl (ls rfl (ls rfl (ls rfl (ls rfl (ls rfl (ls rfl (ls rfl (ls rfl (os rfl oz))))))))))))))))), lg (ls rfl (ls rfl (ls rfl (ls rfl (ls rfl (ls rfl (ls rfl (ls rfl (ls rfl (ls rfl (ls rfl (ls rfl (ls rfl (ls rfl (ls rfl (ls rfl (os rfl (os rfl oz)))))))))))))))))), lg (ls rfl (ls rfl (ls rfl (ls rfl (ls rfl (ls rfl (ls rfl (ls rfl (ls rfl (ls rfl (ls rfl (ls rfl (ls rfl (ls rfl (ls rfl (ls rfl (os rfl (os rfl (os rfl oz))))))))))))))))))), lg (ls rfl (ls rfl (ls rfl (ls rfl (ls rfl (ls rfl (ls rfl (ls rfl (ls rfl (ls rfl (ls rfl (ls rfl (ls rfl (ls rfl (ls rfl (ls rfl (os rfl (os rfl (os rfl (os rfl oz)))))))))))))))))))), lg lz, trivial⟩ ?_
    refine aw_cond _ (os rfl (os rfl (os rfl (os rfl (os rfl oz))))) (fun hc => ?_) (fun hc => ?_)
    · skip
      refine aw_seq ?_
      refine aw_region (by decide) ?_
      refine rts _ rfl (opD_move (os rfl (os rfl (os rfl (os rfl oz))))) ?_
      refine rts _ rfl (opD_bin lz (ev_const _ _) (fun w => errV_geql _ w _) (fun w => errV_eql _ w)) ?_
      refine rts _ rfl (opD_move lz) ?_
      refine rtg _ rfl lz (fun hg3_3_3 => opD_move (ls rfl (ls rfl (ls rfl (os rfl (os rfl (os rfl oz))))))) ?_
      refine rtg _ rfl (ls rfl lz) (fun hg3_4_4 => opD_nilp_neqnil Go.Proofs.Tryd.underlying24 (lz.trans (pif_pos hg3_4_4))) ?_
      refine rts _ rfl (opD_ple (q := pl (.bool false)) (by simp only [Bool.and_false]) (opD_and (ls rfl (ls rfl lz)) lz)) ?_
      refine rts _ rfl (opD_move lz) ?_
      refine rtk ⟨_, rfl, .inl ⟨_, eg lz, rfl⟩⟩ ?_
      refine rts _ rfl (opD_pickF (ls rfl lz) (ev_const _ _)) ?_
      refine rts _ rfl (opD_assign lz) ?_
      refine .nil ?_
      refine aw_keep [(6, _)] ⟨lg lz, trivial⟩ ?_
      refine aw_ret ?_
      obtain rfl := some_of h0
      exact done_ext (.inr rfl) ((res_one rfl (it_tmp oz)).le (Pd.le_refl _)) (pl_bnd _ _ _)
    · skip
      cases hc
  · skip
    replace h0 := opc_s h0 hy_2
    refine rts _ rfl (opD_ple (q := tup [ptr (s.boxes.length + 2) 0, pl (errV x_1.2)]) rfl (opD_to (X' := s.ext [⟨HOT, [mpf KM_dev y_2.safe_]⟩, ⟨HOT, [mpf KM_dev y_2.waits_]⟩, ⟨160, [pl (.int .i64 y_2.pages_), mref (s.boxes.length + 0), mref (s.boxes.length + 1), pl (.int .i64 y_2.left_), pl (.bool y_2.down_)]⟩] []) (opD_call ht13_W5 (c_dNew_s hx_1 hy_2 (xlen rfl rfl)) ⟨le_of_eq (ev_const _ _), trivial⟩) (ul_new rfl (by simp only [na, nb, nc, nd, nf, ng, nh, ni, nj, nk] <;> rfl)))) ?_
    refine rts _ rfl (opD_move lz) ?_
    refine rts _ rfl (opD_extract lz rfl) ?_
    refine rts _ rfl (opD_extract (ls rfl lz) rfl) ?_
    refine rts _ rfl (opD_assign (ls rfl lz)) ?_
    refine rts _ rfl (opD_assign (ls rfl lz)) ?_
    refine .nil ?_
    refine aw_keep [(0, _), (1, _), (2, _), (7, _), (8, _)] ⟨lg (ls rfl (ls rfl (ls rfl (ls rfl (ls rfl (ls rfl oz)))))), lg (ls rfl (ls rfl (ls rfl (ls rfl (ls rfl (ls rfl (os rfl oz))))))), lg (ls rfl (ls rfl (ls rfl (ls rfl (ls rfl (ls rfl (os rfl (os rfl oz)))))))), lg (ls rfl lz), lg lz, trivial⟩ ?_
    refine aw_seq ?_
    refine aw_seq ?_
    refine aw_region (by decide) ?_
    refine rts _ rfl (opD_move (os rfl (os rfl (os rfl (os rfl oz))))) ?_
    refine rts _ rfl (opD_bin lz (ev_const _ _) (fun w => errV_guard _ w _) (fun w => errV_beq _ w)) ?_
    refine rts _ rfl (opD_move lz) ?_
    refine rtg _ rfl lz (fun hg2_3_5 => opD_move (ls rfl (ls rfl (ls rfl (os rfl (os rfl (os rfl oz))))))) ?_
    refine rtg _ rfl (ls rfl lz) (fun hg2_4_6 => opD_ptr_eqnil Go.Proofs.Tryd.underlying24 (lz.trans (pif_pos hg2_4_6))) ?_
    refine rts _ rfl (opD_ple (q := pl (.bool x_1.2.isSome)) (by simp only [Bool.or_false]) (opD_or (ls rfl (ls rfl lz)) lz)) ?_
    refine rts _ rfl (opD_move lz) ?_
    refine rtg _ rfl lz (fun hg2_7_7 => opD_move (ls rfl (ls rfl (ls rfl (ls rfl (ls rfl (ls rfl (ls rfl oz)))))))) ?_
    refine rtg _ rfl (ls rfl lz) (fun hg2_8_8 => opD_len_sl Go.Proofs.Tryd.underlying22 (lz.trans (pif_pos hg2_8_8))) ?_
    refine rtg _ rfl (ls rfl (ls rfl lz)) (fun hg2_9_9 => opD_gtr (lz.trans (pif_pos hg2_9_9)) (ev_const _ _)) ?_
    refine rts _ rfl (opD_or (ls rfl (ls rfl (ls rfl lz))) lz) ?_
    refine rts _ rfl (opD_move lz) ?_
    refine rtg _ rfl lz (fun hg2_12_10 => opD_move (ls rfl (ls rfl (ls rfl (ls rfl (ls rfl (ls rfl (ls rfl (ls rfl (ls rfl (ls rfl (ls rfl (ls rfl (os rfl oz)))))))))))))) ?_
    refine rtg _ rfl (ls rfl lz) (fun hg2_13_11 => opD_len_sl Go.Proofs.Tryd.underlying22 (lz.trans (pif_pos hg2_13_11))) ?_
    refine rtg _ rfl (ls rfl (ls rfl lz)) (fun hg2_14_12 => opD_gtr (lz.trans (pif_pos hg2_14_12)) (ev_const _ _)) ?_
    refine rts _ rfl (opD_or (ls rfl (ls rfl (ls rfl lz))) lz) ?_
    refine .nil ?_
    refine aw_keep [(0, _), (1, _), (2, _), (7, _), (8, _), (37, _)] ⟨lg (ls rfl (ls rfl (ls rfl (ls rfl (ls rfl (ls rfl (ls rfl (ls rfl (ls rfl (ls rfl (ls rfl (ls rfl (ls rfl (ls rfl (ls rfl (ls rfl oz)))))))))))))))), lg (ls rfl (ls rfl (ls rfl (ls rfl (ls rfl (ls rfl (ls rfl (ls rfl (ls rfl (ls rfl (ls rfl (ls rfl (ls rfl (ls rfl (ls rfl (ls rfl (os rfl oz))))))))))))))))), lg (ls rfl (ls rfl (ls rfl (ls rfl (ls rfl (ls rfl (ls rfl (ls rfl (ls rfl (ls rfl (ls rfl (ls rfl (ls rfl (ls rfl (ls rfl (ls rfl (os rfl (os rfl oz)))))))))))))))))), lg (ls rfl (ls rfl (ls rfl (ls rfl (ls rfl (ls rfl (ls rfl (ls rfl (ls rfl (ls rfl (ls rfl (ls rfl (ls rfl (ls rfl (ls rfl (ls rfl (os rfl (os rfl (os rfl oz))))))))))))))))))), lg (ls rfl (ls rfl (ls rfl (ls rfl (ls rfl (ls rfl (ls rfl (ls rfl (ls rfl (ls rfl (ls rfl (ls rfl (ls rfl (ls rfl (ls rfl (ls rfl (os rfl (os rfl (os rfl (os rfl oz)))))))))))))))))))), lg lz, trivial⟩ ?_
    refine aw_cond _ (os rfl (os rfl (os rfl (os rfl (os rfl oz))))) (fun hc => ?_) (fun hc => ?_)
    · skip
      replace h0 := ifb_t h0 hc
      clear hc
      refine aw_seq ?_
      refine aw_region (by decide) ?_
      refine rts _ rfl (opD_move (os rfl (os rfl (os rfl (os rfl oz))))) ?_
      refine rts _ rfl (opD_bin lz (ev_const _ _) (fun w => errV_geql _ w _) (fun w => errV_eql _ w)) ?_
      refine rts _ rfl (opD_move lz) ?_
      refine rtg _ rfl lz (fun hg3_3_13 => opD_move (ls rfl (ls rfl (ls rfl (os rfl (os rfl (os rfl oz))))))) ?_
      refine rtg _ rfl (ls rfl lz) (fun hg3_4_14 => opD_ptr_neqnil Go.Proofs.Tryd.underlying24 (lz.trans (pif_pos hg3_4_14))) ?_
      refine rts _ rfl (opD_ple (q := pl (.bool x_1.2.isNone)) (by simp only [Bool.and_true]) (opD_and (ls rfl (ls rfl lz)) lz)) ?_
      refine rts _ rfl (opD_move lz) ?_
      replace h0 := bnd_some h0
      obtain ⟨x_3, hx_3, h0⟩ := h0
      refine rtg _ rfl lz (fun hg3_7_15 => opD_call ht14_W5 (c_l4sure (gif_some hx_3 hg3_7_15) hst) trivial) ?_
      refine rts _ rfl (opD_and (ls rfl lz) lz) ?_
      refine rts _ rfl (opD_assign lz) ?_
      refine .nil ?_
      refine aw_keep [(6, _)] ⟨lg lz, trivial⟩ ?_
      refine aw_ret ?_
      obtain rfl := some_of h0
      exact done_ext (.inr rfl) ((res_one rfl (it_tmp oz)).le (Pd.le_refl _)) (pl_bnd _ _ _)
    · skip
      replace h0 := ifb_f h0 hc
      clear hc
      refine aw_skip ?_
      refine aw_keep [(0, _), (1, _), (2, _), (7, _)] ⟨lg oz, lg (os rfl oz), lg (os rfl (os rfl oz)), lg (os rfl (os rfl (os rfl oz))), trivial⟩ ?_
      refine aw_seq ?_
      refine aw_seq ?_
      refine aw_region (by decide) ?_
      refine rts _ rfl (opD_assign (ev_const _ _)) ?_
      refine .nil ?_
      refine aw_keep [(0, _), (1, _), (2, _), (7, _), (9, _)] ⟨lg (ls rfl oz), lg (ls rfl (os rfl oz)), lg (ls rfl (os rfl (os rfl oz))), lg (ls rfl (os rfl (os rfl (os rfl oz)))), lg lz, trivial⟩ ?_
      replace h0 := bnd_some h0
      obtain ⟨z_4, hz_4, h0⟩ := h0
      refine aw_mid (fun e st => ∃ v : (At → Option (List Int)) × Int × Int × Bool, Holds e [(0, sl (kPair (kI .u8) (kI .u8)) none none p0), (1, sl (kPair (kI .u8) (kI .u8)) none none p1), (2, pl (.int .u8 p2)), (7, ptr (s.boxes.length + 2) 0)] ∧ st = s.ext [⟨HOT, [mpf KM_dev y_2.safe_]⟩, ⟨HOT, [mpf KM_dev v.1]⟩, ⟨160, [pl (.int .i64 v.2.1), mref (s.boxes.length + 0), mref (s.boxes.length + 1), pl (.int .i64 v.2.2.1), pl (.bool v.2.2.2)]⟩] [] ∧ (.inr v) = z_4) ?_ ?_
      · skip
        refine aw_wkN rfl 3 0 rfl rfl ?_
        refine aw_block ?_
        refine aw_loop (fun n e st => ∃ v : Int × (At → Option (List Int)) × Int × Int × Bool, Holds e [(0, sl (kPair (kI .u8) (kI .u8)) none none p0), (1, sl (kPair (kI .u8) (kI .u8)) none none p1), (2, pl (.int .u8 p2)), (7, ptr (s.boxes.length + 2) 0), (9, pl (.int .i64 v.1))] ∧ st = s.ext [⟨HOT, [mpf KM_dev y_2.safe_]⟩, ⟨HOT, [mpf KM_dev v.2.1]⟩, ⟨160, [pl (.int .i64 v.2.2.1), mref (s.boxes.length + 0), mref (s.boxes.length + 1), pl (.int .i64 v.2.2.2.1), pl (.bool v.2.2.2.2)]⟩] [] ∧ lp (F_lDeviceCopies_b0 p0 y_2) n v = some z_4) fl ⟨(0, y_2.waits_, y_2.pages_, y_2.left_, y_2.down_), ⟨le_of_eq (eg oz), le_of_eq (eg (os rfl oz)), le_of_eq (eg (os rfl (os rfl oz))), le_of_eq (eg (os rfl (os rfl (os rfl oz)))), le_of_eq (eg (os rfl (os rfl (os rfl (os rfl oz))))), trivial⟩, rfl, hz_4⟩ ?_
        rintro n e st ⟨t_5, hH, rfl, hz_4⟩
        replace hz_4 := lp_some hz_4
        obtain ⟨m_z_6, z_6, rfl, hz_6, hz_4⟩ := hz_4
        unfold F_lDeviceCopies_b0 at hz_6
        refine aw_keep _ hH ?_
        refine aw_wkN rfl 3 0 rfl rfl ?_
        refine aw_seq ?_
        refine aw_seq ?_
        refine aw_region (by decide) ?_
        refine rts _ rfl (opD_move (os rfl (os rfl (os rfl (os rfl oz))))) ?_
        refine rts _ rfl (opD_move (ls rfl oz)) ?_
        refine rts _ rfl (opD_len_sl Go.Proofs.Tryd.underlying22 lz) ?_
        refine rts _ rfl (opD_lss (ls rfl (ls rfl lz)) lz) ?_
        refine .nil ?_
        refine aw_keep [(0, _), (1, _), (2, _), (7, _), (9, _), (50, _)] ⟨lg (ls rfl (ls rfl (ls rfl (ls rfl oz)))), lg (ls rfl (ls rfl (ls rfl (ls rfl (os rfl oz))))), lg (ls rfl (ls rfl (ls rfl (ls rfl (os rfl (os rfl oz)))))), lg (ls rfl (ls rfl (ls rfl (ls rfl (os rfl (os rfl (os rfl oz))))))), lg (ls rfl (ls rfl (ls rfl (ls rfl (os rfl (os rfl (os rfl (os rfl oz)))))))), lg lz, trivial⟩ ?_
        refine aw_cond _ (os rfl (os rfl (os rfl (os rfl (os rfl oz))))) (fun hc => ?_) (fun hc => ?_)
        · skip
          replace hz_6 := ifb_t hz_6 hc
          clear hc
          refine aw_skip ?_
          refine aw_keep [(0, _), (1, _), (2, _), (7, _), (9, _)] ⟨lg oz, lg (os rfl oz), lg (os rfl (os rfl oz)), lg (os rfl (os rfl (os rfl oz))), lg (os rfl (os rfl (os rfl (os rfl oz)))), trivial⟩ ?_
          refine aw_seq ?_
          refine aw_block ?_
          refine aw_seq ?_
          refine aw_drawn [false, false, false, false, false, false, false, false, false, false, false, false, false, false, true, false] [[0], [0], [0], [0], [0], [0], [0], [0], [0], [0], [0], [0], [0], [0], [0, 1], [1]] mixed_W5 (by decide +kernel) ?_
          refine dtp _ rfl (fun s => opD_move (os rfl (os rfl (os rfl oz)))) ?_
          refine dtp _ rfl (fun s => opD_move (ls rfl oz)) ?_
          refine dtp _ rfl (fun s => opD_move (ls rfl (ls rfl (os rfl (os rfl (os rfl (os rfl oz))))))) ?_
          replace hz_6 := ixb_some hz_6
          obtain ⟨x_7, hx_7, hbx_7, hz_6⟩ := hz_6
          refine dtp _ rfl (fun s => opD_indexAddr_sl (i := t_5.1.toNat) Go.Proofs.Tryd.underlying22 sz31_W5 (ls rfl lz) lz hbx_7.2.2 hbx_7.2.1) ?_
          refine dtp _ rfl (fun s => opD_ple (q := el (kPair (kI .u8) (kI .u8)) p0 t_5.1.toNat 0) rfl (opD_indexAddr_el (i := 0) Go.Proofs.Tryd.underlying31 sz5_W5 lz (ev_const _ _) rfl (by decide))) ?_
          refine dtp _ rfl (fun s => opD_load_el_one ag5_W5 lz hx_7 rfl) ?_
          refine dtp _ rfl (fun s => opD_rem lz (ev_const _ _) (by decide) rfl) ?_
          refine dtp _ rfl (fun s => opD_conv_int Go.Proofs.Tryd.underlying5 Go.Proofs.Tryd.underlying3 lz rfl) ?_
          refine dtp _ rfl (fun s => opD_move (ls rfl (ls rfl (ls rfl (ls rfl (ls rfl (ls rfl (ls rfl (ls rfl oz))))))))) ?_
          refine dtp _ rfl (fun s => opD_move (ls rfl (ls rfl (ls rfl (ls rfl (ls rfl (ls rfl (ls rfl (ls rfl (ls rfl (os rfl (os rfl (os rfl (os rfl oz)))))))))))))) ?_
          replace hz_6 := ixb_some hz_6
          obtain ⟨x_8, hx_8, hbx_8, hz_6⟩ := hz_6
          refine dtp _ rfl (fun s => opD_indexAddr_sl (i := t_5.1.toNat) Go.Proofs.Tryd.underlying22 sz31_W5 (ls rfl lz) lz hbx_8.2.2 hbx_8.2.1) ?_
          refine dtp _ rfl (fun s => opD_ple (q := el (kPair (kI .u8) (kI .u8)) p0 t_5.1.toNat 1) rfl (opD_indexAddr_el (i := 1) Go.Proofs.Tryd.underlying31 sz5_W5 lz (ev_const _ _) rfl (by decide))) ?_
          refine dtp _ rfl (fun s => opD_load_el_one ag5_W5 lz hx_8 rfl) ?_
          replace hz_6 := bnd_some hz_6
          obtain ⟨x_9, hx_9, hz_6⟩ := hz_6
          refine dtp _ rfl (fun s => opD_pure ht16_W5 (c_l4sector hx_9) ⟨le_of_eq lz, trivial⟩) ?_
          replace hz_6 := bnd_some hz_6
          obtain ⟨x_10, hx_10, hz_6⟩ := hz_6
          refine dta _ rfl (opD_ple (q := pl (errV x_10.1)) rfl (opD_to (X' := s.ext [⟨HOT, [mpf KM_dev y_2.safe_]⟩, ⟨HOT, [mpf KM_dev x_10.2.waits_]⟩, ⟨160, [pl (.int .i64 x_10.2.pages_), mref (s.boxes.length + 0), mref (s.boxes.length + 1), pl (.int .i64 x_10.2.left_), pl (.bool x_10.2.down_)]⟩] []) (opD_call ht15_W5 (c_dWrite hx_10 (ud_len (m := 3) rfl rfl ⟨by omega, ⟨by omega, ⟨by omega, trivial⟩⟩, ⟨by omega, ⟨by omega, trivial⟩, ⟨by omega, trivial, trivial⟩⟩⟩) (loc_getN rfl rfl) (loc_getN rfl rfl) (loc_getN rfl rfl) (Pd.le_refl _) (mpf_bnd _ _)) ⟨le_of_eq (ls rfl (ls rfl (ls rfl (ls rfl (ls rfl (ls rfl (ls rfl (ls rfl (ls rfl (ls rfl (ls rfl (ls rfl (ls rfl lz))))))))))))), le_of_eq (ls rfl (ls rfl (ls rfl (ls rfl (ls rfl (ls rfl lz)))))), le_of_eq lz, trivial⟩) (ul_loc (k := 0) rfl (ul_loc (k := 1) rfl (ul_loc (k := 2) rfl rfl (by simp only [na, nb, nc, nd, nf, ng, nh, ni, nj, nk] <;> rfl)) (by simp only [na, nb, nc, nd, nf, ng, nh, ni, nj, nk] <;> rfl)) (by simp only [na, nb, nc, nd, nf, ng, nh, ni, nj, nk] <;> rfl)))) ?_
          refine dtp _ rfl (fun s => opD_bin lz (ev_const _ _) (fun w => errV_guard _ w _) (fun w => errV_beq _ w)) ?_
          refine .nil ?_
          dsimp only [List.nil_append, List.cons_append]
          refine ⟨rfl, ⟨trivial, trivial, trivial, trivial, trivial, trivial, trivial, trivial, trivial, trivial, trivial, trivial, trivial, trivial, trivial, trivial, trivial⟩, ?_⟩
          refine aw_keep [(0, _), (1, _), (2, _), (7, _), (9, _), (68, _)] ⟨lg (ls rfl (ls rfl (ls rfl (ls rfl (ls rfl (ls rfl (ls rfl (ls rfl (ls rfl (ls rfl (ls rfl (ls rfl (ls rfl (ls rfl (ls rfl (ls rfl oz)))))))))))))))), lg (ls rfl (ls rfl (ls rfl (ls rfl (ls rfl (ls rfl (ls rfl (ls rfl (ls rfl (ls rfl (ls rfl (ls rfl (ls rfl (ls rfl (ls rfl (ls rfl (os rfl oz))))))))))))))))), lg (ls rfl (ls rfl (ls rfl (ls rfl (ls rfl (ls rfl (ls rfl (ls rfl (ls rfl (ls rfl (ls rfl (ls rfl (ls rfl (ls rfl (ls rfl (ls rfl (os rfl (os rfl oz)))))))))))))))))), lg (ls rfl (ls rfl (ls rfl (ls rfl (ls rfl (ls rfl (ls rfl (ls rfl (ls rfl (ls rfl (ls rfl (ls rfl (ls rfl (ls rfl (ls rfl (ls rfl (os rfl (os rfl (os rfl oz))))))))))))))))))), lg (ls rfl (ls rfl (ls rfl (ls rfl (ls rfl (ls rfl (ls rfl (ls rfl (ls rfl (ls rfl (ls rfl (ls rfl (ls rfl (ls rfl (ls rfl (ls rfl (os rfl (os rfl (os rfl (os rfl oz)))))))))))))))))))), lg lz, trivial⟩ ?_
          refine aw_cond _ (os rfl (os rfl (os rfl (os rfl (os rfl oz))))) (fun hc => ?_) (fun hc => ?_)
          · skip
            replace hz_6 := ifb_t hz_6 hc
            clear hc
            refine aw_seq ?_
            refine aw_region (by decide) ?_
            refine rts _ rfl (opD_assign (ev_const _ _)) ?_
            refine .nil ?_
            refine aw_keep [(6, _)] ⟨lg lz, trivial⟩ ?_
            refine aw_ret ?_
            obtain rfl := some_of hz_6
            replace hz_4 := ocs_r hz_4
            obtain rfl := some_of hz_4
            replace h0 := ocs_l h0
            refine wk_no ?_
            refine wk_no ?_
            obtain rfl := some_of h0
            exact done_ext (.inr rfl) ((res_one rfl (it_tmp oz)).le (Pd.le_refl _)) (pl_bnd _ _ _)
          · skip
            replace hz_6 := ifb_f hz_6 hc
            clear hc
            refine aw_skip ?_
            refine aw_keep [(0, _), (1, _), (2, _), (7, _), (9, _)] ⟨lg oz, lg (os rfl oz), lg (os rfl (os rfl oz)), lg (os rfl (os rfl (os rfl oz))), lg (os rfl (os rfl (os rfl (os rfl oz)))), trivial⟩ ?_
            refine aw_region (by decide) ?_
            refine rts _ rfl (opD_move (os rfl (os rfl (os rfl (os rfl oz))))) ?_
            refine rts _ rfl (opD_add lz (ev_const _ _) rfl) ?_
            refine rts _ rfl (opD_assign lz) ?_
            refine .nil ?_
            obtain rfl := some_of hz_6
            replace hz_4 := ocs_l hz_4
            refine wk_yesN rfl (l := [(0, sl (kPair (kI .u8) (kI .u8)) none none p0), (1, sl (kPair (kI .u8) (kI .u8)) none none p1), (2, pl (.int .u8 p2)), (7, ptr (s.boxes.length + 2) 0), (9, pl (.int .i64 (IntKind.i64.wrap (t_5.1 + 1))))]) (bs' := [⟨HOT, [mpf KM_dev y_2.safe_]⟩, ⟨HOT, [mpf KM_dev x_10.2.waits_]⟩, ⟨160, [pl (.int .i64 x_10.2.pages_), mref (s.boxes.length + 0), mref (s.boxes.length + 1), pl (.int .i64 x_10.2.left_), pl (.bool x_10.2.down_)]⟩]) ⟨le_of_eq (eg (ls rfl (ls rfl (ls rfl oz)))), le_of_eq (eg (ls rfl (ls rfl (ls rfl (os rfl oz))))), le_of_eq (eg (ls rfl (ls rfl (ls rfl (os rfl (os rfl oz)))))), le_of_eq (eg (ls rfl (ls rfl (ls rfl (os rfl (os rfl (os rfl oz))))))), le_of_eq (eg lz), trivial⟩ (bnd_cons (sl_b (kb_pair (kb_I _) (kb_I _))) (bnd_cons (sl_b (kb_pair (kb_I _) (kb_I _))) (bnd_cons (pl_bnd _ _ _) (bnd_cons (ptr_bnd _ (by first | omega | (simp only [List.length_append, List.length_cons, List.length_nil]; omega))) (bnd_cons (pl_bnd _ _ _) bnd_nil))))) (Nat.le_of_ble_eq_true rfl) (by simp only [na, nb, nc, nd, nf, ng, nh, ni, nj, nk] <;> rfl) (bxle_same (bxle_same (bxle_same bxle_nil))) rfl (by simp only [na, nb, nc, nd, nf, ng, nh, ni, nj, nk] <;> rfl) (bl_cons (bnd_cons ((mpf_bnd _ _) _ _) bnd_nil) (bl_cons (bnd_cons ((mpf_bnd _ _) _ _) bnd_nil) (bl_cons (bnd_cons (pl_bnd _ _ _) (bnd_cons (mref_bnd _ (by first | omega | (simp only [List.length_append, List.length_cons, List.length_nil]; omega))) (bnd_cons (mref_bnd _ (by first | omega | (simp only [List.length_append, List.length_cons, List.length_nil]; omega))) (bnd_cons (pl_bnd _ _ _) (bnd_cons (pl_bnd _ _ _) bnd_nil))))) bl_nil))) ?_
            exact ⟨m_z_6, Nat.lt_succ_self _, (IntKind.i64.wrap (t_5.1 + 1), x_10.2.waits_, x_10.2.pages_, x_10.2.left_, x_10.2.down_), ⟨le_of_eq (eg oz), le_of_eq (eg (os rfl oz)), le_of_eq (eg (os rfl (os rfl oz))), le_of_eq (eg (os rfl (os rfl (os rfl oz)))), le_of_eq (eg (os rfl (os rfl (os rfl (os rfl oz))))), trivial⟩, rfl, hz_4⟩
        · skip
          replace hz_6 := ifb_f hz_6 hc
          clear hc
          refine aw_exit ?_
          obtain rfl := some_of hz_6
          replace hz_4 := ocs_r hz_4
          refine wk_no ?_
          refine wk_yesN rfl (l := [(0, sl (kPair (kI .u8) (kI .u8)) none none p0), (1, sl (kPair (kI .u8) (kI .u8)) none none p1), (2, pl (.int .u8 p2)), (7, ptr (s.boxes.length + 2) 0)]) (bs' := [⟨HOT, [mpf KM_dev y_2.safe_]⟩, ⟨HOT, [mpf KM_dev t_5.2.1]⟩, ⟨160, [pl (.int .i64 t_5.2.2.1), mref (s.boxes.length + 0), mref (s.boxes.length + 1), pl (.int .i64 t_5.2.2.2.1), pl (.bool t_5.2.2.2.2)]⟩]) ⟨le_of_eq (eg oz), le_of_eq (eg (os rfl oz)), le_of_eq (eg (os rfl (os rfl oz))), le_of_eq (eg (os rfl (os rfl (os rfl oz)))), trivial⟩ (bnd_cons (sl_b (kb_pair (kb_I _) (kb_I _))) (bnd_cons (sl_b (kb_pair (kb_I _) (kb_I _))) (bnd_cons (pl_bnd _ _ _) (bnd_cons (ptr_bnd _ (by first | omega | (simp only [List.length_append, List.length_cons, List.length_nil]; omega))) bnd_nil)))) (Nat.le_of_ble_eq_true rfl) (by simp only [na, nb, nc, nd, nf, ng, nh, ni, nj, nk] <;> rfl) (bxle_same (bxle_same (bxle_same bxle_nil))) rfl (by simp only [na, nb, nc, nd, nf, ng, nh, ni, nj, nk] <;> rfl) (bl_cons (bnd_cons ((mpf_bnd _ _) _ _) bnd_nil) (bl_cons (bnd_cons ((mpf_bnd _ _) _ _) bnd_nil) (bl_cons (bnd_cons (pl_bnd _ _ _) (bnd_cons (mref_bnd _ (by first | omega | (simp only [List.length_append, List.length_cons, List.length_nil]; omega))) (bnd_cons (mref_bnd _ (by first | omega | (simp only [List.length_append, List.length_cons, List.length_nil]; omega))) (bnd_cons (pl_bnd _ _ _) (bnd_cons (pl_bnd _ _ _) bnd_nil))))) bl_nil))) ?_
          exact ⟨(t_5.2.1, t_5.2.2.1, t_5.2.2.2.1, t_5.2.2.2.2), ⟨le_of_eq (eg oz), le_of_eq (eg (os rfl oz)), le_of_eq (eg (os rfl (os rfl oz))), le_of_eq (eg (os rfl (os rfl (os rfl oz)))), trivial⟩, rfl, some_of hz_4⟩
      · rintro e st ⟨vz_4, hH, rfl, rfl⟩
        refine aw_keep _ hH ?_
        replace h0 := ocs_r h0
        refine aw_keep [(0, _), (1, _), (2, _), (7, _)] ⟨lg oz, lg (os rfl oz), lg (os rfl (os rfl oz)), lg (os rfl (os rfl (os rfl oz))), trivial⟩ ?_
        refine aw_seq ?_
        refine aw_region (by decide) ?_
        refine rts _ rfl (opD_move (os rfl (os rfl (os rfl oz)))) ?_
        refine rts _ rfl (opD_move (ls rfl (os rfl (os rfl oz)))) ?_
        refine rts _ rfl (opD_conv_int Go.Proofs.Tryd.underlying5 Go.Proofs.Tryd.underlying3 lz rfl) ?_
        replace h0 := bnd_some h0
        obtain ⟨x_11, hx_11, h0⟩ := h0
        refine rts _ rfl (opD_ple (q := pl (.tuple #[])) rfl (opD_to (X' := s.ext [⟨HOT, [mpf KM_dev y_2.safe_]⟩, ⟨HOT, [mpf KM_dev vz_4.1]⟩, ⟨160, [pl (.int .i64 x_11.pages_), mref (s.boxes.length + 0), mref (s.boxes.length + 1), pl (.int .i64 x_11.left_), pl (.bool x_11.down_)]⟩] []) (opD_call ht21_W5 (c_dArm hx_11 (ud_len (m := 3) rfl rfl ⟨by omega, ⟨by omega, ⟨by omega, trivial⟩⟩, ⟨by omega, ⟨by omega, trivial⟩, ⟨by omega, trivial, trivial⟩⟩⟩) (loc_getN rfl rfl) (loc_getN rfl rfl) (loc_getN rfl rfl) (Pd.le_refl _) (mpf_bnd _ _) (Pd.le_refl _) (mpf_bnd _ _)) ⟨le_of_eq (ls rfl (ls rfl lz)), le_of_eq lz, trivial⟩) (ul_loc (k := 0) rfl (ul_loc (k := 1) rfl (ul_loc (k := 2) rfl rfl (by simp only [na, nb, nc, nd, nf, ng, nh, ni, nj, nk] <;> rfl)) (by simp only [na, nb, nc, nd, nf, ng, nh, ni, nj, nk] <;> rfl)) (by simp only [na, nb, nc, nd, nf, ng, nh, ni, nj, nk] <;> rfl)))) ?_
        refine .nil ?_
        refine aw_keep [(0, _), (1, _), (2, _), (7, _)] ⟨lg (ls rfl (ls rfl (ls rfl (ls rfl oz)))), lg (ls rfl (ls rfl (ls rfl (ls rfl (os rfl oz))))), lg (ls rfl (ls rfl (ls rfl (ls rfl (os rfl (os rfl oz)))))), lg (ls rfl (ls rfl (ls rfl (ls rfl (os rfl (os rfl (os rfl oz))))))), trivial⟩ ?_
        refine aw_seq ?_
        refine aw_region (by decide) ?_
        refine rts _ rfl (opD_move (os rfl (os rfl (os rfl oz)))) ?_
        replace h0 := bnd_some h0
        obtain ⟨x_12, hx_12, h0⟩ := h0
        refine rts _ rfl (opD_ple (q := ptr (s.boxes.length + 3) 0) rfl (opD_to (X' := s.ext [⟨HOT, [mpf KM_dev y_2.safe_]⟩, ⟨HOT, [mpf KM_dev vz_4.1]⟩, ⟨160, [pl (.int .i64 x_11.pages_), mref (s.boxes.length + 0), mref (s.boxes.length + 1), pl (.int .i64 x_11.left_), pl (.bool x_11.down_)]⟩, ⟨160, [pl (.int .i64 x_12.pages_), mref (s.boxes.length + 4), mref (s.boxes.length + 5), pl (.int .i64 x_12.left_), pl (.bool x_12.down_)]⟩, ⟨HOT, [mpf KM_dev x_12.safe_]⟩, ⟨HOT, [mpf KM_dev x_12.waits_]⟩] []) (opD_call ht22_W5 (c_dCopy hx_12 (xlen rfl rfl) (ud_len (m := 3) rfl rfl ⟨by omega, ⟨by omega, ⟨by omega, trivial⟩⟩, ⟨by omega, ⟨by omega, trivial⟩, ⟨by omega, trivial, trivial⟩⟩⟩) (loc_getN rfl rfl) (loc_getN rfl rfl) (loc_getN rfl rfl) (Pd.le_refl _) (mpf_bnd _ _) (Pd.le_refl _) (mpf_bnd _ _)) ⟨le_of_eq lz, trivial⟩) (ul_new rfl (by simp only [na, nb, nc, nd, nf, ng, nh, ni, nj, nk] <;> rfl)))) ?_
        refine rts _ rfl (opD_assign lz) ?_
        refine .nil ?_
        refine aw_keep [(0, _), (1, _), (2, _), (7, _), (10, _)] ⟨lg (ls rfl (ls rfl (ls rfl oz))), lg (ls rfl (ls rfl (ls rfl (os rfl oz)))), lg (ls rfl (ls rfl (ls rfl (os rfl (os rfl oz))))), lg (ls rfl (ls rfl (ls rfl (os rfl (os rfl (os rfl oz)))))), lg lz, trivial⟩ ?_
        refine aw_seq ?_
        refine aw_seq ?_
        refine aw_region (by decide) ?_
        refine rts _ rfl (opD_move (os rfl (os rfl (os rfl (os rfl oz))))) ?_
        refine rts _ rfl (opD_ptr_eqnil Go.Proofs.Tryd.underlying24 lz) ?_
        refine rts _ rfl (opD_move lz) ?_
        refine rts _ ⟨_, rfl, .inl ⟨_, eg lz, rfl⟩⟩ (opD_move (ls rfl (ls rfl (ls rfl (os rfl (os rfl (os rfl (os rfl oz)))))))) ?_
        replace h0 := bnd_some h0
        obtain ⟨x_13, hx_13, h0⟩ := h0
        refine rts _ ⟨_, rfl, .inl ⟨_, eg (ls rfl lz), rfl⟩⟩ (opD_call ht18_W5 (c_dWaiting hx_13 (ud_len (m := 6) rfl rfl ⟨by omega, ⟨by omega, ⟨by omega, trivial⟩⟩, ⟨by omega, ⟨by omega, trivial⟩, ⟨by omega, trivial, trivial⟩⟩⟩) (loc_getN rfl rfl) (loc_getN rfl rfl) (loc_getN rfl rfl) (Pd.le_refl _) (mpf_bnd _ _) (Pd.le_refl _) (mpf_bnd _ _)) ⟨le_of_eq lz, trivial⟩) ?_
        refine rts _ ⟨_, rfl, .inl ⟨_, eg (ls rfl (ls rfl lz)), rfl⟩⟩ (opD_move (ls rfl (ls rfl (ls rfl (ls rfl (ls rfl (os rfl (os rfl (os rfl oz))))))))) ?_
        replace h0 := bnd_some h0
        obtain ⟨x_14, hx_14, h0⟩ := h0
        refine rts _ ⟨_, rfl, .inl ⟨_, eg (ls rfl (ls rfl (ls rfl lz))), rfl⟩⟩ (opD_call ht18_W5 (c_dWaiting hx_14 (ud_len (m := 6) rfl rfl ⟨by omega, ⟨by omega, ⟨by omega, trivial⟩⟩, ⟨by omega, ⟨by omega, trivial⟩, ⟨by omega, trivial, trivial⟩⟩⟩) (loc_getN rfl rfl) (loc_getN rfl rfl) (loc_getN rfl rfl) (Pd.le_refl _) (mpf_bnd _ _) (Pd.le_refl _) (mpf_bnd _ _)) ⟨le_of_eq lz, trivial⟩) ?_
        replace h0 := bnd_some h0
        obtain ⟨x_15, hx_15, h0⟩ := h0
        refine rts _ ⟨_, rfl, .inl ⟨_, eg (ls rfl (ls rfl (ls rfl (ls rfl lz)))), rfl⟩⟩ (opD_pure ht23_W5 (c_l4ints hx_15) ⟨le_of_eq (ls rfl (ls rfl lz)), le_of_eq lz, trivial⟩) ?_
        refine rts _ ⟨_, rfl, .inl ⟨_, eg (ls rfl (ls rfl (ls rfl (ls rfl (ls rfl lz))))), rfl⟩⟩ (opD_not lz) ?_
        refine rts _ rfl (opD_pickF (ls rfl (ls rfl (ls rfl (ls rfl (ls rfl (ls rfl lz)))))) lz) ?_
        refine .nil ?_
        refine aw_keep [(0, _), (1, _), (2, _), (7, _), (10, _), (84, _)] ⟨lg (ls rfl (ls rfl (ls rfl (ls rfl (ls rfl (ls rfl (ls rfl (ls rfl (ls rfl (ls rfl oz)))))))))), lg (ls rfl (ls rfl (ls rfl (ls rfl (ls rfl (ls rfl (ls rfl (ls rfl (ls rfl (ls rfl (os rfl oz))))))))))), lg (ls rfl (ls rfl (ls rfl (ls rfl (ls rfl (ls rfl (ls rfl (ls rfl (ls rfl (ls rfl (os rfl (os rfl oz)))))))))))), lg (ls rfl (ls rfl (ls rfl (ls rfl (ls rfl (ls rfl (ls rfl (ls rfl (ls rfl (ls rfl (os rfl (os rfl (os rfl oz))))))))))))), lg (ls rfl (ls rfl (ls rfl (ls rfl (ls rfl (ls rfl (ls rfl (ls rfl (ls rfl (ls rfl (os rfl (os rfl (os rfl (os rfl oz)))))))))))))), lg lz, trivial⟩ ?_
        refine aw_cond _ (os rfl (os rfl (os rfl (os rfl (os rfl oz))))) (fun hc => ?_) (fun hc => ?_)
        · skip
          replace h0 := ifb_t h0 hc
          clear hc
          refine aw_seq ?_
          refine aw_region (by decide) ?_
          refine rts _ rfl (opD_assign (ev_const _ _)) ?_
          refine .nil ?_
          refine aw_keep [(6, _)] ⟨lg lz, trivial⟩ ?_
          refine aw_ret ?_
          obtain rfl := some_of h0
          exact done_ext (.inr rfl) ((res_one rfl (it_tmp oz)).le (Pd.le_refl _)) (pl_bnd _ _ _)
        · skip
          replace h0 := ifb_f h0 hc
          clear hc
          refine aw_skip ?_
          refine aw_keep [(0, _), (1, _), (2, _), (7, _), (10, _)] ⟨lg oz, lg (os rfl oz), lg (os rfl (os rfl oz)), lg (os rfl (os rfl (os rfl oz))), lg (os rfl (os rfl (os rfl (os rfl oz)))), trivial⟩ ?_
          refine aw_seq ?_
          refine aw_seq ?_
          refine aw_region (by decide) ?_
          refine rts _ rfl (opD_assign (ev_const _ _)) ?_
          refine .nil ?_
          refine aw_keep [(0, _), (1, _), (2, _), (7, _), (10, _), (11, _)] ⟨lg (ls rfl oz), lg (ls rfl (os rfl oz)), lg (ls rfl (os rfl (os rfl oz))), lg (ls rfl (os rfl (os rfl (os rfl oz)))), lg (ls rfl (os rfl (os rfl (os rfl (os rfl oz))))), lg lz, trivial⟩ ?_
          replace h0 := bnd_some h0
          obtain ⟨z_16, hz_16, h0⟩ := h0
          refine aw_mid (fun e st => ∃ v : Int × Int × Bool × (At → Option (List Int)), Holds e [(0, sl (kPair (kI .u8) (kI .u8)) none none p0), (1, sl (kPair (kI .u8) (kI .u8)) none none p1), (2, pl (.int .u8 p2)), (7, ptr (s.boxes.length + 2) 0), (10, ptr (s.boxes.length + 3) 0)] ∧ st = s.ext [⟨HOT, [mpf KM_dev y_2.safe_]⟩, ⟨HOT, [mpf KM_dev vz_4.1]⟩, ⟨160, [pl (.int .i64 x_11.pages_), mref (s.boxes.length + 0), mref (s.boxes.length + 1), pl (.int .i64 x_11.left_), pl (.bool x_11.down_)]⟩, ⟨160, [pl (.int .i64 v.1), mref (s.boxes.length + 4), mref (s.boxes.length + 5), pl (.int .i64 v.2.1), pl (.bool v.2.2.1)]⟩, ⟨HOT, [mpf KM_dev x_12.safe_]⟩, ⟨HOT, [mpf KM_dev v.2.2.2]⟩] [] ∧ (.inr v) = z_16) ?_ ?_
          · skip
            refine aw_wkN rfl 6 0 rfl rfl ?_
            refine aw_block ?_
            refine aw_loop (fun n e st => ∃ v : Int × Int × Int × Bool × (At → Option (List Int)), Holds e [(0, sl (kPair (kI .u8) (kI .u8)) none none p0), (1, sl (kPair (kI .u8) (kI .u8)) none none p1), (2, pl (.int .u8 p2)), (7, ptr (s.boxes.length + 2) 0), (10, ptr (s.boxes.length + 3) 0), (11, pl (.int .i64 v.1))] ∧ st = s.ext [⟨HOT, [mpf KM_dev y_2.safe_]⟩, ⟨HOT, [mpf KM_dev vz_4.1]⟩, ⟨160, [pl (.int .i64 x_11.pages_), mref (s.boxes.length + 0), mref (s.boxes.length + 1), pl (.int .i64 x_11.left_), pl (.bool x_11.down_)]⟩, ⟨160, [pl (.int .i64 v.2.1), mref (s.boxes.length + 4), mref (s.boxes.length + 5), pl (.int .i64 v.2.2.1), pl (.bool v.2.2.2.1)]⟩, ⟨HOT, [mpf KM_dev x_12.safe_]⟩, ⟨HOT, [mpf KM_dev v.2.2.2.2]⟩] [] ∧ lp (F_lDeviceCopies_b1 p1 p2 x_12) n v = some z_16) fl ⟨(0, x_12.pages_, x_12.left_, x_12.down_, x_12.waits_), ⟨le_of_eq (eg oz), le_of_eq (eg (os rfl oz)), le_of_eq (eg (os rfl (os rfl oz))), le_of_eq (eg (os rfl (os rfl (os rfl oz)))), le_of_eq (eg (os rfl (os rfl (os rfl (os rfl oz))))), le_of_eq (eg (os rfl (os rfl (os rfl (os rfl (os rfl oz)))))), trivial⟩, rfl, hz_16⟩ ?_
            rintro n e st ⟨t_17, hH, rfl, hz_16⟩
            replace hz_16 := lp_some hz_16
            obtain ⟨m_z_18, z_18, rfl, hz_18, hz_16⟩ := hz_16
            unfold F_lDeviceCopies_b1 at hz_18
            refine aw_keep _ hH ?_
            refine aw_wkN rfl 6 0 rfl rfl ?_
            refine aw_seq ?_
            refine aw_seq ?_
            refine aw_region (by decide) ?_
            refine rts _ rfl (opD_move (os rfl (os rfl (os rfl (os rfl (os rfl oz)))))) ?_
            refine rts _ rfl (opD_move (ls rfl (os rfl oz))) ?_
            refine rts _ rfl (opD_len_sl Go.Proofs.Tryd.underlying22 lz) ?_
            refine rts _ rfl (opD_lss (ls rfl (ls rfl lz)) lz) ?_
            refine .nil ?_
            refine aw_keep [(0, _), (1, _), (2, _), (7, _), (10, _), (11, _), (88, _)] ⟨lg (ls rfl (ls rfl (ls rfl (ls rfl oz)))), lg (ls rfl (ls rfl (ls rfl (ls rfl (os rfl oz))))), lg (ls rfl (ls rfl (ls rfl (ls rfl (os rfl (os rfl oz)))))), lg (ls rfl (ls rfl (ls rfl (ls rfl (os rfl (os rfl (os rfl oz))))))), lg (ls rfl (ls rfl (ls rfl (ls rfl (os rfl (os rfl (os rfl (os rfl oz)))))))), lg (ls rfl (ls rfl (ls rfl (ls rfl (os rfl (os rfl (os rfl (os rfl (os rfl oz))))))))), lg lz, trivial⟩ ?_
            refine aw_cond _ (os rfl (os rfl (os rfl (os rfl (os rfl (os rfl oz)))))) (fun hc => ?_) (fun hc => ?_)
            · skip
              replace hz_18 := ifb_t hz_18 hc
              clear hc
              refine aw_skip ?_
              refine aw_keep [(0, _), (1, _), (2, _), (7, _), (10, _), (11, _)] ⟨lg oz, lg (os rfl oz), lg (os rfl (os rfl oz)), lg (os rfl (os rfl (os rfl oz))), lg (os rfl (os rfl (os rfl (os rfl oz)))), lg (os rfl (os rfl (os rfl (os rfl (os rfl oz))))), trivial⟩ ?_
              refine aw_seq ?_
              refine aw_block ?_
              refine aw_seq ?_
              refine aw_drawn [false, false, false, false, false, false, false, false, false, false, false, false, false, false, true, false] [[0], [0], [0], [0], [0], [0], [0], [0], [0], [0], [0], [0], [0], [0], [0, 1], [1]] mixed_W5 (by decide +kernel) ?_
              refine dtp _ rfl (fun s => opD_move (os rfl (os rfl (os rfl (os rfl oz))))) ?_
              refine dtp _ rfl (fun s => opD_move (ls rfl (os rfl oz))) ?_
              refine dtp _ rfl (fun s => opD_move (ls rfl (ls rfl (os rfl (os rfl (os rfl (os rfl (os rfl oz)))))))) ?_
              replace hz_18 := ixb_some hz_18
              obtain ⟨x_19, hx_19, hbx_19, hz_18⟩ := hz_18
              refine dtp _ rfl (fun s => opD_indexAddr_sl (i := t_17.1.toNat) Go.Proofs.Tryd.underlying22 sz31_W5 (ls rfl lz) lz hbx_19.2.2 hbx_19.2.1) ?_
              refine dtp _ rfl (fun s => opD_ple (q := el (kPair (kI .u8) (kI .u8)) p1 t_17.1.toNat 0) rfl (opD_indexAddr_el (i := 0) Go.Proofs.Tryd.underlying31 sz5_W5 lz (ev_const _ _) rfl (by decide))) ?_
              refine dtp _ rfl (fun s => opD_load_el_one ag5_W5 lz hx_19 rfl) ?_
              refine dtp _ rfl (fun s => opD_rem lz (ev_const _ _) (by decide) rfl) ?_
              refine dtp _ rfl (fun s => opD_conv_int Go.Proofs.Tryd.underlying5 Go.Proofs.Tryd.underlying3 lz rfl) ?_
              refine dtp _ rfl (fun s => opD_move (ls rfl (ls rfl (ls rfl (ls rfl (ls rfl (ls rfl (ls rfl (ls rfl (os rfl oz)))))))))) ?_
              refine dtp _ rfl (fun s => opD_move (ls rfl (ls rfl (ls rfl (ls rfl (ls rfl (ls rfl (ls rfl (ls rfl (ls rfl (os rfl (os rfl (os rfl (os rfl (os rfl oz))))))))))))))) ?_
              replace hz_18 := ixb_some hz_18
              obtain ⟨x_20, hx_20, hbx_20, hz_18⟩ := hz_18
              refine dtp _ rfl (fun s => opD_indexAddr_sl (i := t_17.1.toNat) Go.Proofs.Tryd.underlying22 sz31_W5 (ls rfl lz) lz hbx_20.2.2 hbx_20.2.1) ?_
              refine dtp _ rfl (fun s => opD_ple (q := el (kPair (kI .u8) (kI .u8)) p1 t_17.1.toNat 1) rfl (opD_indexAddr_el (i := 1) Go.Proofs.Tryd.underlying31 sz5_W5 lz (ev_const _ _) rfl (by decide))) ?_
              refine dtp _ rfl (fun s => opD_load_el_one ag5_W5 lz hx_20 rfl) ?_
              replace hz_18 := bnd_some hz_18
              obtain ⟨x_21, hx_21, hz_18⟩ := hz_18
              refine dtp _ rfl (fun s => opD_pure ht16_W5 (c_l4sector hx_21) ⟨le_of_eq lz, trivial⟩) ?_
              replace hz_18 := bnd_some hz_18
              obtain ⟨x_22, hx_22, hz_18⟩ := hz_18
              refine dta _ rfl (opD_ple (q := pl (errV x_22.1)) rfl (opD_to (X' := s.ext [⟨HOT, [mpf KM_dev y_2.safe_]⟩, ⟨HOT, [mpf KM_dev vz_4.1]⟩, ⟨160, [pl (.int .i64 x_11.pages_), mref (s.boxes.length + 0), mref (s.boxes.length + 1), pl (.int .i64 x_11.left_), pl (.bool x_11.down_)]⟩, ⟨160, [pl (.int .i64 x_22.2.pages_), mref (s.boxes.length + 4), mref (s.boxes.length + 5), pl (.int .i64 x_22.2.left_), pl (.bool x_22.2.down_)]⟩, ⟨HOT, [mpf KM_dev x_12.safe_]⟩, ⟨HOT, [mpf KM_dev x_22.2.waits_]⟩] []) (opD_call ht15_W5 (c_dWrite hx_22 (ud_len (m := 6) rfl rfl ⟨by omega, ⟨by omega, ⟨by omega, trivial⟩⟩, ⟨by omega, ⟨by omega, trivial⟩, ⟨by omega, trivial, trivial⟩⟩⟩) (loc_getN rfl rfl) (loc_getN rfl rfl) (loc_getN rfl rfl) (Pd.le_refl _) (mpf_bnd _ _)) ⟨le_of_eq (ls rfl (ls rfl (ls rfl (ls rfl (ls rfl (ls rfl (ls rfl (ls rfl (ls rfl (ls rfl (ls rfl (ls rfl (ls rfl lz))))))))))))), le_of_eq (ls rfl (ls rfl (ls rfl (ls rfl (ls rfl (ls rfl lz)))))), le_of_eq lz, trivial⟩) (ul_loc (k := 4) rfl (ul_loc (k := 5) rfl (ul_loc (k := 3) rfl rfl (by simp only [na, nb, nc, nd, nf, ng, nh, ni, nj, nk] <;> rfl)) (by simp only [na, nb, nc, nd, nf, ng, nh, ni, nj, nk] <;> rfl)) (by simp only [na, nb, nc, nd, nf, ng, nh, ni, nj, nk] <;> rfl)))) ?_
              refine dtp _ rfl (fun s => opD_assign lz) ?_
              refine .nil ?_
              dsimp only [List.nil_append, List.cons_append]
              refine ⟨rfl, ⟨trivial, trivial, trivial, trivial, trivial, trivial, trivial, trivial, trivial, trivial, trivial, trivial, trivial, trivial, trivial, trivial, trivial⟩, ?_⟩
              refine aw_keep [(0, _), (1, _), (2, _), (7, _), (10, _), (11, _), (12, _)] ⟨lg (ls rfl (ls rfl (ls rfl (ls rfl (ls rfl (ls rfl (ls rfl (ls rfl (ls rfl (ls rfl (ls rfl (ls rfl (ls rfl (ls rfl (ls rfl (ls rfl oz)))))))))))))))), lg (ls rfl (ls rfl (ls rfl (ls rfl (ls rfl (ls rfl (ls rfl (ls rfl (ls rfl (ls rfl (ls rfl (ls rfl (ls rfl (ls rfl (ls rfl (ls rfl (os rfl oz))))))))))))))))), lg (ls rfl (ls rfl (ls rfl (ls rfl (ls rfl (ls rfl (ls rfl (ls rfl (ls rfl (ls rfl (ls rfl (ls rfl (ls rfl (ls rfl (ls rfl (ls rfl (os rfl (os rfl oz)))))))))))))))))), lg (ls rfl (ls rfl (ls rfl (ls rfl (ls rfl (ls rfl (ls rfl (ls rfl (ls rfl (ls rfl (ls rfl (ls rfl (ls rfl (ls rfl (ls rfl (ls rfl (os rfl (os rfl (os rfl oz))))))))))))))))))), lg (ls rfl (ls rfl (ls rfl (ls rfl (ls rfl (ls rfl (ls rfl (ls rfl (ls rfl (ls rfl (ls rfl (ls rfl (ls rfl (ls rfl (ls rfl (ls rfl (os rfl (os rfl (os rfl (os rfl oz)))))))))))))))))))), lg (ls rfl (ls rfl (ls rfl (ls rfl (ls rfl (ls rfl (ls rfl (ls rfl (ls rfl (ls rfl (ls rfl (ls rfl (ls rfl (ls rfl (ls rfl (ls rfl (os rfl (os rfl (os rfl (os rfl (os rfl oz))))))))))))))))))))), lg lz, trivial⟩ ?_
              refine aw_seq ?_
              refine aw_region (by decide) ?_
              refine rts _ rfl (opD_move (os rfl (os rfl (os rfl (os rfl (os rfl (os rfl oz))))))) ?_
              refine rts _ rfl (opD_bin lz (ev_const _ _) (fun w => errV_geql _ w _) (fun w => errV_eql _ w)) ?_
              refine rts _ rfl (opD_move (ls rfl (ls rfl (os rfl (os rfl (os rfl (os rfl (os rfl oz)))))))) ?_
              refine rts _ rfl (opD_move (ls rfl (ls rfl (ls rfl (os rfl (os rfl oz)))))) ?_
              refine rts _ rfl (opD_conv_int Go.Proofs.Tryd.underlying5 Go.Proofs.Tryd.underlying3 lz rfl) ?_
              refine rts _ rfl (opD_lss (ls rfl (ls rfl lz)) lz) ?_
              refine rts _ rfl (opD_bneq Go.Proofs.Tryd.underlying4 (ls rfl (ls rfl (ls rfl (ls rfl lz)))) lz) ?_
              refine rts _ rfl (opD_move lz) ?_
              refine rtg _ rfl lz (fun hg17_8_37 => opD_move (ls rfl (ls rfl (ls rfl (ls rfl (ls rfl (ls rfl (ls rfl (ls rfl (os rfl (os rfl (os rfl (os rfl (os rfl (os rfl oz))))))))))))))) ?_
              refine rtg _ rfl (ls rfl lz) (fun hg17_9_38 => opD_bin (lz.trans (pif_pos hg17_9_38)) (ev_const _ _) (fun w => errV_guard _ w _) (fun w => errV_beq _ w)) ?_
              refine rtg _ rfl (ls rfl (ls rfl lz)) (fun hg17_10_39 => opD_move (lz.trans (pif_pos hg17_10_39))) ?_
              refine rtg2 _ rfl lz (fun hg17_11_40 => opD_move (ls rfl (ls rfl (ls rfl (ls rfl (ls rfl (ls rfl (ls rfl (ls rfl (ls rfl (ls rfl (ls rfl (os rfl (os rfl (os rfl (os rfl (os rfl (os rfl oz)))))))))))))))))) ?_
              replace hz_18 := bnd_some hz_18
              obtain ⟨x_23, hx_23, hz_18⟩ := hz_18
              refine rtg2 _ rfl (ls rfl lz) (fun hg17_12_41 => opD_call ht24_W5 (c_num04 (gif_some hx_23 hg17_12_41) hst) ⟨le_of_eq (lz.trans (pif_pos hg17_12_41)), trivial⟩) ?_
              refine rtg2 _ rfl (ls rfl (ls rfl lz)) (fun hg17_13_42 => opD_neq (lz.trans (pif_pos hg17_13_42)) (ev_const _ _)) ?_
              refine rtg _ rfl (ls rfl (ls rfl (ls rfl (ls rfl (ls rfl (ls rfl lz)))))) (fun hg17_14_43 => opD_and ((ls rfl (ls rfl (ls rfl lz))).trans (pif_pos hg17_14_43)) (lz.trans (pif_and hg17_14_43))) ?_
              refine rts _ rfl (opD_or (ls rfl (ls rfl (ls rfl (ls rfl (ls rfl (ls rfl (ls rfl lz))))))) lz) ?_
              refine .nil ?_
              refine aw_keep [(0, _), (1, _), (2, _), (7, _), (10, _), (11, _), (121, _)] ⟨lg (ls rfl (ls rfl (ls rfl (ls rfl (ls rfl (ls rfl (ls rfl (ls rfl (ls rfl (ls rfl (ls rfl (ls rfl (ls rfl (ls rfl (ls rfl (ls rfl oz)))))))))))))))), lg (ls rfl (ls rfl (ls rfl (ls rfl (ls rfl (ls rfl (ls rfl (ls rfl (ls rfl (ls rfl (ls rfl (ls rfl (ls rfl (ls rfl (ls rfl (ls rfl (os rfl oz))))))))))))))))), lg (ls rfl (ls rfl (ls rfl (ls rfl (ls rfl (ls rfl (ls rfl (ls rfl (ls rfl (ls rfl (ls rfl (ls rfl (ls rfl (ls rfl (ls rfl (ls rfl (os rfl (os rfl oz)))))))))))))))))), lg (ls rfl (ls rfl (ls rfl (ls rfl (ls rfl (ls rfl (ls rfl (ls rfl (ls rfl (ls rfl (ls rfl (ls rfl (ls rfl (ls rfl (ls rfl (ls rfl (os rfl (os rfl (os rfl oz))))))))))))))))))), lg (ls rfl (ls rfl (ls rfl (ls rfl (ls rfl (ls rfl (ls rfl (ls rfl (ls rfl (ls rfl (ls rfl (ls rfl (ls rfl (ls rfl (ls rfl (ls rfl (os rfl (os rfl (os rfl (os rfl oz)))))))))))))))))))), lg (ls rfl (ls rfl (ls rfl (ls rfl (ls rfl (ls rfl (ls rfl (ls rfl (ls rfl (ls rfl (ls rfl (ls rfl (ls rfl (ls rfl (ls rfl (ls rfl (os rfl (os rfl (os rfl (os rfl (os rfl oz))))))))))))))))))))), lg lz, trivial⟩ ?_
              refine aw_cond _ (os rfl (os rfl (os rfl (os rfl (os rfl (os rfl oz)))))) (fun hc => ?_) (fun hc => ?_)
              · skip
                replace hz_18 := ifb_t hz_18 hc
                clear hc
                refine aw_seq ?_
                refine aw_region (by decide) ?_
                refine rts _ rfl (opD_assign (ev_const _ _)) ?_
                refine .nil ?_
                refine aw_keep [(6, _)] ⟨lg lz, trivial⟩ ?_
                refine aw_ret ?_
                obtain rfl := some_of hz_18
                replace hz_16 := ocs_r hz_16
                obtain rfl := some_of hz_16
                replace h0 := ocs_l h0
                refine wk_no ?_
                refine wk_no ?_
                obtain rfl := some_of h0
                exact done_ext (.inr rfl) ((res_one rfl (it_tmp oz)).le (Pd.le_refl _)) (pl_bnd _ _ _)
              · skip
                replace hz_18 := ifb_f hz_18 hc
                clear hc
                refine aw_skip ?_
                refine aw_keep [(0, _), (1, _), (2, _), (7, _), (10, _), (11, _)] ⟨lg oz, lg (os rfl oz), lg (os rfl (os rfl oz)), lg (os rfl (os rfl (os rfl oz))), lg (os rfl (os rfl (os rfl (os rfl oz)))), lg (os rfl (os rfl (os rfl (os rfl (os rfl oz))))), trivial⟩ ?_
                refine aw_region (by decide) ?_
                refine rts _ rfl (opD_move (os rfl (os rfl (os rfl (os rfl (os rfl oz)))))) ?_
                refine rts _ rfl (opD_add lz (ev_const _ _) rfl) ?_
                refine rts _ rfl (opD_assign lz) ?_
                refine .nil ?_
                obtain rfl := some_of hz_18
                replace hz_16 := ocs_l hz_16
                refine wk_yesN rfl (l := [(0, sl (kPair (kI .u8) (kI .u8)) none none p0), (1, sl (kPair (kI .u8) (kI .u8)) none none p1), (2, pl (.int .u8 p2)), (7, ptr (s.boxes.length + 2) 0), (10, ptr (s.boxes.length + 3) 0), (11, pl (.int .i64 (IntKind.i64.wrap (t_17.1 + 1))))]) (bs' := [⟨HOT, [mpf KM_dev y_2.safe_]⟩, ⟨HOT, [mpf KM_dev vz_4.1]⟩, ⟨160, [pl (.int .i64 x_11.pages_), mref (s.boxes.length + 0), mref (s.boxes.length + 1), pl (.int .i64 x_11.left_), pl (.bool x_11.down_)]⟩, ⟨160, [pl (.int .i64 x_22.2.pages_), mref (s.boxes.length + 4), mref (s.boxes.length + 5), pl (.int .i64 x_22.2.left_), pl (.bool x_22.2.down_)]⟩, ⟨HOT, [mpf KM_dev x_12.safe_]⟩, ⟨HOT, [mpf KM_dev x_22.2.waits_]⟩]) ⟨le_of_eq (eg (ls rfl (ls rfl (ls rfl oz)))), le_of_eq (eg (ls rfl (ls rfl (ls rfl (os rfl oz))))), le_of_eq (eg (ls rfl (ls rfl (ls rfl (os rfl (os rfl oz)))))), le_of_eq (eg (ls rfl (ls rfl (ls rfl (os rfl (os rfl (os rfl oz))))))), le_of_eq (eg (ls rfl (ls rfl (ls rfl (os rfl (os rfl (os rfl (os rfl oz)))))))), le_of_eq (eg lz), trivial⟩ (bnd_cons (sl_b (kb_pair (kb_I _) (kb_I _))) (bnd_cons (sl_b (kb_pair (kb_I _) (kb_I _))) (bnd_cons (pl_bnd _ _ _) (bnd_cons (ptr_bnd _ (by first | omega | (simp only [List.length_append, List.length_cons, List.length_nil]; omega))) (bnd_cons (ptr_bnd _ (by first | omega | (simp only [List.length_append, List.length_cons, List.length_nil]; omega))) (bnd_cons (pl_bnd _ _ _) bnd_nil)))))) (Nat.le_of_ble_eq_true rfl) (by simp only [na, nb, nc, nd, nf, ng, nh, ni, nj, nk] <;> rfl) (bxle_same (bxle_same (bxle_same (bxle_same (bxle_same (bxle_same bxle_nil)))))) rfl (by simp only [na, nb, nc, nd, nf, ng, nh, ni, nj, nk] <;> rfl) (bl_cons (bnd_cons ((mpf_bnd _ _) _ _) bnd_nil) (bl_cons (bnd_cons ((mpf_bnd _ _) _ _) bnd_nil) (bl_cons (bnd_cons (pl_bnd _ _ _) (bnd_cons (mref_bnd _ (by first | omega | (simp only [List.length_append, List.length_cons, List.length_nil]; omega))) (bnd_cons (mref_bnd _ (by first | omega | (simp only [List.length_append, List.length_cons, List.length_nil]; omega))) (bnd_cons (pl_bnd _ _ _) (bnd_cons (pl_bnd _ _ _) bnd_nil))))) (bl_cons (bnd_cons (pl_bnd _ _ _) (bnd_cons (mref_bnd _ (by first | omega | (simp only [List.length_append, List.length_cons, List.length_nil]; omega))) (bnd_cons (mref_bnd _ (by first | omega | (simp only [List.length_append, List.length_cons, List.length_nil]; omega))) (bnd_cons (pl_bnd _ _ _) (bnd_cons (pl_bnd _ _ _) bnd_nil))))) (bl_cons (bnd_cons ((mpf_bnd _ _) _ _) bnd_nil) (bl_cons (bnd_cons ((mpf_bnd _ _) _ _) bnd_nil) bl_nil)))))) ?_
                exact ⟨m_z_18, Nat.lt_succ_self _, (IntKind.i64.wrap (t_17.1 + 1), x_22.2.pages_, x_22.2.left_, x_22.2.down_, x_22.2.waits_), ⟨le_of_eq (eg oz), le_of_eq (eg (os rfl oz)), le_of_eq (eg (os rfl (os rfl oz))), le_of_eq (eg (os rfl (os rfl (os rfl oz)))), le_of_eq (eg (os rfl (os rfl (os rfl (os rfl oz))))), le_of_eq (eg (os rfl (os rfl (os rfl (os rfl (os rfl oz)))))), trivial⟩, rfl, hz_16⟩
            · skip
              replace hz_18 := ifb_f hz_18 hc
              clear hc
              refine aw_exit ?_
              obtain rfl := some_of hz_18
              replace hz_16 := ocs_r hz_16
              refine wk_no ?_
              refine wk_yesN rfl (l := [(0, sl (kPair (kI .u8) (kI .u8)) none none p0), (1, sl (kPair (kI .u8) (kI .u8)) none none p1), (2, pl (.int .u8 p2)), (7, ptr (s.boxes.length + 2) 0), (10, ptr (s.boxes.length + 3) 0)]) (bs' := [⟨HOT, [mpf KM_dev y_2.safe_]⟩, ⟨HOT, [mpf KM_dev vz_4.1]⟩, ⟨160, [pl (.int .i64 x_11.pages_), mref (s.boxes.length + 0), mref (s.boxes.length + 1), pl (.int .i64 x_11.left_), pl (.bool x_11.down_)]⟩, ⟨160, [pl (.int .i64 t_17.2.1), mref (s.boxes.length + 4), mref (s.boxes.length + 5), pl (.int .i64 t_17.2.2.1), pl (.bool t_17.2.2.2.1)]⟩, ⟨HOT, [mpf KM_dev x_12.safe_]⟩, ⟨HOT, [mpf KM_dev t_17.2.2.2.2]⟩]) ⟨le_of_eq (eg oz), le_of_eq (eg (os rfl oz)), le_of_eq (eg (os rfl (os rfl oz))), le_of_eq (eg (os rfl (os rfl (os rfl oz)))), le_of_eq (eg (os rfl (os rfl (os rfl (os rfl oz))))), trivial⟩ (bnd_cons (sl_b (kb_pair (kb_I _) (kb_I _))) (bnd_cons (sl_b (kb_pair (kb_I _) (kb_I _))) (bnd_cons (pl_bnd _ _ _) (bnd_cons (ptr_bnd _ (by first | omega | (simp only [List.length_append, List.length_cons, List.length_nil]; omega))) (bnd_cons (ptr_bnd _ (by first | omega | (simp only [List.length_append, List.length_cons, List.length_nil]; omega))) bnd_nil))))) (Nat.le_of_ble_eq_true rfl) (by simp only [na, nb, nc, nd, nf, ng, nh, ni, nj, nk] <;> rfl) (bxle_same (bxle_same (bxle_same (bxle_same (bxle_same (bxle_same bxle_nil)))))) rfl (by simp only [na, nb, nc, nd, nf, ng, nh, ni, nj, nk] <;> rfl) (bl_cons (bnd_cons ((mpf_bnd _ _) _ _) bnd_nil) (bl_cons (bnd_cons ((mpf_bnd _ _) _ _) bnd_nil) (bl_cons (bnd_cons (pl_bnd _ _ _) (bnd_cons (mref_bnd _ (by first | omega | (simp only [List.length_append, List.length_cons, List.length_nil]; omega))) (bnd_cons (mref_bnd _ (by first | omega | (simp only [List.length_append, List.length_cons, List.length_nil]; omega))) (bnd_cons (pl_bnd _ _ _) (bnd_cons (pl_bnd _ _ _) bnd_nil))))) (bl_cons (bnd_cons (pl_bnd _ _ _) (bnd_cons (mref_bnd _ (by first | omega | (simp only [List.length_append, List.length_cons, List.length_nil]; omega))) (bnd_cons (mref_bnd _ (by first | omega | (simp only [List.length_append, List.length_cons, List.length_nil]; omega))) (bnd_cons (pl_bnd _ _ _) (bnd_cons (pl_bnd _ _ _) bnd_nil))))) (bl_cons (bnd_cons ((mpf_bnd _ _) _ _) bnd_nil) (bl_cons (bnd_cons ((mpf_bnd _ _) _ _) bnd_nil) bl_nil)))))) ?_
              exact ⟨(t_17.2.1, t_17.2.2.1, t_17.2.2.2.1, t_17.2.2.2.2), ⟨le_of_eq (eg oz), le_of_eq (eg (os rfl oz)), le_of_eq (eg (os rfl (os rfl oz))), le_of_eq (eg (os rfl (os rfl (os rfl oz)))), le_of_eq (eg (os rfl (os rfl (os rfl (os rfl oz))))), trivial⟩, rfl, some_of hz_16⟩
          · rintro e st ⟨vz_16, hH, rfl, rfl⟩
            refine aw_keep _ hH ?_
            replace h0 := ocs_r h0
            refine aw_keep [(0, _), (1, _), (2, _), (7, _), (10, _)] ⟨lg oz, lg (os rfl oz), lg (os rfl (os rfl oz)), lg (os rfl (os rfl (os rfl oz))), lg (os rfl (os rfl (os rfl (os rfl oz)))), trivial⟩ ?_
            refine aw_seq ?_
            refine aw_seq ?_
            refine aw_region (by decide) ?_
            refine rts _ rfl (opD_move (os rfl (os rfl (os rfl oz)))) ?_
            replace h0 := bnd_some h0
            obtain ⟨x_24, hx_24, h0⟩ := h0
            refine rts _ rfl (opD_call ht25_W5 (c_dDown hx_24 (ud_len (m := 6) rfl rfl ⟨by omega, ⟨by omega, ⟨by omega, trivial⟩⟩, ⟨by omega, ⟨by omega, trivial⟩, ⟨by omega, trivial, trivial⟩⟩⟩) (loc_getN rfl rfl) (loc_getN rfl rfl) (loc_getN rfl rfl) (Pd.le_refl _) (mpf_bnd _ _) (Pd.le_refl _) (mpf_bnd _ _)) ⟨le_of_eq lz, trivial⟩) ?_
            refine rts _ rfl (opD_move lz) ?_
            refine rtg _ rfl lz (fun hg19_3_44 => opD_move (ls rfl (ls rfl (ls rfl (os rfl (os rfl (os rfl (os rfl oz)))))))) ?_
            replace h0 := bnd_some h0
            obtain ⟨x_25, hx_25, h0⟩ := h0
            refine rtg _ rfl (ls rfl lz) (fun hg19_4_45 => opD_call ht25_W5 (c_dDown (gif_some hx_25 hg19_4_45) (ud_len (m := 6) rfl rfl ⟨by omega, ⟨by omega, ⟨by omega, trivial⟩⟩, ⟨by omega, ⟨by omega, trivial⟩, ⟨by omega, trivial, trivial⟩⟩⟩) (loc_getN rfl rfl) (loc_getN rfl rfl) (loc_getN rfl rfl) (Pd.le_refl _) (mpf_bnd _ _) (Pd.le_refl _) (mpf_bnd _ _)) ⟨le_of_eq (lz.trans (pif_pos hg19_4_45)), trivial⟩) ?_
            refine rtg _ rfl (ls rfl (ls rfl lz)) (fun hg19_5_46 => opD_move (ls rfl (ls rfl (ls rfl (ls rfl (ls rfl (os rfl oz))))))) ?_
            refine rtg _ rfl (ls rfl (ls rfl (ls rfl lz))) (fun hg19_6_47 => opD_len_sl Go.Proofs.Tryd.underlying22 (lz.trans (pif_pos hg19_6_47))) ?_
            refine rtg _ rfl (ls rfl (ls rfl (ls rfl (ls rfl lz)))) (fun hg19_7_48 => opD_move (ls rfl (ls rfl (ls rfl (ls rfl (ls rfl (ls rfl (ls rfl (os rfl (os rfl oz)))))))))) ?_
            refine rtg _ rfl (ls rfl (ls rfl (ls rfl (ls rfl (ls rfl lz))))) (fun hg19_8_49 => opD_conv_int Go.Proofs.Tryd.underlying5 Go.Proofs.Tryd.underlying3 (lz.trans (pif_pos hg19_8_49)) rfl) ?_
            refine rtg _ rfl (ls rfl (ls rfl (ls rfl (ls rfl (ls rfl (ls rfl lz)))))) (fun hg19_9_50 => opD_gtr ((ls rfl (ls rfl lz)).trans (pif_pos hg19_9_50)) (lz.trans (pif_pos hg19_9_50))) ?_
            refine rtg _ rfl (ls rfl (ls rfl (ls rfl (ls rfl (ls rfl (ls rfl (ls rfl lz))))))) (fun hg19_10_51 => opD_bneq Go.Proofs.Tryd.underlying4 ((ls rfl (ls rfl (ls rfl (ls rfl (ls rfl lz))))).trans (pif_pos hg19_10_51)) (lz.trans (pif_pos hg19_10_51))) ?_
            refine rts _ rfl (opD_or (ls rfl (ls rfl (ls rfl (ls rfl (ls rfl (ls rfl (ls rfl (ls rfl lz)))))))) lz) ?_
            refine .nil ?_
            refine aw_keep [(0, _), (7, _), (133, _)] ⟨lg (ls rfl (ls rfl (ls rfl (ls rfl (ls rfl (ls rfl (ls rfl (ls rfl (ls rfl (ls rfl (ls rfl (ls rfl oz)))))))))))), lg (ls rfl (ls rfl (ls rfl (ls rfl (ls rfl (ls rfl (ls rfl (ls rfl (ls rfl (ls rfl (ls rfl (ls rfl (os rfl (os rfl (os rfl oz))))))))))))))), lg lz, trivial⟩ ?_
            refine aw_cond _ (os rfl (os rfl oz)) (fun hc => ?_) (fun hc => ?_)
            · skip
              replace h0 := ifb_t h0 hc
              clear hc
              refine aw_seq ?_
              refine aw_region (by decide) ?_
              refine rts _ rfl (opD_assign (ev_const _ _)) ?_
              refine .nil ?_
              refine aw_keep [(6, _)] ⟨lg lz, trivial⟩ ?_
              refine aw_ret ?_
              obtain rfl := some_of h0
              exact done_ext (.inr rfl) ((res_one rfl (it_tmp oz)).le (Pd.le_refl _)) (pl_bnd _ _ _)
            · skip
              replace h0 := ifb_f h0 hc
              clear hc
              refine aw_skip ?_
              refine aw_keep [(0, _), (7, _)] ⟨lg oz, lg (os rfl oz), trivial⟩ ?_
              refine aw_seq ?_
              refine aw_region (by decide) ?_
              refine rts _ rfl (allocFN (k := kI .u8) (x0 := 0) (z := .int .u8 0) (m := 32) rfl (by kernel_rfl) rfl (by first | exact List.length_nil | (simp only [List.length_cons, List.length_nil, Nat.zero_add, Nat.reduceAdd] <;> rfl)) (by simp only [na, nb, nc, nd, nf, ng, nh, ni, nj, nk] <;> rfl)) ?_
              refine .nil ?_
              refine aw_keep [(0, _), (7, _), (13, _)] ⟨lg (ls rfl oz), lg (ls rfl (os rfl oz)), lg lz, trivial⟩ ?_
              refine aw_seq ?_
              refine aw_seq ?_
              refine aw_region (by decide) ?_
              refine rts _ rfl (opD_assign (ev_const _ _)) ?_
              refine .nil ?_
              refine aw_keep [(0, _), (7, _), (13, _), (14, _)] ⟨lg (ls rfl oz), lg (ls rfl (os rfl oz)), lg (ls rfl (os rfl (os rfl oz))), lg lz, trivial⟩ ?_
              replace h0 := bnd_some h0
              obtain ⟨z_26, hz_26, h0⟩ := h0
              refine aw_mid (fun e st => ∃ v : (List Int), Holds e [(7, ptr (s.boxes.length + 2) 0), (13, ptr (s.boxes.length + 6) 0)] ∧ st = s.ext [⟨HOT, [mpf KM_dev y_2.safe_]⟩, ⟨HOT, [mpf KM_dev vz_4.1]⟩, ⟨160, [pl (.int .i64 x_11.pages_), mref (s.boxes.length + 0), mref (s.boxes.length + 1), pl (.int .i64 x_11.left_), pl (.bool x_11.down_)]⟩, ⟨160, [pl (.int .i64 vz_16.1), mref (s.boxes.length + 4), mref (s.boxes.length + 5), pl (.int .i64 vz_16.2.1), pl (.bool vz_16.2.2.1)]⟩, ⟨HOT, [mpf KM_dev x_12.safe_]⟩, ⟨HOT, [mpf KM_dev vz_16.2.2.2]⟩, ⟨30, (flat (kI .u8) v)⟩] [] ∧ v = z_26) ?_ ?_
              · skip
                refine aw_wkN rfl 7 0 rfl rfl ?_
                refine aw_block ?_
                refine aw_loop (fun n e st => ∃ v : Int × (List Int), Holds e [(0, sl (kPair (kI .u8) (kI .u8)) none none p0), (7, ptr (s.boxes.length + 2) 0), (13, ptr (s.boxes.length + 6) 0), (14, pl (.int .i64 v.1))] ∧ st = s.ext [⟨HOT, [mpf KM_dev y_2.safe_]⟩, ⟨HOT, [mpf KM_dev vz_4.1]⟩, ⟨160, [pl (.int .i64 x_11.pages_), mref (s.boxes.length + 0), mref (s.boxes.length + 1), pl (.int .i64 x_11.left_), pl (.bool x_11.down_)]⟩, ⟨160, [pl (.int .i64 vz_16.1), mref (s.boxes.length + 4), mref (s.boxes.length + 5), pl (.int .i64 vz_16.2.1), pl (.bool vz_16.2.2.1)]⟩, ⟨HOT, [mpf KM_dev x_12.safe_]⟩, ⟨HOT, [mpf KM_dev vz_16.2.2.2]⟩, ⟨30, (flat (kI .u8) v.2)⟩] [] ∧ lp (F_lDeviceCopies_b2 p0) n v = some z_26) fl ⟨(0, (List.replicate 32 (0 : Int))), ⟨le_of_eq (eg oz), le_of_eq (eg (os rfl oz)), le_of_eq (eg (os rfl (os rfl oz))), le_of_eq (eg (os rfl (os rfl (os rfl oz)))), trivial⟩, rfl, hz_26⟩ ?_
                rintro n e st ⟨t_27, hH, rfl, hz_26⟩
                replace hz_26 := lp_some hz_26
                obtain ⟨m_z_28, z_28, rfl, hz_28, hz_26⟩ := hz_26
                unfold F_lDeviceCopies_b2 at hz_28
                refine aw_keep _ hH ?_
                refine aw_wkN rfl 7 0 rfl rfl ?_
                refine aw_seq ?_
                refine aw_seq ?_
                refine aw_region (by decide) ?_
                refine rts _ rfl (opD_move (os rfl (os rfl (os rfl oz)))) ?_
                refine rts _ rfl (opD_move (ls rfl oz)) ?_
                refine rts _ rfl (opD_len_sl Go.Proofs.Tryd.underlying22 lz) ?_
                refine rts _ rfl (opD_lss (ls rfl (ls rfl lz)) lz) ?_
                refine .nil ?_
                refine aw_keep [(0, _), (7, _), (13, _), (14, _), (137, _)] ⟨lg (ls rfl (ls rfl (ls rfl (ls rfl oz)))), lg (ls rfl (ls rfl (ls rfl (ls rfl (os rfl oz))))), lg (ls rfl (ls rfl (ls rfl (ls rfl (os rfl (os rfl oz)))))), lg (ls rfl (ls rfl (ls rfl (ls rfl (os rfl (os rfl (os rfl oz))))))), lg lz, trivial⟩ ?_
                refine aw_cond _ (os rfl (os rfl (os rfl (os rfl oz)))) (fun hc => ?_) (fun hc => ?_)
                · skip
                  replace hz_28 := ifb_t hz_28 hc
                  clear hc
                  refine aw_skip ?_
                  refine aw_keep [(0, _), (7, _), (13, _), (14, _)] ⟨lg oz, lg (os rfl oz), lg (os rfl (os rfl oz)), lg (os rfl (os rfl (os rfl oz))), trivial⟩ ?_
                  refine aw_seq ?_
                  refine aw_block ?_
                  refine aw_drawn [false, false, false, false, false, false, false, false, false, false, false, false, true] [[0], [0], [0], [0], [0], [0], [0], [0], [0], [0], [0], [0], [0, 1]] mixed_W5 (by decide +kernel) ?_
                  refine dtp _ rfl (fun s => opD_move oz) ?_
                  refine dtp _ rfl (fun s => opD_move (ls rfl (os rfl (os rfl (os rfl oz))))) ?_
                  replace hz_28 := ixb_some hz_28
                  obtain ⟨x_29, hx_29, hbx_29, hz_28⟩ := hz_28
                  refine dtp _ rfl (fun s => opD_indexAddr_sl (i := t_27.1.toNat) Go.Proofs.Tryd.underlying22 sz31_W5 (ls rfl lz) lz hbx_29.2.2 hbx_29.2.1) ?_
                  refine dtp _ rfl (fun s => opD_ple (q := el (kPair (kI .u8) (kI .u8)) p0 t_27.1.toNat 0) rfl (opD_indexAddr_el (i := 0) Go.Proofs.Tryd.underlying31 sz5_W5 lz (ev_const _ _) rfl (by decide))) ?_
                  refine dtp _ rfl (fun s => opD_load_el_one ag5_W5 lz hx_29 rfl) ?_
                  refine dtp _ rfl (fun s => opD_rem lz (ev_const _ _) (by decide) rfl) ?_
                  refine dtp _ rfl (fun s => opD_move (ls rfl (ls rfl (ls rfl (ls rfl (ls rfl (ls rfl oz))))))) ?_
                  refine dtp _ rfl (fun s => opD_move (ls rfl (ls rfl (ls rfl (ls rfl (ls rfl (ls rfl (ls rfl (os rfl (os rfl (os rfl oz))))))))))) ?_
                  replace hz_28 := ixb_some hz_28
                  obtain ⟨x_30, hx_30, hbx_30, hz_28⟩ := hz_28
                  refine dtp _ rfl (fun s => opD_indexAddr_sl (i := t_27.1.toNat) Go.Proofs.Tryd.underlying22 sz31_W5 (ls rfl lz) lz hbx_30.2.2 hbx_30.2.1) ?_
                  refine dtp _ rfl (fun s => opD_ple (q := el (kPair (kI .u8) (kI .u8)) p0 t_27.1.toNat 1) rfl (opD_indexAddr_el (i := 1) Go.Proofs.Tryd.underlying31 sz5_W5 lz (ev_const _ _) rfl (by decide))) ?_
                  refine dtp _ rfl (fun s => opD_load_el_one ag5_W5 lz hx_30 rfl) ?_
                  replace hz_28 := grd_some hz_28
                  obtain ⟨hg_66, hz_28⟩ := hz_28
                  refine dtp _ rfl (fun s => opD_indexAddr_arr (i := (x_29.1.tmod 32).toNat) Go.Proofs.Tryd.underlying30 sz5_W5 (ls rfl (ls rfl (ls rfl (ls rfl (ls rfl (ls rfl (ls rfl (ls rfl (ls rfl (ls rfl (ls rfl (os rfl (os rfl oz))))))))))))) (ls rfl (ls rfl (ls rfl (ls rfl (ls rfl lz))))) hg_66.eq hg_66.2) ?_
                  replace hz_28 := grd_some hz_28
                  obtain ⟨hg_67, hz_28⟩ := hz_28
                  refine dta _ rfl (storeFN (k := kI .u8) (z := x_30.2) rfl sz5_W5 lz (le_of_eq (ls rfl lz)) (one_pl rfl) rfl rfl (nat_lt hg_67) rfl (kb_I _) (by simp only [na, nb, nc, nd, nf, ng, nh, ni, nj, nk] <;> rfl)) ?_
                  refine .nil ?_
                  dsimp only [List.nil_append, List.cons_append]
                  refine ⟨rfl, ⟨trivial, trivial, trivial, trivial, trivial, trivial, trivial, trivial, trivial, trivial, trivial, trivial, trivial, trivial⟩, ?_⟩
                  refine aw_keep [(0, _), (7, _), (13, _), (14, _)] ⟨lg (lx (ls rfl (ls rfl (ls rfl (ls rfl (ls rfl (ls rfl (ls rfl (ls rfl (ls rfl (ls rfl (ls rfl (ls rfl oz))))))))))))), lg (lx (ls rfl (ls rfl (ls rfl (ls rfl (ls rfl (ls rfl (ls rfl (ls rfl (ls rfl (ls rfl (ls rfl (ls rfl (os rfl oz)))))))))))))), lg (lx (ls rfl (ls rfl (ls rfl (ls rfl (ls rfl (ls rfl (ls rfl (ls rfl (ls rfl (ls rfl (ls rfl (ls rfl (os rfl (os rfl oz))))))))))))))), lg (lx (ls rfl (ls rfl (ls rfl (ls rfl (ls rfl (ls rfl (ls rfl (ls rfl (ls rfl (ls rfl (ls rfl (ls rfl (os rfl (os rfl (os rfl oz)))))))))))))))), trivial⟩ ?_
                  refine aw_region (by decide) ?_
                  refine rts _ rfl (opD_move (os rfl (os rfl (os rfl oz)))) ?_
                  refine rts _ rfl (opD_add lz (ev_const _ _) rfl) ?_
                  refine rts _ rfl (opD_assign lz) ?_
                  refine .nil ?_
                  obtain rfl := some_of hz_28
                  replace hz_26 := ocs_l hz_26
                  refine wk_yesN rfl (l := [(0, sl (kPair (kI .u8) (kI .u8)) none none p0), (7, ptr (s.boxes.length + 2) 0), (13, ptr (s.boxes.length + 6) 0), (14, pl (.int .i64 (IntKind.i64.wrap (t_27.1 + 1))))]) (bs' := [⟨HOT, [mpf KM_dev y_2.safe_]⟩, ⟨HOT, [mpf KM_dev vz_4.1]⟩, ⟨160, [pl (.int .i64 x_11.pages_), mref (s.boxes.length + 0), mref (s.boxes.length + 1), pl (.int .i64 x_11.left_), pl (.bool x_11.down_)]⟩, ⟨160, [pl (.int .i64 vz_16.1), mref (s.boxes.length + 4), mref (s.boxes.length + 5), pl (.int .i64 vz_16.2.1), pl (.bool vz_16.2.2.1)]⟩, ⟨HOT, [mpf KM_dev x_12.safe_]⟩, ⟨HOT, [mpf KM_dev vz_16.2.2.2]⟩, ⟨30, (flat (kI .u8) (t_27.2.set ((x_29.1.tmod 32).toNat) x_30.2))⟩]) ⟨le_of_eq (eg (ls rfl (ls rfl (ls rfl oz)))), le_of_eq (eg (ls rfl (ls rfl (ls rfl (os rfl oz))))), le_of_eq (eg (ls rfl (ls rfl (ls rfl (os rfl (os rfl oz)))))), le_of_eq (eg lz), trivial⟩ (bnd_cons (sl_b (kb_pair (kb_I _) (kb_I _))) (bnd_cons (ptr_bnd _ (by first | omega | (simp only [List.length_append, List.length_cons, List.length_nil]; omega))) (bnd_cons (ptr_bnd _ (by first | omega | (simp only [List.length_append, List.length_cons, List.length_nil]; omega))) (bnd_cons (pl_bnd _ _ _) bnd_nil)))) (Nat.le_of_ble_eq_true rfl) (by simp only [na, nb, nc, nd, nf, ng, nh, ni, nj, nk] <;> rfl) (bxle_same (bxle_same (bxle_same (bxle_same (bxle_same (bxle_same (bxle_same bxle_nil))))))) rfl (by simp only [na, nb, nc, nd, nf, ng, nh, ni, nj, nk] <;> rfl) (bl_cons (bnd_cons ((mpf_bnd _ _) _ _) bnd_nil) (bl_cons (bnd_cons ((mpf_bnd _ _) _ _) bnd_nil) (bl_cons (bnd_cons (pl_bnd _ _ _) (bnd_cons (mref_bnd _ (by first | omega | (simp only [List.length_append, List.length_cons, List.length_nil]; omega))) (bnd_cons (mref_bnd _ (by first | omega | (simp only [List.length_append, List.length_cons, List.length_nil]; omega))) (bnd_cons (pl_bnd _ _ _) (bnd_cons (pl_bnd _ _ _) bnd_nil))))) (bl_cons (bnd_cons (pl_bnd _ _ _) (bnd_cons (mref_bnd _ (by first | omega | (simp only [List.length_append, List.length_cons, List.length_nil]; omega))) (bnd_cons (mref_bnd _ (by first | omega | (simp only [List.length_append, List.length_cons, List.length_nil]; omega))) (bnd_cons (pl_bnd _ _ _) (bnd_cons (pl_bnd _ _ _) bnd_nil))))) (bl_cons (bnd_cons ((mpf_bnd _ _) _ _) bnd_nil) (bl_cons (bnd_cons ((mpf_bnd _ _) _ _) bnd_nil) (bl_cons (flatKB (kb_I _)) bl_nil))))))) ?_
                  exact ⟨m_z_28, Nat.lt_succ_self _, (IntKind.i64.wrap (t_27.1 + 1), (t_27.2.set ((x_29.1.tmod 32).toNat) x_30.2)), ⟨le_of_eq (eg oz), le_of_eq (eg (os rfl oz)), le_of_eq (eg (os rfl (os rfl oz))), le_of_eq (eg (os rfl (os rfl (os rfl oz)))), trivial⟩, rfl, hz_26⟩
                · skip
                  replace hz_28 := ifb_f hz_28 hc
                  clear hc
                  refine aw_exit ?_
                  obtain rfl := some_of hz_28
                  replace hz_26 := ocs_r hz_26
                  refine wk_no ?_
                  refine wk_yesN rfl (l := [(7, ptr (s.boxes.length + 2) 0), (13, ptr (s.boxes.length + 6) 0)]) (bs' := [⟨HOT, [mpf KM_dev y_2.safe_]⟩, ⟨HOT, [mpf KM_dev vz_4.1]⟩, ⟨160, [pl (.int .i64 x_11.pages_), mref (s.boxes.length + 0), mref (s.boxes.length + 1), pl (.int .i64 x_11.left_), pl (.bool x_11.down_)]⟩, ⟨160, [pl (.int .i64 vz_16.1), mref (s.boxes.length + 4), mref (s.boxes.length + 5), pl (.int .i64 vz_16.2.1), pl (.bool vz_16.2.2.1)]⟩, ⟨HOT, [mpf KM_dev x_12.safe_]⟩, ⟨HOT, [mpf KM_dev vz_16.2.2.2]⟩, ⟨30, (flat (kI .u8) t_27.2)⟩]) ⟨le_of_eq (eg (os rfl oz)), le_of_eq (eg (os rfl (os rfl oz))), trivial⟩ (bnd_cons (ptr_bnd _ (by first | omega | (simp only [List.length_append, List.length_cons, List.length_nil]; omega))) (bnd_cons (ptr_bnd _ (by first | omega | (simp only [List.length_append, List.length_cons, List.length_nil]; omega))) bnd_nil)) (Nat.le_of_ble_eq_true rfl) (by simp only [na, nb, nc, nd, nf, ng, nh, ni, nj, nk] <;> rfl) (bxle_same (bxle_same (bxle_same (bxle_same (bxle_same (bxle_same (bxle_same bxle_nil))))))) rfl (by simp only [na, nb, nc, nd, nf, ng, nh, ni, nj, nk] <;> rfl) (bl_cons (bnd_cons ((mpf_bnd _ _) _ _) bnd_nil) (bl_cons (bnd_cons ((mpf_bnd _ _) _ _) bnd_nil) (bl_cons (bnd_cons (pl_bnd _ _ _) (bnd_cons (mref_bnd _ (by first | omega | (simp only [List.length_append, List.length_cons, List.length_nil]; omega))) (bnd_cons (mref_bnd _ (by first | omega | (simp only [List.length_append, List.length_cons, List.length_nil]; omega))) (bnd_cons (pl_bnd _ _ _) (bnd_cons (pl_bnd _ _ _) bnd_nil))))) (bl_cons (bnd_cons (pl_bnd _ _ _) (bnd_cons (mref_bnd _ (by first | omega | (simp only [List.length_append, List.length_cons, List.length_nil]; omega))) (bnd_cons (mref_bnd _ (by first | omega | (simp only [List.length_append, List.length_cons, List.length_nil]; omega))) (bnd_cons (pl_bnd _ _ _) (bnd_cons (pl_bnd _ _ _) bnd_nil))))) (bl_cons (bnd_cons ((mpf_bnd _ _) _ _) bnd_nil) (bl_cons (bnd_cons ((mpf_bnd _ _) _ _) bnd_nil) (bl_cons (flatKB (kb_I _)) bl_nil))))))) ?_
                  exact ⟨t_27.2, ⟨le_of_eq (eg oz), le_of_eq (eg (os rfl oz)), trivial⟩, rfl, some_of hz_26⟩
              · rintro e st ⟨vz_26, hH, rfl, rfl⟩
                refine aw_keep _ hH ?_
                refine aw_keep [(7, _), (13, _)] ⟨lg oz, lg (os rfl oz), trivial⟩ ?_
                refine aw_seq ?_
                refine aw_seq ?_
                refine aw_region (by decide) ?_
                refine rts _ rfl (opD_assign (ev_const _ _)) ?_
                refine .nil ?_
                refine aw_keep [(7, _), (13, _), (15, _)] ⟨lg (ls rfl oz), lg (ls rfl (os rfl oz)), lg lz, trivial⟩ ?_
                replace h0 := bnd_some h0
                obtain ⟨z_31, hz_31, h0⟩ := h0
                refine aw_mid (fun e st => ∃ v : Unit, Holds e [] ∧ st = s.ext [⟨HOT, [mpf KM_dev y_2.safe_]⟩, ⟨HOT, [mpf KM_dev vz_4.1]⟩, ⟨160, [pl (.int .i64 x_11.pages_), mref (s.boxes.length + 0), mref (s.boxes.length + 1), pl (.int .i64 x_11.left_), pl (.bool x_11.down_)]⟩, ⟨160, [pl (.int .i64 vz_16.1), mref (s.boxes.length + 4), mref (s.boxes.length + 5), pl (.int .i64 vz_16.2.1), pl (.bool vz_16.2.2.1)]⟩, ⟨HOT, [mpf KM_dev x_12.safe_]⟩, ⟨HOT, [mpf KM_dev vz_16.2.2.2]⟩, ⟨30, (flat (kI .u8) vz_26)⟩] [] ∧ (.inr v) = z_31) ?_ ?_
                · skip
                  refine aw_wkN rfl 7 0 rfl rfl ?_
                  refine aw_block ?_
                  refine aw_loop (fun n e st => ∃ v : Int, Holds e [(7, ptr (s.boxes.length + 2) 0), (13, ptr (s.boxes.length + 6) 0), (15, pl (.int .i64 v))] ∧ st = s.ext [⟨HOT, [mpf KM_dev y_2.safe_]⟩, ⟨HOT, [mpf KM_dev vz_4.1]⟩, ⟨160, [pl (.int .i64 x_11.pages_), mref (s.boxes.length + 0), mref (s.boxes.length + 1), pl (.int .i64 x_11.left_), pl (.bool x_11.down_)]⟩, ⟨160, [pl (.int .i64 vz_16.1), mref (s.boxes.length + 4), mref (s.boxes.length + 5), pl (.int .i64 vz_16.2.1), pl (.bool vz_16.2.2.1)]⟩, ⟨HOT, [mpf KM_dev x_12.safe_]⟩, ⟨HOT, [mpf KM_dev vz_16.2.2.2]⟩, ⟨30, (flat (kI .u8) vz_26)⟩] [] ∧ lp (F_lDeviceCopies_b3 y_2 vz_4 x_11 vz_26) n v = some z_31) fl ⟨0, ⟨le_of_eq (eg oz), le_of_eq (eg (os rfl oz)), le_of_eq (eg (os rfl (os rfl oz))), trivial⟩, rfl, hz_31⟩ ?_
                  rintro n e st ⟨t_32, hH, rfl, hz_31⟩
                  replace hz_31 := lp_some hz_31
                  obtain ⟨m_z_33, z_33, rfl, hz_33, hz_31⟩ := hz_31
                  unfold F_lDeviceCopies_b3 at hz_33
                  refine aw_keep _ hH ?_
                  refine aw_wkN rfl 7 0 rfl rfl ?_
                  refine aw_seq ?_
                  refine aw_seq ?_
                  refine aw_region (by decide) ?_
                  refine rts _ rfl (opD_move (os rfl (os rfl oz))) ?_
                  refine rts _ rfl (opD_lss lz (ev_const _ _)) ?_
                  refine .nil ?_
                  refine aw_keep [(7, _), (13, _), (15, _), (153, _)] ⟨lg (ls rfl (ls rfl oz)), lg (ls rfl (ls rfl (os rfl oz))), lg (ls rfl (ls rfl (os rfl (os rfl oz)))), lg lz, trivial⟩ ?_
                  refine aw_cond _ (os rfl (os rfl (os rfl oz))) (fun hc => ?_) (fun hc => ?_)
                  · skip
                    replace hz_33 := ifb_t hz_33 hc
                    clear hc
                    refine aw_skip ?_
                    refine aw_keep [(7, _), (13, _), (15, _)] ⟨lg oz, lg (os rfl oz), lg (os rfl (os rfl oz)), trivial⟩ ?_
                    refine aw_seq ?_
                    refine aw_block ?_
                    refine aw_seq ?_
                    refine aw_region (by decide) ?_
                    refine rts _ rfl (opD_move oz) ?_
                    refine rts _ rfl (opD_move (ls rfl (os rfl (os rfl oz)))) ?_
                    replace hz_33 := bnd_some hz_33
                    obtain ⟨x_34, hx_34, hz_33⟩ := hz_33
                    refine rts _ rfl (opD_call ht20_W5 (c_dRead hx_34 (ud_len (m := 7) rfl rfl ⟨by omega, ⟨by omega, ⟨by omega, trivial⟩⟩, ⟨by omega, ⟨by omega, trivial⟩, ⟨by omega, trivial, trivial⟩⟩⟩) (loc_getN rfl rfl) (loc_getN rfl rfl) (loc_getN rfl rfl) (Pd.le_refl _) (mpf_bnd _ _) (Pd.le_refl _) (mpf_bnd _ _)) ⟨le_of_eq (ls rfl lz), le_of_eq lz, trivial⟩) ?_
                    refine rts _ rfl (opD_move lz) ?_
                    refine rts _ rfl (opD_extract lz rfl) ?_
                    refine rts _ rfl (opD_extract (ls rfl lz) rfl) ?_
                    refine rts _ rfl (opD_assign (ls rfl lz)) ?_
                    refine rts _ rfl (opD_assign (ls rfl lz)) ?_
                    refine .nil ?_
                    refine aw_keep [(7, _), (13, _), (15, _), (16, _), (17, _)] ⟨lg (ls rfl (ls rfl (ls rfl (ls rfl (ls rfl (ls rfl (ls rfl (ls rfl oz)))))))), lg (ls rfl (ls rfl (ls rfl (ls rfl (ls rfl (ls rfl (ls rfl (ls rfl (os rfl oz))))))))), lg (ls rfl (ls rfl (ls rfl (ls rfl (ls rfl (ls rfl (ls rfl (ls rfl (os rfl (os rfl oz)))))))))), lg (ls rfl lz), lg lz, trivial⟩ ?_
                    refine aw_seq ?_
                    refine aw_flat mixed_W5 (by decide +kernel) ?_
                    refine zts _ rfl (opD_move (os rfl (os rfl (os rfl (os rfl oz))))) ?_
                    refine zts _ rfl (opD_bin lz (ev_const _ _) (fun w => errV_guard _ w _) (fun w => errV_beq _ w)) ?_
                    refine zts _ rfl (opD_move lz) ?_
                    refine ztg _ rfl lz (fun hg30_3_138 => opD_move (ls rfl (ls rfl (ls rfl (os rfl (os rfl (os rfl oz))))))) ?_
                    refine ztg _ rfl (ls rfl lz) (fun hg30_4_139 => opD_bytes_str Go.Proofs.Tryd.underlying33 Go.Proofs.Tryd.underlying5 Go.Proofs.Tryd.underlying9 (lz.trans (pif_pos hg30_4_139))) ?_
                    refine ztg _ rfl (ls rfl (ls rfl lz)) (fun hg30_5_140 => opD_move (ls rfl (ls rfl (ls rfl (ls rfl (ls rfl (os rfl (os rfl oz)))))))) ?_
                    replace hz_33 := grd_some hz_33
                    obtain ⟨hg_142, hz_33⟩ := hz_33
                    refine ztg _ rfl (ls rfl (ls rfl (ls rfl lz))) (fun hg30_6_141 => opD_indexAddr_arr (i := t_32.toNat) Go.Proofs.Tryd.underlying30 sz5_W5 (ls rfl (ls rfl (ls rfl (ls rfl (ls rfl (ls rfl (os rfl oz))))))) (lz.trans (pif_pos hg30_6_141)) (hg_142 hg30_6_141).eq (hg_142 hg30_6_141).2) ?_
                    replace hz_33 := grd_some hz_33
                    obtain ⟨hg_144, hz_33⟩ := hz_33
                    refine ztg _ rfl (ls rfl (ls rfl (ls rfl (ls rfl lz)))) (fun hg30_7_143 => opD_load_one ag5_W5 (lz.trans (pif_pos hg30_7_143)) (loc_getN rfl rfl) (flat_at0 rfl (at_getD default (nat_lt (hg_144 hg30_7_143))) rfl)) ?_
                    replace hz_33 := bnd_some hz_33
                    obtain ⟨x_36, hx_36, hz_33⟩ := hz_33
                    refine ztg _ rfl (ls rfl (ls rfl (ls rfl (ls rfl (ls rfl lz))))) (fun hg30_8_145 => opD_pure ht16_W5 (c_l4sector (gif_some hx_36 hg30_8_145)) ⟨le_of_eq (lz.trans (pif_pos hg30_8_145)), trivial⟩) ?_
                    refine ztg _ rfl (ls rfl (ls rfl (ls rfl (ls rfl (ls rfl (ls rfl lz)))))) (fun hg30_9_146 => opD_bytes_str Go.Proofs.Tryd.underlying33 Go.Proofs.Tryd.underlying5 Go.Proofs.Tryd.underlying9 (lz.trans (pif_pos hg30_9_146))) ?_
                    refine ztg _ rfl (ls rfl (ls rfl (ls rfl (ls rfl (ls rfl (ls rfl (ls rfl lz))))))) (fun hg30_10_147 => opD_sneq ((ls rfl (ls rfl (ls rfl (ls rfl (ls rfl lz))))).trans (pif_pos hg30_10_147)) (lz.trans (pif_pos hg30_10_147))) ?_
                    refine zts _ rfl (opD_or (ls rfl (ls rfl (ls rfl (ls rfl (ls rfl (ls rfl (ls rfl (ls rfl lz)))))))) lz) ?_
                    refine .nil ?_
                    refine aw_keep [(7, _), (13, _), (15, _), (173, _)] ⟨lg (ls rfl (ls rfl (ls rfl (ls rfl (ls rfl (ls rfl (ls rfl (ls rfl (ls rfl (ls rfl (ls rfl (ls rfl oz)))))))))))), lg (ls rfl (ls rfl (ls rfl (ls rfl (ls rfl (ls rfl (ls rfl (ls rfl (ls rfl (ls rfl (ls rfl (ls rfl (os rfl oz))))))))))))), lg (ls rfl (ls rfl (ls rfl (ls rfl (ls rfl (ls rfl (ls rfl (ls rfl (ls rfl (ls rfl (ls rfl (ls rfl (os rfl (os rfl oz)))))))))))))), lg lz, trivial⟩ ?_
                    refine aw_cond _ (os rfl (os rfl (os rfl oz))) (fun hc => ?_) (fun hc => ?_)
                    · skip
                      replace hz_33 := ifb_t hz_33 hc
                      clear hc
                      refine aw_seq ?_
                      refine aw_region (by decide) ?_
                      refine rts _ rfl (opD_assign (ev_const _ _)) ?_
                      refine .nil ?_
                      refine aw_keep [(6, _)] ⟨lg lz, trivial⟩ ?_
                      refine aw_ret ?_
                      obtain rfl := some_of hz_33
                      replace hz_31 := ocs_r hz_31
                      obtain rfl := some_of hz_31
                      replace h0 := ocs_l h0
                      refine wk_no ?_
                      refine wk_no ?_
                      obtain rfl := some_of h0
                      exact done_ext (.inr rfl) ((res_one rfl (it_tmp oz)).le (Pd.le_refl _)) (pl_bnd _ _ _)
                    · skip
                      replace hz_33 := ifb_f hz_33 hc
                      clear hc
                      refine aw_skip ?_
                      refine aw_keep [(7, _), (13, _), (15, _)] ⟨lg oz, lg (os rfl oz), lg (os rfl (os rfl oz)), trivial⟩ ?_
                      refine aw_region (by decide) ?_
                      refine rts _ rfl (opD_move (os rfl (os rfl oz))) ?_
                      refine rts _ rfl (opD_add lz (ev_const _ _) rfl) ?_
                      refine rts _ rfl (opD_assign lz) ?_
                      refine .nil ?_
                      obtain rfl := some_of hz_33
                      replace hz_31 := ocs_l hz_31
                      refine wk_yesN rfl (l := [(7, ptr (s.boxes.length + 2) 0), (13, ptr (s.boxes.length + 6) 0), (15, pl (.int .i64 (IntKind.i64.wrap (t_32 + 1))))]) (bs' := [⟨HOT, [mpf KM_dev y_2.safe_]⟩, ⟨HOT, [mpf KM_dev vz_4.1]⟩, ⟨160, [pl (.int .i64 x_11.pages_), mref (s.boxes.length + 0), mref (s.boxes.length + 1), pl (.int .i64 x_11.left_), pl (.bool x_11.down_)]⟩, ⟨160, [pl (.int .i64 vz_16.1), mref (s.boxes.length + 4), mref (s.boxes.length + 5), pl (.int .i64 vz_16.2.1), pl (.bool vz_16.2.2.1)]⟩, ⟨HOT, [mpf KM_dev x_12.safe_]⟩, ⟨HOT, [mpf KM_dev vz_16.2.2.2]⟩, ⟨30, (flat (kI .u8) vz_26)⟩]) ⟨le_of_eq (eg (ls rfl (ls rfl (ls rfl oz)))), le_of_eq (eg (ls rfl (ls rfl (ls rfl (os rfl oz))))), le_of_eq (eg lz), trivial⟩ (bnd_cons (ptr_bnd _ (by first | omega | (simp only [List.length_append, List.length_cons, List.length_nil]; omega))) (bnd_cons (ptr_bnd _ (by first | omega | (simp only [List.length_append, List.length_cons, List.length_nil]; omega))) (bnd_cons (pl_bnd _ _ _) bnd_nil))) (Nat.le_of_ble_eq_true rfl) (by simp only [na, nb, nc, nd, nf, ng, nh, ni, nj, nk] <;> rfl) (bxle_same (bxle_same (bxle_same (bxle_same (bxle_same (bxle_same (bxle_same bxle_nil))))))) rfl (by simp only [na, nb, nc, nd, nf, ng, nh, ni, nj, nk] <;> rfl) (bl_cons (bnd_cons ((mpf_bnd _ _) _ _) bnd_nil) (bl_cons (bnd_cons ((mpf_bnd _ _) _ _) bnd_nil) (bl_cons (bnd_cons (pl_bnd _ _ _) (bnd_cons (mref_bnd _ (by first | omega | (simp only [List.length_append, List.length_cons, List.length_nil]; omega))) (bnd_cons (mref_bnd _ (by first | omega | (simp only [List.length_append, List.length_cons, List.length_nil]; omega))) (bnd_cons (pl_bnd _ _ _) (bnd_cons (pl_bnd _ _ _) bnd_nil))))) (bl_cons (bnd_cons (pl_bnd _ _ _) (bnd_cons (mref_bnd _ (by first | omega | (simp only [List.length_append, List.length_cons, List.length_nil]; omega))) (bnd_cons (mref_bnd _ (by first | omega | (simp only [List.length_append, List.length_cons, List.length_nil]; omega))) (bnd_cons (pl_bnd _ _ _) (bnd_cons (pl_bnd _ _ _) bnd_nil))))) (bl_cons (bnd_cons ((mpf_bnd _ _) _ _) bnd_nil) (bl_cons (bnd_cons ((mpf_bnd _ _) _ _) bnd_nil) (bl_cons (flatKB (kb_I _)) bl_nil))))))) ?_
                      exact ⟨m_z_33, Nat.lt_succ_self _, IntKind.i64.wrap (t_32 + 1), ⟨le_of_eq (eg oz), le_of_eq (eg (os rfl oz)), le_of_eq (eg (os rfl (os rfl oz))), trivial⟩, rfl, hz_31⟩
                  · skip
                    replace hz_33 := ifb_f hz_33 hc
                    clear hc
                    refine aw_exit ?_
                    obtain rfl := some_of hz_33
                    replace hz_31 := ocs_r hz_31
                    refine wk_no ?_
                    refine wk_yesN rfl (l := []) (bs' := [⟨HOT, [mpf KM_dev y_2.safe_]⟩, ⟨HOT, [mpf KM_dev vz_4.1]⟩, ⟨160, [pl (.int .i64 x_11.pages_), mref (s.boxes.length + 0), mref (s.boxes.length + 1), pl (.int .i64 x_11.left_), pl (.bool x_11.down_)]⟩, ⟨160, [pl (.int .i64 vz_16.1), mref (s.boxes.length + 4), mref (s.boxes.length + 5), pl (.int .i64 vz_16.2.1), pl (.bool vz_16.2.2.1)]⟩, ⟨HOT, [mpf KM_dev x_12.safe_]⟩, ⟨HOT, [mpf KM_dev vz_16.2.2.2]⟩, ⟨30, (flat (kI .u8) vz_26)⟩]) trivial bnd_nil (Nat.le_of_ble_eq_true rfl) (by simp only [na, nb, nc, nd, nf, ng, nh, ni, nj, nk] <;> rfl) (bxle_same (bxle_same (bxle_same (bxle_same (bxle_same (bxle_same (bxle_same bxle_nil))))))) rfl (by simp only [na, nb, nc, nd, nf, ng, nh, ni, nj, nk] <;> rfl) (bl_cons (bnd_cons ((mpf_bnd _ _) _ _) bnd_nil) (bl_cons (bnd_cons ((mpf_bnd _ _) _ _) bnd_nil) (bl_cons (bnd_cons (pl_bnd _ _ _) (bnd_cons (mref_bnd _ (by first | omega | (simp only [List.length_append, List.length_cons, List.length_nil]; omega))) (bnd_cons (mref_bnd _ (by first | omega | (simp only [List.length_append, List.length_cons, List.length_nil]; omega))) (bnd_cons (pl_bnd _ _ _) (bnd_cons (pl_bnd _ _ _) bnd_nil))))) (bl_cons (bnd_cons (pl_bnd _ _ _) (bnd_cons (mref_bnd _ (by first | omega | (simp only [List.length_append, List.length_cons, List.length_nil]; omega))) (bnd_cons (mref_bnd _ (by first | omega | (simp only [List.length_append, List.length_cons, List.length_nil]; omega))) (bnd_cons (pl_bnd _ _ _) (bnd_cons (pl_bnd _ _ _) bnd_nil))))) (bl_cons (bnd_cons ((mpf_bnd _ _) _ _) bnd_nil) (bl_cons (bnd_cons ((mpf_bnd _ _) _ _) bnd_nil) (bl_cons (flatKB (kb_I _)) bl_nil))))))) ?_
                    exact ⟨(), trivial, rfl, some_of hz_31⟩
                · rintro e st ⟨vz_31, hH, rfl, rfl⟩
                  refine aw_keep _ hH ?_
                  replace h0 := ocs_r h0
                  refine aw_keep [] trivial ?_
                  refine aw_seq ?_
                  refine aw_region (by decide) ?_
                  replace h0 := bnd_some h0
                  obtain ⟨x_37, hx_37, h0⟩ := h0
                  refine rts _ rfl (opD_call ht14_W5 (c_l4sure hx_37 hst) trivial) ?_
                  refine rts _ rfl (opD_assign lz) ?_
                  refine .nil ?_
                  refine aw_keep [(6, _)] ⟨lg lz, trivial⟩ ?_
                  refine aw_ret ?_
                  obtain rfl := some_of h0
                  exact done_ext (.inr rfl) ((res_one rfl (it_tmp oz)).le (Pd.le_refl _)) (pl_bnd _ _ _)
end Go.Proofs.YtjbgddpaclcjfaaDoor.Eng.A
