/- EE3: what functions do, walked; used by the laws of this seat. -/
import Derived.Test.YtokcgacehdgkcaaDoorEE1
import Derived.Test.YtokcgacehdgkcaaDoorEE2
namespace Go.Proofs.YtokcgacehdgkcaaDoor.Eng.A
set_option linter.unusedVariables false
set_option linter.unusedSimpArgs false
open Go.RowKit Go.Proofs.YtokcgacehdgkcaaDoor.Plain Go.Proofs.YtokcgacehdgkcaaDoor.Eng Go.Proofs.YtokcgacehdgkcaaDoor.Eng.Pk Go.Proofs.YtokcgacehdgkcaaDoor.Eng.Rd

theorem sz114_W2 : sizeT Tryd.prog 114 = some 2 := by kernel_rfl
theorem ag114_W2 : aggT Tryd.prog 114 = some true := by kernel_rfl
theorem mixed_W2 : Tryd.prog.follows .mixedOrders = true := by kernel_rfl
theorem cc145_W2 : Tryd.prog.concrete 145 = true := by kernel_rfl
theorem zt114_W2 : zeroT Tryd.prog 114 = some [.int .i64 0, .int .i64 0] := by kernel_rfl
theorem fo114_0_W2 : fieldOff Tryd.prog 114 0 = some 0 := by kernel_rfl
theorem ag3_W2 : aggT Tryd.prog 3 = some false := by kernel_rfl
theorem fo114_1_W2 : fieldOff Tryd.prog 114 1 = some 1 := by kernel_rfl
theorem ht102_W2 : hasText Tryd.prog 102 = true := by kernel_rfl
theorem ht103_W2 : hasText Tryd.prog 103 = true := by kernel_rfl
theorem ht49_W2 : hasText Tryd.prog 49 = true := by kernel_rfl
theorem pt114_W2 : placesT Tryd.prog 114 2 = some [(0, 1), (1, 1)] := by kernel_rfl
theorem el114_W2 : elT Tryd.prog 114 = some (2, 16) := by kernel_rfl
theorem ht170_W2 : hasText Tryd.prog 170 = true := by kernel_rfl
theorem ht171_W2 : hasText Tryd.prog 171 = true := by kernel_rfl

open Go.Proofs.YtokcgacehdgkcaaDoor.Eng.Er Go.Proofs.YtokcgacehdgkcaaDoor.Eng.Er2 Go.Proofs.YtokcgacehdgkcaaDoor.Eng.Ha

def F_equalX_b0 (p0 : (List Stx)) (p1 : (List Stx)) (t_2 : Int) : Option ((Int) ⊕ ((Bool) ⊕ (Unit))) :=
  ifb (decide (t_2 < (p0.length : Int))) (ixb p0 t_2 fun x_4 => ixb p1 t_2 fun x_5 => ifb (!(decide (x_4.From = x_5.From) && (decide (x_4.Many = x_5.Many) && true))) (some (.inr (.inl false))) (some (.inl (IntKind.i64.wrap (t_2 + 1))))) (some (.inr (.inr ())))
def F_equalX (fl : Nat) (p0 : (List Stx)) (p1 : (List Stx)) : Option (Bool) :=
  ifb (decide ((p0.length : Int) ≠ (p1.length : Int))) (some false) (bnd (lp (F_equalX_b0 p0 p1) fl 0) fun z_1 => ocs z_1 (fun qz_1_0 => some qz_1_0) fun z_1_0 => some true)
set_option maxRecDepth 100000 in
set_option maxHeartbeats 2000000 in
theorem c_equalX {fl : Nat} {p0 : (List Stx)} {p1 : (List Stx)} {R : Bool} (h0 : F_equalX fl p0 p1 = some R) : Pure Tryd.prog 170 [sl kStx none none p0, sl kStx none none p1] (pl (.bool R)) := by
  intro s
  unfold F_equalX at h0
  refine ac_of_aw s.boxes.length s.fr.length Tryd.func170 rfl (by simp [Tryd.ntmps170]) ?_
  refine aw_ext0 ?_
  refine aw_keep [(0, _), (1, _)] ⟨lg ez, lg (es ez), trivial⟩ ?_
  refine aw_seq ?_
  refine aw_region (by decide) ?_
  refine rts _ rfl (opD_assign (ev_const _ _)) ?_
  refine .nil ?_
  refine aw_keep [(0, _), (1, _)] ⟨lg (ls rfl oz), lg (ls rfl (os rfl oz)), trivial⟩ ?_
  refine aw_seq ?_
  refine aw_seq ?_
  refine aw_region (by decide) ?_
  refine rts _ rfl (opD_move oz) ?_
  refine rts _ rfl (opD_len_sl Tryd.underlying79 lz) ?_
  refine rts _ rfl (opD_move (ls rfl (ls rfl (os rfl oz)))) ?_
  refine rts _ rfl (opD_len_sl Tryd.underlying79 lz) ?_
  refine rts _ rfl (opD_neq (ls rfl (ls rfl lz)) lz) ?_
  refine .nil ?_
  refine aw_keep [(0, _), (1, _), (10, _)] ⟨lg (ls rfl (ls rfl (ls rfl (ls rfl (ls rfl oz))))), lg (ls rfl (ls rfl (ls rfl (ls rfl (ls rfl (os rfl oz)))))), lg lz, trivial⟩ ?_
  refine aw_cond _ (os rfl (os rfl oz)) (fun hc => ?_) (fun hc => ?_)
  · skip
    replace h0 := ifb_t h0 hc
    clear hc
    refine aw_seq ?_
    refine aw_region (by decide) ?_
    refine rts _ rfl (opD_assign (ev_const _ _)) ?_
    refine .nil ?_
    refine aw_keep [(4, _)] ⟨lg lz, trivial⟩ ?_
    refine aw_ret ?_
    obtain rfl := some_of h0
    exact done_ext (.inr rfl) ((res_one rfl (it_tmp oz)).le zLr) zPb
  · skip
    replace h0 := ifb_f h0 hc
    clear hc
    refine aw_skip ?_
    refine aw_keep [(0, _), (1, _)] ⟨lg oz, lg (os rfl oz), trivial⟩ ?_
    refine aw_seq ?_
    refine aw_seq ?_
    refine aw_region (by decide) ?_
    refine rts _ rfl (opD_move oz) ?_
    refine rts _ rfl (opD_len_sl Tryd.underlying79 lz) ?_
    refine rts _ rfl (opD_move (ev_const _ _)) ?_
    refine .nil ?_
    refine aw_keep [(0, _), (1, _), (12, _), (13, _)] ⟨lg (ls rfl (ls rfl (ls rfl oz))), lg (ls rfl (ls rfl (ls rfl (os rfl oz)))), lg (ls rfl lz), lg lz, trivial⟩ ?_
    replace h0 := bnd_some h0
    obtain ⟨z_1, hz_1, h0⟩ := h0
    refine aw_mid (fun e st => ∃ v : Unit, Holds e [] ∧ st = s.ext [] [] ∧ (.inr v) = z_1) ?_ ?_
    · skip
      refine aw_wkN rfl 0 0 rfl rfl ?_
      refine aw_block ?_
      refine aw_loop (fun n e st => ∃ v : Int, Holds e [(0, sl kStx none none p0), (1, sl kStx none none p1), (12, pl (.int .i64 (p0.length : Int))), (13, pl (.int .i64 v))] ∧ st = s.ext [] [] ∧ lp (F_equalX_b0 p0 p1) n v = some z_1) fl ⟨0, ⟨le_of_eq (eg oz), le_of_eq (eg (os rfl oz)), le_of_eq (eg (os rfl (os rfl oz))), le_of_eq (eg (os rfl (os rfl (os rfl oz)))), trivial⟩, rfl, hz_1⟩ ?_
      rintro n e st ⟨t_2, hH, rfl, hz_1⟩
      replace hz_1 := lp_some hz_1
      obtain ⟨m_z_3, z_3, rfl, hz_3, hz_1⟩ := hz_1
      unfold F_equalX_b0 at hz_3
      refine aw_keep _ hH ?_
      refine aw_wkN rfl 0 0 rfl rfl ?_
      refine aw_seq ?_
      refine aw_region (by decide) ?_
      refine rts _ rfl (opD_lss (os rfl (os rfl (os rfl oz))) (os rfl (os rfl oz))) ?_
      refine .nil ?_
      refine aw_keep [(0, _), (1, _), (12, _), (13, _), (14, _)] ⟨lg (ls rfl oz), lg (ls rfl (os rfl oz)), lg (ls rfl (os rfl (os rfl oz))), lg (ls rfl (os rfl (os rfl (os rfl oz)))), lg lz, trivial⟩ ?_
      refine aw_seq ?_
      refine aw_cond _ (os rfl (os rfl (os rfl (os rfl oz)))) (fun hc => ?_) (fun hc => ?_)
      · skip
        replace hz_3 := ifb_t hz_3 hc
        clear hc
        refine aw_skip ?_
        refine aw_keep [(0, _), (1, _), (12, _), (13, _)] ⟨lg oz, lg (os rfl oz), lg (os rfl (os rfl oz)), lg (os rfl (os rfl (os rfl oz))), trivial⟩ ?_
        refine aw_seq ?_
        refine aw_block ?_
        refine aw_seq ?_
        refine aw_region (by decide) ?_
        refine rts _ rfl (opD_move (os rfl (os rfl (os rfl oz)))) ?_
        refine rts _ rfl (opD_assign lz) ?_
        refine .nil ?_
        refine aw_keep [(0, _), (1, _), (5, _), (12, _), (13, _)] ⟨lg (ls rfl (ls rfl oz)), lg (ls rfl (ls rfl (os rfl oz))), lg lz, lg (ls rfl (ls rfl (os rfl (os rfl oz)))), lg (ls rfl (ls rfl (os rfl (os rfl (os rfl oz))))), trivial⟩ ?_
        refine aw_seq ?_
        refine aw_flat mixed_W2 (by decide +kernel) ?_
        refine zts _ rfl (opD_move oz) ?_
        refine zts _ rfl (opD_move (ls rfl (os rfl (os rfl oz)))) ?_
        replace hz_3 := ixb_some hz_3
        obtain ⟨x_4, hx_4, hbx_4, hz_3⟩ := hz_3
        refine zts _ rfl (opD_indexAddr_sl (i := t_2.toNat) Tryd.underlying79 sz114_W2 (ls rfl lz) lz hbx_4.2.2 hbx_4.2.1) ?_
        refine zts _ rfl (opD_load_el_aggX (qs := [_, _]) ag114_W2 sz114_W2 lz hx_4 (zNb rfl) rfl) ?_
        refine zts _ rfl (opD_move (ls rfl (ls rfl (ls rfl (ls rfl (os rfl oz)))))) ?_
        refine zts _ rfl (opD_move (ls rfl (ls rfl (ls rfl (ls rfl (ls rfl (os rfl (os rfl oz)))))))) ?_
        replace hz_3 := ixb_some hz_3
        obtain ⟨x_5, hx_5, hbx_5, hz_3⟩ := hz_3
        refine zts _ rfl (opD_indexAddr_sl (i := t_2.toNat) Tryd.underlying79 sz114_W2 (ls rfl lz) lz hbx_5.2.2 hbx_5.2.1) ?_
        refine zts _ rfl (opD_load_el_aggX (qs := [_, _]) ag114_W2 sz114_W2 lz hx_5 (zNb rfl) rfl) ?_
        refine zts _ rfl (opD_binA [.int .i64 x_4.From, .int .i64 x_4.Many] [.int .i64 x_5.From, .int .i64 x_5.Many] (ls rfl (ls rfl (ls rfl (ls rfl lz)))) lz (fun w => (eq_Stx_g _ _ _ _ _ w)) (fun w => (eq_Stx _ _ _ _ w).2)) ?_
        refine .nil ?_
        refine aw_keep [(0, _), (1, _), (12, _), (13, _), (24, _)] ⟨lg (ls rfl (ls rfl (ls rfl (ls rfl (ls rfl (ls rfl (ls rfl (ls rfl (ls rfl oz))))))))), lg (ls rfl (ls rfl (ls rfl (ls rfl (ls rfl (ls rfl (ls rfl (ls rfl (ls rfl (os rfl oz)))))))))), lg (ls rfl (ls rfl (ls rfl (ls rfl (ls rfl (ls rfl (ls rfl (ls rfl (ls rfl (os rfl (os rfl (os rfl oz)))))))))))), lg (ls rfl (ls rfl (ls rfl (ls rfl (ls rfl (ls rfl (ls rfl (ls rfl (ls rfl (os rfl (os rfl (os rfl (os rfl oz))))))))))))), lg lz, trivial⟩ ?_
        refine aw_cond _ (os rfl (os rfl (os rfl (os rfl oz)))) (fun hc => ?_) (fun hc => ?_)
        · skip
          replace hz_3 := ifb_t hz_3 hc
          clear hc
          refine aw_seq ?_
          refine aw_region (by decide) ?_
          refine rts _ rfl (opD_assign (ev_const _ _)) ?_
          refine .nil ?_
          refine aw_keep [(4, _)] ⟨lg lz, trivial⟩ ?_
          refine aw_ret ?_
          obtain rfl := some_of hz_3
          replace hz_1 := ocs_r hz_1
          obtain rfl := some_of hz_1
          replace h0 := ocs_l h0
          refine wk_no ?_
          refine wk_no ?_
          obtain rfl := some_of h0
          exact done_ext (.inr rfl) ((res_one rfl (it_tmp oz)).le zLr) zPb
        · skip
          replace hz_3 := ifb_f hz_3 hc
          clear hc
          refine aw_skip ?_
          refine aw_keep [(0, _), (1, _), (12, _), (13, _)] ⟨lg oz, lg (os rfl oz), lg (os rfl (os rfl oz)), lg (os rfl (os rfl (os rfl oz))), trivial⟩ ?_
          refine aw_region (by decide) ?_
          refine rts _ rfl (opD_add (os rfl (os rfl (os rfl oz))) (ev_const _ _) rfl) ?_
          refine rts _ rfl (opD_move lz) ?_
          refine .nil ?_
          obtain rfl := some_of hz_3
          replace hz_1 := ocs_l hz_1
          refine wk_yesN rfl (l := [(0, sl kStx none none p0), (1, sl kStx none none p1), (12, pl (.int .i64 (p0.length : Int))), (13, pl (.int .i64 (IntKind.i64.wrap (t_2 + 1))))]) (bs' := []) ⟨le_of_eq (eg (ls rfl (ls rfl oz))), le_of_eq (eg (ls rfl (ls rfl (os rfl oz)))), le_of_eq (eg (ls rfl (ls rfl (os rfl (os rfl oz))))), le_of_eq (eg lz), trivial⟩ (zbc (sl_b kb_Stx) (zbc (sl_b kb_Stx) (zbc zPb (zbc zPb bnd_nil)))) (zNb rfl) (by simp only [znz] <;> rfl) bxle_nil rfl (by simp only [znz] <;> rfl) bl_nil ?_
          exact ⟨m_z_3, Nat.lt_succ_self _, IntKind.i64.wrap (t_2 + 1), ⟨le_of_eq (eg oz), le_of_eq (eg (os rfl oz)), le_of_eq (eg (os rfl (os rfl oz))), le_of_eq (eg (os rfl (os rfl (os rfl oz)))), trivial⟩, rfl, hz_1⟩
      · skip
        replace hz_3 := ifb_f hz_3 hc
        clear hc
        refine aw_exit ?_
        obtain rfl := some_of hz_3
        replace hz_1 := ocs_r hz_1
        refine wk_no ?_
        refine wk_yesN rfl (l := []) (bs' := []) trivial bnd_nil (zNb rfl) (by simp only [znz] <;> rfl) bxle_nil rfl (by simp only [znz] <;> rfl) bl_nil ?_
        exact ⟨(), trivial, rfl, some_of hz_1⟩
    · rintro e st ⟨vz_1, hH, rfl, rfl⟩
      refine aw_keep _ hH ?_
      replace h0 := ocs_r h0
      refine aw_keep [] trivial ?_
      refine aw_seq ?_
      refine aw_region (by decide) ?_
      refine rts _ rfl (opD_assign (ev_const _ _)) ?_
      refine .nil ?_
      refine aw_keep [(4, _)] ⟨lg lz, trivial⟩ ?_
      refine aw_ret ?_
      obtain rfl := some_of h0
      exact done_ext (.inr rfl) ((res_one rfl (it_tmp oz)).le zLr) zPb

def F_xcheck_b0 (p0 : (List Stx)) (p1 : Int) (t_2 : Int) : Option ((Int) ⊕ (((Option Int)) ⊕ (Unit))) :=
  ifb (decide (t_2 < (p0.length : Int))) (ixb p0 t_2 fun x_4 => ifb ((((decide (x_4.From < 0)) || (decide (x_4.Many < 1))) || (decide (p1 ≤ x_4.From))) || (decide ((IntKind.i64.wrap (p1 - x_4.From)) < x_4.Many))) (some (.inr (.inl (some 1)))) (some (.inl (IntKind.i64.wrap (t_2 + 1))))) (some (.inr (.inr ())))
def F_xcheck_b1 (x_5 : (List Stx)) (t_7 : Int × Int) : Option ((Int × Int) ⊕ (((Option Int)) ⊕ (Unit))) :=
  ifb (decide (t_7.2 < ((x_5.length : Nat) : Int))) (grd (Below t_7.2 x_5.length) <| ixb x_5 ((t_7.2.toNat : Nat) : Int) fun x_9 => ifb (decide (x_9.From < t_7.1)) (some (.inr (.inl (some 1)))) (bnd (F_xend x_9) fun x_10 => some (.inl (x_10, IntKind.i64.wrap (t_7.2 + 1))))) (some (.inr (.inr ())))
def F_xcheck (fl : Nat) (p0 : (List Stx)) (p1 : Int) : Option ((Option Int)) :=
  ifb (((decide (p1 < 1)) || (decide (1024 < p1))) || (decide (p1 < (p0.length : Int)))) (some (some 1)) (bnd (lp (F_xcheck_b0 p0 p1) fl 0) fun z_1 => ocs z_1 (fun qz_1_0 => some qz_1_0) fun z_1_0 => bnd (F_sorted p0) fun x_5 => bnd (lp (F_xcheck_b1 x_5) fl (0, 0)) fun z_6 => ocs z_6 (fun qz_6_0 => some qz_6_0) fun z_6_0 => some none)
set_option maxRecDepth 100000 in
set_option maxHeartbeats 2000000 in
theorem c_xcheck {fl : Nat} {p0 : (List Stx)} {p1 : Int} {R : (Option Int)} (h0 : F_xcheck fl p0 p1 = some R) : Pure Tryd.prog 49 [sl kStx none none p0, pl (.int .i64 p1)] (pl (errV R)) := by
  intro s
  unfold F_xcheck at h0
  refine ac_of_aw s.boxes.length s.fr.length Tryd.func49 rfl (by simp [Tryd.ntmps49]) ?_
  refine aw_ext0 ?_
  refine aw_keep [(0, _), (1, _)] ⟨lg ez, lg (es ez), trivial⟩ ?_
  refine aw_seq ?_
  refine aw_region (by decide) ?_
  refine rts _ rfl (opD_assign (ev_const _ _)) ?_
  refine .nil ?_
  refine aw_keep [(0, _), (1, _)] ⟨lg (ls rfl oz), lg (ls rfl (os rfl oz)), trivial⟩ ?_
  refine aw_seq ?_
  refine aw_seq ?_
  refine aw_region (by decide) ?_
  refine rts _ rfl (opD_move (os rfl oz)) ?_
  refine rts _ rfl (opD_lss lz (ev_const _ _)) ?_
  refine rts _ rfl (opD_move lz) ?_
  refine rtg _ rfl lz (fun hg1_3_1 => opD_move (ls rfl (ls rfl (ls rfl (os rfl oz))))) ?_
  refine rtg _ rfl (ls rfl lz) (fun hg1_4_2 => opD_gtr (lz.trans (pif_pos hg1_4_2)) (ev_const _ _)) ?_
  refine rts _ rfl (opD_or (ls rfl (ls rfl lz)) lz) ?_
  refine rts _ rfl (opD_move lz) ?_
  refine rtg _ rfl lz (fun hg1_7_3 => opD_move (ls rfl (ls rfl (ls rfl (ls rfl (ls rfl (ls rfl (ls rfl oz)))))))) ?_
  refine rtg _ rfl (ls rfl lz) (fun hg1_8_4 => opD_len_sl Tryd.underlying79 (lz.trans (pif_pos hg1_8_4))) ?_
  refine rtg _ rfl (ls rfl (ls rfl lz)) (fun hg1_9_5 => opD_move (ls rfl (ls rfl (ls rfl (ls rfl (ls rfl (ls rfl (ls rfl (ls rfl (ls rfl (os rfl oz))))))))))) ?_
  refine rtg _ rfl (ls rfl (ls rfl (ls rfl lz))) (fun hg1_10_6 => opD_gtr ((ls rfl lz).trans (pif_pos hg1_10_6)) (lz.trans (pif_pos hg1_10_6))) ?_
  refine rts _ rfl (opD_or (ls rfl (ls rfl (ls rfl (ls rfl lz)))) lz) ?_
  refine .nil ?_
  refine aw_keep [(0, _), (1, _), (21, _)] ⟨lg (ls rfl (ls rfl (ls rfl (ls rfl (ls rfl (ls rfl (ls rfl (ls rfl (ls rfl (ls rfl (ls rfl (ls rfl oz)))))))))))), lg (ls rfl (ls rfl (ls rfl (ls rfl (ls rfl (ls rfl (ls rfl (ls rfl (ls rfl (ls rfl (ls rfl (ls rfl (os rfl oz))))))))))))), lg lz, trivial⟩ ?_
  refine aw_cond _ (os rfl (os rfl oz)) (fun hc => ?_) (fun hc => ?_)
  · skip
    replace h0 := ifb_t h0 hc
    clear hc
    refine aw_seq ?_
    refine aw_region (by decide) ?_
    refine rts _ rfl (opD_ple (q := pl (errV (some 1))) rfl (opD_makeInterface_pl cc145_W2 (ev_const _ _))) ?_
    refine rts _ rfl (opD_assign lz) ?_
    refine .nil ?_
    refine aw_keep [(4, _)] ⟨lg lz, trivial⟩ ?_
    refine aw_ret ?_
    obtain rfl := some_of h0
    exact done_ext (.inr rfl) ((res_one rfl (it_tmp oz)).le zLr) zPb
  · skip
    replace h0 := ifb_f h0 hc
    clear hc
    refine aw_skip ?_
    refine aw_keep [(0, _), (1, _)] ⟨lg oz, lg (os rfl oz), trivial⟩ ?_
    refine aw_seq ?_
    refine aw_seq ?_
    refine aw_region (by decide) ?_
    refine rts _ rfl (opD_move oz) ?_
    refine rts _ rfl (opD_len_sl Tryd.underlying79 lz) ?_
    refine rts _ rfl (opD_move (ev_const _ _)) ?_
    refine .nil ?_
    refine aw_keep [(0, _), (1, _), (23, _), (24, _), (25, _)] ⟨lg (ls rfl (ls rfl (ls rfl oz))), lg (ls rfl (ls rfl (ls rfl (os rfl oz)))), lg (ls rfl (ls rfl lz)), lg (ls rfl lz), lg lz, trivial⟩ ?_
    replace h0 := bnd_some h0
    obtain ⟨z_1, hz_1, h0⟩ := h0
    refine aw_mid (fun e st => ∃ v : Unit, Holds e [(0, sl kStx none none p0)] ∧ st = s.ext [] [] ∧ (.inr v) = z_1) ?_ ?_
    · skip
      refine aw_wkN rfl 0 0 rfl rfl ?_
      refine aw_block ?_
      refine aw_loop (fun n e st => ∃ v : Int, Holds e [(0, sl kStx none none p0), (1, pl (.int .i64 p1)), (23, sl kStx none none p0), (24, pl (.int .i64 (p0.length : Int))), (25, pl (.int .i64 v))] ∧ st = s.ext [] [] ∧ lp (F_xcheck_b0 p0 p1) n v = some z_1) fl ⟨0, ⟨le_of_eq (eg oz), le_of_eq (eg (os rfl oz)), le_of_eq (eg (os rfl (os rfl oz))), le_of_eq (eg (os rfl (os rfl (os rfl oz)))), le_of_eq (eg (os rfl (os rfl (os rfl (os rfl oz))))), trivial⟩, rfl, hz_1⟩ ?_
      rintro n e st ⟨t_2, hH, rfl, hz_1⟩
      replace hz_1 := lp_some hz_1
      obtain ⟨m_z_3, z_3, rfl, hz_3, hz_1⟩ := hz_1
      unfold F_xcheck_b0 at hz_3
      refine aw_keep _ hH ?_
      refine aw_wkN rfl 0 0 rfl rfl ?_
      refine aw_seq ?_
      refine aw_region (by decide) ?_
      refine rts _ rfl (opD_lss (os rfl (os rfl (os rfl (os rfl oz)))) (os rfl (os rfl (os rfl oz)))) ?_
      refine .nil ?_
      refine aw_keep [(0, _), (1, _), (23, _), (24, _), (25, _), (26, _)] ⟨lg (ls rfl oz), lg (ls rfl (os rfl oz)), lg (ls rfl (os rfl (os rfl oz))), lg (ls rfl (os rfl (os rfl (os rfl oz)))), lg (ls rfl (os rfl (os rfl (os rfl (os rfl oz))))), lg lz, trivial⟩ ?_
      refine aw_seq ?_
      refine aw_cond _ (os rfl (os rfl (os rfl (os rfl (os rfl oz))))) (fun hc => ?_) (fun hc => ?_)
      · skip
        replace hz_3 := ifb_t hz_3 hc
        clear hc
        refine aw_skip ?_
        refine aw_keep [(0, _), (1, _), (23, _), (24, _), (25, _)] ⟨lg oz, lg (os rfl oz), lg (os rfl (os rfl oz)), lg (os rfl (os rfl (os rfl oz))), lg (os rfl (os rfl (os rfl (os rfl oz)))), trivial⟩ ?_
        refine aw_seq ?_
        refine aw_block ?_
        refine aw_seq ?_
        refine aw_region (by decide) ?_
        replace hz_3 := ixb_some hz_3
        obtain ⟨x_4, hx_4, hbx_4, hz_3⟩ := hz_3
        refine rts _ rfl (opD_indexAddr_sl (i := t_2.toNat) Tryd.underlying79 sz114_W2 (os rfl (os rfl oz)) (os rfl (os rfl (os rfl (os rfl oz)))) hbx_4.2.2 hbx_4.2.1) ?_
        refine rts _ rfl (opD_load_el_aggX (qs := [_, _]) ag114_W2 sz114_W2 lz hx_4 (zNb rfl) rfl) ?_
        refine rts _ rfl (allocN rfl zt114_W2 (by first | exact List.length_nil | (simp only [List.length_cons, List.length_nil, Nat.zero_add, Nat.reduceAdd] <;> rfl)) (by simp only [znz] <;> rfl)) ?_
        refine rts _ rfl (storeAN rfl sz114_W2 lz (ls rfl lz) (ones_cons (one_pl rfl) (ones_cons (one_pl rfl) ones_nil)) rfl rfl (zNb rfl) (List.cons_ne_nil _ _) (zbc zPb (zbc zPb bnd_nil)) (by simp only [znz] <;> rfl) (by simp only [znz] <;> rfl)) ?_
        refine .nil ?_
        refine aw_keep [(0, _), (1, _), (6, _), (23, _), (24, _), (25, _)] ⟨lg (lx (ls rfl (ls rfl (ls rfl oz)))), lg (lx (ls rfl (ls rfl (ls rfl (os rfl oz))))), lg (lx lz), lg (lx (ls rfl (ls rfl (ls rfl (os rfl (os rfl oz)))))), lg (lx (ls rfl (ls rfl (ls rfl (os rfl (os rfl (os rfl oz))))))), lg (lx (ls rfl (ls rfl (ls rfl (os rfl (os rfl (os rfl (os rfl oz)))))))), trivial⟩ ?_
        refine aw_seq ?_
        refine aw_region (by decide) ?_
        refine rts _ rfl (opD_fieldAddr fo114_0_W2 (os rfl (os rfl oz))) ?_
        refine rts _ rfl (opD_load_one ag3_W2 lz (loc_getN rfl rfl) rfl) ?_
        refine rts _ rfl (opD_lss lz (ev_const _ _)) ?_
        refine rts _ rfl (opD_move lz) ?_
        refine rtg _ rfl lz (fun hg6_4_49 => opD_fieldAddr fo114_1_W2 (ls rfl (ls rfl (ls rfl (ls rfl (os rfl (os rfl oz))))))) ?_
        refine rtg _ rfl (ls rfl lz) (fun hg6_5_50 => opD_load_one ag3_W2 (lz.trans (pif_pos hg6_5_50)) (loc_getN rfl rfl) rfl) ?_
        refine rtg _ rfl (ls rfl (ls rfl lz)) (fun hg6_6_51 => opD_lss (lz.trans (pif_pos hg6_6_51)) (ev_const _ _)) ?_
        refine rts _ rfl (opD_or (ls rfl (ls rfl (ls rfl lz))) lz) ?_
        refine rts _ rfl (opD_move lz) ?_
        refine rtg _ rfl lz (fun hg6_9_52 => opD_fieldAddr fo114_0_W2 (ls rfl (ls rfl (ls rfl (ls rfl (ls rfl (ls rfl (ls rfl (ls rfl (ls rfl (os rfl (os rfl oz)))))))))))) ?_
        refine rtg _ rfl (ls rfl lz) (fun hg6_10_53 => opD_load_one ag3_W2 (lz.trans (pif_pos hg6_10_53)) (loc_getN rfl rfl) rfl) ?_
        refine rtg _ rfl (ls rfl (ls rfl lz)) (fun hg6_11_54 => opD_move (ls rfl (ls rfl (ls rfl (ls rfl (ls rfl (ls rfl (ls rfl (ls rfl (ls rfl (ls rfl (ls rfl (os rfl oz))))))))))))) ?_
        refine rtg _ rfl (ls rfl (ls rfl (ls rfl lz))) (fun hg6_12_55 => opD_geq ((ls rfl lz).trans (pif_pos hg6_12_55)) (lz.trans (pif_pos hg6_12_55))) ?_
        refine rts _ rfl (opD_or (ls rfl (ls rfl (ls rfl (ls rfl lz)))) lz) ?_
        refine rts _ rfl (opD_move lz) ?_
        refine rtg _ rfl lz (fun hg6_15_56 => opD_fieldAddr fo114_1_W2 (ls rfl (ls rfl (ls rfl (ls rfl (ls rfl (ls rfl (ls rfl (ls rfl (ls rfl (ls rfl (ls rfl (ls rfl (ls rfl (ls rfl (ls rfl (os rfl (os rfl oz)))))))))))))))))) ?_
        refine rtg _ rfl (ls rfl lz) (fun hg6_16_57 => opD_load_one ag3_W2 (lz.trans (pif_pos hg6_16_57)) (loc_getN rfl rfl) rfl) ?_
        refine rtg _ rfl (ls rfl (ls rfl lz)) (fun hg6_17_58 => opD_move (ls rfl (ls rfl (ls rfl (ls rfl (ls rfl (ls rfl (ls rfl (ls rfl (ls rfl (ls rfl (ls rfl (ls rfl (ls rfl (ls rfl (ls rfl (ls rfl (ls rfl (os rfl oz))))))))))))))))))) ?_
        refine rtg _ rfl (ls rfl (ls rfl (ls rfl lz))) (fun hg6_18_59 => opD_fieldAddr fo114_0_W2 (ls rfl (ls rfl (ls rfl (ls rfl (ls rfl (ls rfl (ls rfl (ls rfl (ls rfl (ls rfl (ls rfl (ls rfl (ls rfl (ls rfl (ls rfl (ls rfl (ls rfl (ls rfl (os rfl (os rfl oz))))))))))))))))))))) ?_
        refine rtg _ rfl (ls rfl (ls rfl (ls rfl (ls rfl lz)))) (fun hg6_19_60 => opD_load_one ag3_W2 (lz.trans (pif_pos hg6_19_60)) (loc_getN rfl rfl) rfl) ?_
        refine rtg _ rfl (ls rfl (ls rfl (ls rfl (ls rfl (ls rfl lz))))) (fun hg6_20_61 => opD_sub ((ls rfl (ls rfl lz)).trans (pif_pos hg6_20_61)) (lz.trans (pif_pos hg6_20_61)) rfl) ?_
        refine rtg _ rfl (ls rfl (ls rfl (ls rfl (ls rfl (ls rfl (ls rfl lz)))))) (fun hg6_21_62 => opD_gtr ((ls rfl (ls rfl (ls rfl (ls rfl lz)))).trans (pif_pos hg6_21_62)) (lz.trans (pif_pos hg6_21_62))) ?_
        refine rts _ rfl (opD_or (ls rfl (ls rfl (ls rfl (ls rfl (ls rfl (ls rfl (ls rfl lz))))))) lz) ?_
        refine .nil ?_
        refine aw_keep [(0, _), (1, _), (23, _), (24, _), (25, _), (51, _)] ⟨lg (ls rfl (ls rfl (ls rfl (ls rfl (ls rfl (ls rfl (ls rfl (ls rfl (ls rfl (ls rfl (ls rfl (ls rfl (ls rfl (ls rfl (ls rfl (ls rfl (ls rfl (ls rfl (ls rfl (ls rfl (ls rfl (ls rfl (ls rfl oz))))))))))))))))))))))), lg (ls rfl (ls rfl (ls rfl (ls rfl (ls rfl (ls rfl (ls rfl (ls rfl (ls rfl (ls rfl (ls rfl (ls rfl (ls rfl (ls rfl (ls rfl (ls rfl (ls rfl (ls rfl (ls rfl (ls rfl (ls rfl (ls rfl (ls rfl (os rfl oz)))))))))))))))))))))))), lg (ls rfl (ls rfl (ls rfl (ls rfl (ls rfl (ls rfl (ls rfl (ls rfl (ls rfl (ls rfl (ls rfl (ls rfl (ls rfl (ls rfl (ls rfl (ls rfl (ls rfl (ls rfl (ls rfl (ls rfl (ls rfl (ls rfl (ls rfl (os rfl (os rfl (os rfl oz)))))))))))))))))))))))))), lg (ls rfl (ls rfl (ls rfl (ls rfl (ls rfl (ls rfl (ls rfl (ls rfl (ls rfl (ls rfl (ls rfl (ls rfl (ls rfl (ls rfl (ls rfl (ls rfl (ls rfl (ls rfl (ls rfl (ls rfl (ls rfl (ls rfl (ls rfl (os rfl (os rfl (os rfl (os rfl oz))))))))))))))))))))))))))), lg (ls rfl (ls rfl (ls rfl (ls rfl (ls rfl (ls rfl (ls rfl (ls rfl (ls rfl (ls rfl (ls rfl (ls rfl (ls rfl (ls rfl (ls rfl (ls rfl (ls rfl (ls rfl (ls rfl (ls rfl (ls rfl (ls rfl (ls rfl (os rfl (os rfl (os rfl (os rfl (os rfl oz)))))))))))))))))))))))))))), lg lz, trivial⟩ ?_
        refine aw_cond _ (os rfl (os rfl (os rfl (os rfl (os rfl oz))))) (fun hc => ?_) (fun hc => ?_)
        · skip
          replace hz_3 := ifb_t hz_3 hc
          clear hc
          refine aw_seq ?_
          refine aw_region (by decide) ?_
          refine rts _ rfl (opD_ple (q := pl (errV (some 1))) rfl (opD_makeInterface_pl cc145_W2 (ev_const _ _))) ?_
          refine rts _ rfl (opD_assign lz) ?_
          refine .nil ?_
          refine aw_keep [(4, _)] ⟨lg lz, trivial⟩ ?_
          refine aw_ret ?_
          obtain rfl := some_of hz_3
          replace hz_1 := ocs_r hz_1
          obtain rfl := some_of hz_1
          replace h0 := ocs_l h0
          refine wk_no ?_
          refine wk_no ?_
          obtain rfl := some_of h0
          exact done_ext (.inr rfl) ((res_one rfl (it_tmp oz)).le zLr) zPb
        · skip
          replace hz_3 := ifb_f hz_3 hc
          clear hc
          refine aw_skip ?_
          refine aw_keep [(0, _), (1, _), (23, _), (24, _), (25, _)] ⟨lg oz, lg (os rfl oz), lg (os rfl (os rfl oz)), lg (os rfl (os rfl (os rfl oz))), lg (os rfl (os rfl (os rfl (os rfl oz)))), trivial⟩ ?_
          refine aw_region (by decide) ?_
          refine rts _ rfl (opD_add (os rfl (os rfl (os rfl (os rfl oz)))) (ev_const _ _) rfl) ?_
          refine rts _ rfl (opD_move lz) ?_
          refine .nil ?_
          obtain rfl := some_of hz_3
          replace hz_1 := ocs_l hz_1
          refine wk_yesN rfl (l := [(0, sl kStx none none p0), (1, pl (.int .i64 p1)), (23, sl kStx none none p0), (24, pl (.int .i64 (p0.length : Int))), (25, pl (.int .i64 (IntKind.i64.wrap (t_2 + 1))))]) (bs' := []) ⟨le_of_eq (eg (ls rfl (ls rfl oz))), le_of_eq (eg (ls rfl (ls rfl (os rfl oz)))), le_of_eq (eg (ls rfl (ls rfl (os rfl (os rfl oz))))), le_of_eq (eg (ls rfl (ls rfl (os rfl (os rfl (os rfl oz)))))), le_of_eq (eg lz), trivial⟩ (zbc (sl_b kb_Stx) (zbc zPb (zbc (sl_b kb_Stx) (zbc zPb (zbc zPb bnd_nil))))) (zNb rfl) (by simp only [znz] <;> rfl) bxle_nil rfl (by simp only [znz] <;> rfl) bl_nil ?_
          exact ⟨m_z_3, Nat.lt_succ_self _, IntKind.i64.wrap (t_2 + 1), ⟨le_of_eq (eg oz), le_of_eq (eg (os rfl oz)), le_of_eq (eg (os rfl (os rfl oz))), le_of_eq (eg (os rfl (os rfl (os rfl oz)))), le_of_eq (eg (os rfl (os rfl (os rfl (os rfl oz))))), trivial⟩, rfl, hz_1⟩
      · skip
        replace hz_3 := ifb_f hz_3 hc
        clear hc
        refine aw_exit ?_
        obtain rfl := some_of hz_3
        replace hz_1 := ocs_r hz_1
        refine wk_no ?_
        refine wk_yesN rfl (l := [(0, sl kStx none none p0)]) (bs' := []) ⟨le_of_eq (eg oz), trivial⟩ (zbc (sl_b kb_Stx) bnd_nil) (zNb rfl) (by simp only [znz] <;> rfl) bxle_nil rfl (by simp only [znz] <;> rfl) bl_nil ?_
        exact ⟨(), ⟨le_of_eq (eg oz), trivial⟩, rfl, some_of hz_1⟩
    · rintro e st ⟨vz_1, hH, rfl, rfl⟩
      refine aw_keep _ hH ?_
      replace h0 := ocs_r h0
      refine aw_keep [(0, _)] ⟨lg oz, trivial⟩ ?_
      refine aw_seq ?_
      refine aw_region (by decide) ?_
      refine rts _ rfl (opD_assign (ev_const _ _)) ?_
      refine .nil ?_
      refine aw_keep [(0, _), (7, _)] ⟨lg (ls rfl oz), lg lz, trivial⟩ ?_
      refine aw_seq ?_
      refine aw_seq ?_
      refine aw_region (by decide) ?_
      refine rts _ rfl (opD_move oz) ?_
      replace h0 := bnd_some h0
      obtain ⟨x_5, hx_5, h0⟩ := h0
      refine rts _ rfl (opD_ple (q := hsl (s.boxes.length + 1) 281474976710658 0 x_5.length kStx.sz) rfl (opD_to (X' := s.ext [⟨79, []⟩, ⟨(hot 114 281474976710658), (flat kStx x_5)⟩, ⟨79, []⟩] []) (opD_call ht102_W2 (c_sorted hx_5 (xlen rfl rfl)) ⟨le_of_eq lz, trivial⟩) (ul_new rfl (by simp only [znz] <;> rfl)))) ?_
      refine rts _ rfl (opD_len_h Tryd.underlying79 lz) ?_
      refine rts _ rfl (opD_move (ev_const _ _)) ?_
      refine .nil ?_
      refine aw_keep [(7, _), (55, _), (56, _), (57, _)] ⟨lg (ls rfl (ls rfl (ls rfl (ls rfl (os rfl oz))))), lg (ls rfl (ls rfl lz)), lg (ls rfl lz), lg lz, trivial⟩ ?_
      replace h0 := bnd_some h0
      obtain ⟨z_6, hz_6, h0⟩ := h0
      refine aw_mid (fun e st => ∃ v : Unit, Holds e [] ∧ st = s.ext [⟨79, []⟩, ⟨(hot 114 281474976710658), (flat kStx x_5)⟩, ⟨79, []⟩] [] ∧ (.inr v) = z_6) ?_ ?_
      · skip
        refine aw_wkN rfl 3 0 rfl rfl ?_
        refine aw_block ?_
        refine aw_loop (fun n e st => ∃ v : Int × Int, Holds e [(7, pl (.int .i64 v.1)), (55, hsl (s.boxes.length + 1) 281474976710658 0 x_5.length kStx.sz), (56, pl (.int .i64 ((x_5.length : Nat) : Int))), (57, pl (.int .i64 v.2))] ∧ st = s.ext [⟨79, []⟩, ⟨(hot 114 281474976710658), (flat kStx x_5)⟩, ⟨79, []⟩] [] ∧ lp (F_xcheck_b1 x_5) n v = some z_6) fl ⟨(0, 0), ⟨le_of_eq (eg oz), le_of_eq (eg (os rfl oz)), le_of_eq (eg (os rfl (os rfl oz))), le_of_eq (eg (os rfl (os rfl (os rfl oz)))), trivial⟩, rfl, hz_6⟩ ?_
        rintro n e st ⟨t_7, hH, rfl, hz_6⟩
        replace hz_6 := lp_some hz_6
        obtain ⟨m_z_8, z_8, rfl, hz_8, hz_6⟩ := hz_6
        unfold F_xcheck_b1 at hz_8
        refine aw_keep _ hH ?_
        refine aw_wkN rfl 3 0 rfl rfl ?_
        refine aw_seq ?_
        refine aw_region (by decide) ?_
        refine rts _ rfl (opD_lss (os rfl (os rfl (os rfl oz))) (os rfl (os rfl oz))) ?_
        refine .nil ?_
        refine aw_keep [(7, _), (55, _), (56, _), (57, _), (58, _)] ⟨lg (ls rfl oz), lg (ls rfl (os rfl oz)), lg (ls rfl (os rfl (os rfl oz))), lg (ls rfl (os rfl (os rfl (os rfl oz)))), lg lz, trivial⟩ ?_
        refine aw_seq ?_
        refine aw_cond _ (os rfl (os rfl (os rfl (os rfl oz)))) (fun hc => ?_) (fun hc => ?_)
        · skip
          replace hz_8 := ifb_t hz_8 hc
          clear hc
          refine aw_skip ?_
          refine aw_keep [(7, _), (55, _), (56, _), (57, _)] ⟨lg oz, lg (os rfl oz), lg (os rfl (os rfl oz)), lg (os rfl (os rfl (os rfl oz))), trivial⟩ ?_
          refine aw_seq ?_
          refine aw_block ?_
          refine aw_seq ?_
          refine aw_region (by decide) ?_
          replace hz_8 := grd_some hz_8
          obtain ⟨hg_66, hz_8⟩ := hz_8
          refine rts _ rfl (opD_indexAddr_hx (i := t_7.2.toNat) Tryd.underlying79 sz114_W2 rfl ⟨_, (loc_getN rfl rfl)⟩ (os rfl oz) (os rfl (os rfl (os rfl oz))) hg_66.eq hg_66.2) ?_
          replace hz_8 := ixb_some hz_8
          obtain ⟨x_9, hx_9, hbx_9, hz_8⟩ := hz_8
          refine rts _ rfl (loadE (k := kStx) ag114_W2 sz114_W2 rfl (zNb rfl) (by decide) lz (loc_getN rfl rfl) (nat_ix hx_9)) ?_
          refine rts _ rfl (allocN rfl zt114_W2 (by first | exact List.length_nil | (simp only [List.length_cons, List.length_nil, Nat.zero_add, Nat.reduceAdd] <;> rfl)) (by simp only [znz] <;> rfl)) ?_
          refine rts _ rfl (storeAN rfl sz114_W2 lz (ls rfl lz) (ones_cons (one_pl rfl) (ones_cons (one_pl rfl) ones_nil)) rfl rfl (zNb rfl) (List.cons_ne_nil _ _) (zbc zPb (zbc zPb bnd_nil)) (by simp only [znz] <;> rfl) (by simp only [znz] <;> rfl)) ?_
          refine .nil ?_
          refine aw_keep [(7, _), (9, _), (55, _), (56, _), (57, _)] ⟨lg (lx (ls rfl (ls rfl (ls rfl oz)))), lg (lx lz), lg (lx (ls rfl (ls rfl (ls rfl (os rfl oz))))), lg (lx (ls rfl (ls rfl (ls rfl (os rfl (os rfl oz)))))), lg (lx (ls rfl (ls rfl (ls rfl (os rfl (os rfl (os rfl oz))))))), trivial⟩ ?_
          refine aw_seq ?_
          refine aw_seq ?_
          refine aw_region (by decide) ?_
          refine rts _ rfl (opD_fieldAddr fo114_0_W2 (os rfl oz)) ?_
          refine rts _ rfl (opD_load_one ag3_W2 lz (loc_getN rfl rfl) rfl) ?_
          refine rts _ rfl (opD_move (ls rfl (ls rfl oz))) ?_
          refine rts _ rfl (opD_lss (ls rfl lz) lz) ?_
          refine .nil ?_
          refine aw_keep [(9, _), (55, _), (56, _), (57, _), (64, _)] ⟨lg (ls rfl (ls rfl (ls rfl (ls rfl (os rfl oz))))), lg (ls rfl (ls rfl (ls rfl (ls rfl (os rfl (os rfl oz)))))), lg (ls rfl (ls rfl (ls rfl (ls rfl (os rfl (os rfl (os rfl oz))))))), lg (ls rfl (ls rfl (ls rfl (ls rfl (os rfl (os rfl (os rfl (os rfl oz)))))))), lg lz, trivial⟩ ?_
          refine aw_cond _ (os rfl (os rfl (os rfl (os rfl oz)))) (fun hc => ?_) (fun hc => ?_)
          · skip
            replace hz_8 := ifb_t hz_8 hc
            clear hc
            refine aw_seq ?_
            refine aw_region (by decide) ?_
            refine rts _ rfl (opD_ple (q := pl (errV (some 1))) rfl (opD_makeInterface_pl cc145_W2 (ev_const _ _))) ?_
            refine rts _ rfl (opD_assign lz) ?_
            refine .nil ?_
            refine aw_keep [(4, _)] ⟨lg lz, trivial⟩ ?_
            refine aw_seal (k := kStx) (bs' := [⟨79, []⟩, ⟨((hot 114 281474976710658) + HOT), []⟩, ⟨79, []⟩, ⟨114, [pl (.int .i64 x_9.From), pl (.int .i64 x_9.Many)]⟩]) (i := 1) (r := 281474976710658) (te := 114) rfl [(4, pl (errV (some 1)))] rfl rfl (zNb rfl) rfl (by decide) ⟨rfl, SealL.refl _, ⟨rfl, rfl, ⟨rfl, SealL.refl _, ⟨rfl, SealL.refl _, trivial⟩⟩⟩⟩ (bl_cons bnd_nil (bl_cons bnd_nil (bl_cons bnd_nil (bl_cons (zbc zPb (zbc zPb bnd_nil)) bl_nil)))) ⟨seal_e oz (seal_same _), trivial⟩ ?_
            refine aw_ret ?_
            obtain rfl := some_of hz_8
            replace hz_6 := ocs_r hz_6
            obtain rfl := some_of hz_6
            replace h0 := ocs_l h0
            refine wk_no ?_
            refine wk_no ?_
            obtain rfl := some_of h0
            exact done_ext (.inr rfl) ((res_one rfl (it_tmp oz)).le zLr) zPb
          · skip
            replace hz_8 := ifb_f hz_8 hc
            clear hc
            refine aw_skip ?_
            refine aw_keep [(9, _), (55, _), (56, _), (57, _)] ⟨lg oz, lg (os rfl oz), lg (os rfl (os rfl oz)), lg (os rfl (os rfl (os rfl oz))), trivial⟩ ?_
            refine aw_region (by decide) ?_
            refine rts _ rfl (opD_load_aggX (qs := [_, _]) ag114_W2 sz114_W2 oz (loc_getN rfl rfl) (zNb rfl) rfl) ?_
            replace hz_8 := bnd_some hz_8
            obtain ⟨x_10, hx_10, hz_8⟩ := hz_8
            refine rts _ rfl (opD_pure ht103_W2 (c_xend hx_10) ⟨(le_of_eq lz).trans (agg_le ⟨zLr, zLr, trivial⟩), trivial⟩) ?_
            refine rts _ rfl (opD_assign lz) ?_
            refine .nil ?_
            refine aw_keep [(7, _), (55, _), (56, _), (57, _)] ⟨lg lz, lg (ls rfl (ls rfl (ls rfl (os rfl oz)))), lg (ls rfl (ls rfl (ls rfl (os rfl (os rfl oz))))), lg (ls rfl (ls rfl (ls rfl (os rfl (os rfl (os rfl oz)))))), trivial⟩ ?_
            refine aw_region (by decide) ?_
            refine rts _ rfl (opD_add (os rfl (os rfl (os rfl oz))) (ev_const _ _) rfl) ?_
            refine rts _ rfl (opD_move lz) ?_
            refine .nil ?_
            obtain rfl := some_of hz_8
            replace hz_6 := ocs_l hz_6
            refine wk_yesN rfl (l := [(7, pl (.int .i64 x_10)), (55, hsl (s.boxes.length + 1) 281474976710658 0 x_5.length kStx.sz), (56, pl (.int .i64 ((x_5.length : Nat) : Int))), (57, pl (.int .i64 (IntKind.i64.wrap (t_7.2 + 1))))]) (bs' := [⟨79, []⟩, ⟨(hot 114 281474976710658), (flat kStx x_5)⟩, ⟨79, []⟩]) ⟨le_of_eq (eg (ls rfl (ls rfl oz))), le_of_eq (eg (ls rfl (ls rfl (os rfl oz)))), le_of_eq (eg (ls rfl (ls rfl (os rfl (os rfl oz))))), le_of_eq (eg lz), trivial⟩ (zbc zPb (zbc (hsl_bnd _ (by first | omega | (simp only [List.length_append, List.length_cons, List.length_nil]; omega))) (zbc zPb (zbc zPb bnd_nil)))) (zNb rfl) (by simp only [znz] <;> rfl) (bxle_same (bxle_same (bxle_same bxle_nil))) rfl (by simp only [znz] <;> rfl) (bl_cons bnd_nil (bl_cons (flatKB kb_Stx) (bl_cons bnd_nil bl_nil))) ?_
            exact ⟨m_z_8, Nat.lt_succ_self _, (x_10, IntKind.i64.wrap (t_7.2 + 1)), ⟨le_of_eq (eg oz), le_of_eq (eg (os rfl oz)), le_of_eq (eg (os rfl (os rfl oz))), le_of_eq (eg (os rfl (os rfl (os rfl oz)))), trivial⟩, rfl, hz_6⟩
        · skip
          replace hz_8 := ifb_f hz_8 hc
          clear hc
          refine aw_exit ?_
          obtain rfl := some_of hz_8
          replace hz_6 := ocs_r hz_6
          refine wk_no ?_
          refine wk_yesN rfl (l := []) (bs' := [⟨79, []⟩, ⟨(hot 114 281474976710658), (flat kStx x_5)⟩, ⟨79, []⟩]) trivial bnd_nil (zNb rfl) (by simp only [znz] <;> rfl) (bxle_same (bxle_same (bxle_same bxle_nil))) rfl (by simp only [znz] <;> rfl) (bl_cons bnd_nil (bl_cons (flatKB kb_Stx) (bl_cons bnd_nil bl_nil))) ?_
          exact ⟨(), trivial, rfl, some_of hz_6⟩
      · rintro e st ⟨vz_6, hH, rfl, rfl⟩
        refine aw_keep _ hH ?_
        replace h0 := ocs_r h0
        refine aw_keep [] trivial ?_
        refine aw_seq ?_
        refine aw_region (by decide) ?_
        refine rts _ rfl (opD_assign (ev_const _ _)) ?_
        refine .nil ?_
        refine aw_keep [(4, _)] ⟨lg lz, trivial⟩ ?_
        refine aw_seal (k := kStx) (bs' := [⟨79, []⟩, ⟨((hot 114 281474976710658) + HOT), []⟩, ⟨79, []⟩]) (i := 1) (r := 281474976710658) (te := 114) rfl [(4, pl (errV none))] rfl rfl (zNb rfl) rfl (by decide) ⟨rfl, SealL.refl _, ⟨rfl, rfl, ⟨rfl, SealL.refl _, trivial⟩⟩⟩ (bl_cons bnd_nil (bl_cons bnd_nil (bl_cons bnd_nil bl_nil))) ⟨seal_e oz (seal_same _), trivial⟩ ?_
        refine aw_ret ?_
        obtain rfl := some_of h0
        exact done_ext (.inr rfl) ((res_one rfl (it_tmp oz)).le zLr) zPb

def F_xMany_b0 (p0 : (List Stx)) (t_3 : Int × Int) : Option ((Int × Int) ⊕ ((Int))) :=
  ifb (decide (t_3.2 < (p0.length : Int))) (ixb p0 t_3.2 fun x_5 => some (.inl (IntKind.i64.wrap (t_3.1 + x_5.Many), IntKind.i64.wrap (t_3.2 + 1)))) (some (.inr t_3.1))
def F_xMany (fl : Nat) (p0 : (List Stx)) : Option (Int) :=
  bnd (F_xcheck fl p0 1024) fun x_1 => ifb x_1.isSome (some 0) (bnd (lp (F_xMany_b0 p0) fl (0, 0)) fun z_2 => some z_2)
set_option maxRecDepth 100000 in
set_option maxHeartbeats 2000000 in
theorem c_xMany {fl : Nat} {p0 : (List Stx)} {R : Int} (h0 : F_xMany fl p0 = some R) : Pure Tryd.prog 43 [sl kStx none none p0] (pl (.int .i64 R)) := by
  intro s
  unfold F_xMany at h0
  refine ac_of_aw s.boxes.length s.fr.length Tryd.func43 rfl (by simp [Tryd.ntmps43]) ?_
  refine aw_ext0 ?_
  refine aw_keep [(0, _)] ⟨lg ez, trivial⟩ ?_
  refine aw_seq ?_
  refine aw_region (by decide) ?_
  refine rts _ rfl (opD_assign (ev_const _ _)) ?_
  refine .nil ?_
  refine aw_keep [(0, _)] ⟨lg (ls rfl oz), trivial⟩ ?_
  refine aw_seq ?_
  refine aw_seq ?_
  refine aw_region (by decide) ?_
  refine rts _ rfl (opD_move oz) ?_
  replace h0 := bnd_some h0
  obtain ⟨x_1, hx_1, h0⟩ := h0
  refine rts _ rfl (opD_pure ht49_W2 (c_xcheck hx_1) ⟨le_of_eq lz, le_of_eq (ev_const _ _), trivial⟩) ?_
  refine rts _ rfl (opD_bin lz (ev_const _ _) (fun w => errV_guard _ w _) (fun w => errV_beq _ w)) ?_
  refine .nil ?_
  refine aw_keep [(0, _), (8, _)] ⟨lg (ls rfl (ls rfl (ls rfl oz))), lg lz, trivial⟩ ?_
  refine aw_cond _ (os rfl oz) (fun hc => ?_) (fun hc => ?_)
  · skip
    replace h0 := ifb_t h0 hc
    clear hc
    refine aw_seq ?_
    refine aw_region (by decide) ?_
    refine rts _ rfl (opD_assign (ev_const _ _)) ?_
    refine .nil ?_
    refine aw_keep [(2, _)] ⟨lg lz, trivial⟩ ?_
    refine aw_ret ?_
    obtain rfl := some_of h0
    exact done_ext (.inr rfl) ((res_one rfl (it_tmp oz)).le zLr) zPb
  · skip
    replace h0 := ifb_f h0 hc
    clear hc
    refine aw_skip ?_
    refine aw_keep [(0, _)] ⟨lg oz, trivial⟩ ?_
    refine aw_seq ?_
    refine aw_region (by decide) ?_
    refine rts _ rfl (opD_assign (ev_const _ _)) ?_
    refine .nil ?_
    refine aw_keep [(0, _), (3, _)] ⟨lg (ls rfl oz), lg lz, trivial⟩ ?_
    refine aw_seq ?_
    refine aw_seq ?_
    refine aw_region (by decide) ?_
    refine rts _ rfl (opD_move oz) ?_
    refine rts _ rfl (opD_len_sl Tryd.underlying79 lz) ?_
    refine rts _ rfl (opD_move (ev_const _ _)) ?_
    refine .nil ?_
    refine aw_keep [(3, _), (9, _), (10, _), (11, _)] ⟨lg (ls rfl (ls rfl (ls rfl (os rfl oz)))), lg (ls rfl (ls rfl lz)), lg (ls rfl lz), lg lz, trivial⟩ ?_
    replace h0 := bnd_some h0
    obtain ⟨z_2, hz_2, h0⟩ := h0
    refine aw_mid (fun e st => ∃ v : Int, Holds e [(3, pl (.int .i64 v))] ∧ st = s.ext [] [] ∧ v = z_2) ?_ ?_
    · skip
      refine aw_wkN rfl 0 0 rfl rfl ?_
      refine aw_block ?_
      refine aw_loop (fun n e st => ∃ v : Int × Int, Holds e [(3, pl (.int .i64 v.1)), (9, sl kStx none none p0), (10, pl (.int .i64 (p0.length : Int))), (11, pl (.int .i64 v.2))] ∧ st = s.ext [] [] ∧ lp (F_xMany_b0 p0) n v = some z_2) fl ⟨(0, 0), ⟨le_of_eq (eg oz), le_of_eq (eg (os rfl oz)), le_of_eq (eg (os rfl (os rfl oz))), le_of_eq (eg (os rfl (os rfl (os rfl oz)))), trivial⟩, rfl, hz_2⟩ ?_
      rintro n e st ⟨t_3, hH, rfl, hz_2⟩
      replace hz_2 := lp_some hz_2
      obtain ⟨m_z_4, z_4, rfl, hz_4, hz_2⟩ := hz_2
      unfold F_xMany_b0 at hz_4
      refine aw_keep _ hH ?_
      refine aw_wkN rfl 0 0 rfl rfl ?_
      refine aw_seq ?_
      refine aw_region (by decide) ?_
      refine rts _ rfl (opD_lss (os rfl (os rfl (os rfl oz))) (os rfl (os rfl oz))) ?_
      refine .nil ?_
      refine aw_keep [(3, _), (9, _), (10, _), (11, _), (12, _)] ⟨lg (ls rfl oz), lg (ls rfl (os rfl oz)), lg (ls rfl (os rfl (os rfl oz))), lg (ls rfl (os rfl (os rfl (os rfl oz)))), lg lz, trivial⟩ ?_
      refine aw_seq ?_
      refine aw_cond _ (os rfl (os rfl (os rfl (os rfl oz)))) (fun hc => ?_) (fun hc => ?_)
      · skip
        replace hz_4 := ifb_t hz_4 hc
        clear hc
        refine aw_skip ?_
        refine aw_keep [(3, _), (9, _), (10, _), (11, _)] ⟨lg oz, lg (os rfl oz), lg (os rfl (os rfl oz)), lg (os rfl (os rfl (os rfl oz))), trivial⟩ ?_
        refine aw_seq ?_
        refine aw_block ?_
        refine aw_seq ?_
        refine aw_region (by decide) ?_
        replace hz_4 := ixb_some hz_4
        obtain ⟨x_5, hx_5, hbx_5, hz_4⟩ := hz_4
        refine rts _ rfl (opD_indexAddr_sl (i := t_3.2.toNat) Tryd.underlying79 sz114_W2 (os rfl oz) (os rfl (os rfl (os rfl oz))) hbx_5.2.2 hbx_5.2.1) ?_
        refine rts _ rfl (opD_load_el_aggX (qs := [_, _]) ag114_W2 sz114_W2 lz hx_5 (zNb rfl) rfl) ?_
        refine rts _ rfl (allocN rfl zt114_W2 (by first | exact List.length_nil | (simp only [List.length_cons, List.length_nil, Nat.zero_add, Nat.reduceAdd] <;> rfl)) (by simp only [znz] <;> rfl)) ?_
        refine rts _ rfl (storeAN rfl sz114_W2 lz (ls rfl lz) (ones_cons (one_pl rfl) (ones_cons (one_pl rfl) ones_nil)) rfl rfl (zNb rfl) (List.cons_ne_nil _ _) (zbc zPb (zbc zPb bnd_nil)) (by simp only [znz] <;> rfl) (by simp only [znz] <;> rfl)) ?_
        refine .nil ?_
        refine aw_keep [(3, _), (5, _), (9, _), (10, _), (11, _)] ⟨lg (lx (ls rfl (ls rfl (ls rfl oz)))), lg (lx lz), lg (lx (ls rfl (ls rfl (ls rfl (os rfl oz))))), lg (lx (ls rfl (ls rfl (ls rfl (os rfl (os rfl oz)))))), lg (lx (ls rfl (ls rfl (ls rfl (os rfl (os rfl (os rfl oz))))))), trivial⟩ ?_
        refine aw_region (by decide) ?_
        refine rts _ rfl (opD_move oz) ?_
        refine rts _ rfl (opD_fieldAddr fo114_1_W2 (ls rfl (os rfl oz))) ?_
        refine rts _ rfl (opD_load_one ag3_W2 lz (loc_getN rfl rfl) rfl) ?_
        refine rts _ rfl (opD_add (ls rfl (ls rfl lz)) lz rfl) ?_
        refine rts _ rfl (opD_assign lz) ?_
        refine .nil ?_
        refine aw_keep [(3, _), (9, _), (10, _), (11, _)] ⟨lg lz, lg (ls rfl (ls rfl (ls rfl (ls rfl (ls rfl (os rfl (os rfl oz))))))), lg (ls rfl (ls rfl (ls rfl (ls rfl (ls rfl (os rfl (os rfl (os rfl oz)))))))), lg (ls rfl (ls rfl (ls rfl (ls rfl (ls rfl (os rfl (os rfl (os rfl (os rfl oz))))))))), trivial⟩ ?_
        refine aw_region (by decide) ?_
        refine rts _ rfl (opD_add (os rfl (os rfl (os rfl oz))) (ev_const _ _) rfl) ?_
        refine rts _ rfl (opD_move lz) ?_
        refine .nil ?_
        obtain rfl := some_of hz_4
        replace hz_2 := ocs_l hz_2
        refine wk_yesN rfl (l := [(3, pl (.int .i64 (IntKind.i64.wrap (t_3.1 + x_5.Many)))), (9, sl kStx none none p0), (10, pl (.int .i64 (p0.length : Int))), (11, pl (.int .i64 (IntKind.i64.wrap (t_3.2 + 1))))]) (bs' := []) ⟨le_of_eq (eg (ls rfl (ls rfl oz))), le_of_eq (eg (ls rfl (ls rfl (os rfl oz)))), le_of_eq (eg (ls rfl (ls rfl (os rfl (os rfl oz))))), le_of_eq (eg lz), trivial⟩ (zbc zPb (zbc (sl_b kb_Stx) (zbc zPb (zbc zPb bnd_nil)))) (zNb rfl) (by simp only [znz] <;> rfl) bxle_nil rfl (by simp only [znz] <;> rfl) bl_nil ?_
        exact ⟨m_z_4, Nat.lt_succ_self _, (IntKind.i64.wrap (t_3.1 + x_5.Many), IntKind.i64.wrap (t_3.2 + 1)), ⟨le_of_eq (eg oz), le_of_eq (eg (os rfl oz)), le_of_eq (eg (os rfl (os rfl oz))), le_of_eq (eg (os rfl (os rfl (os rfl oz)))), trivial⟩, rfl, hz_2⟩
      · skip
        replace hz_4 := ifb_f hz_4 hc
        clear hc
        refine aw_exit ?_
        obtain rfl := some_of hz_4
        replace hz_2 := ocs_r hz_2
        refine wk_no ?_
        refine wk_yesN rfl (l := [(3, pl (.int .i64 t_3.1))]) (bs' := []) ⟨le_of_eq (eg oz), trivial⟩ (zbc zPb bnd_nil) (zNb rfl) (by simp only [znz] <;> rfl) bxle_nil rfl (by simp only [znz] <;> rfl) bl_nil ?_
        exact ⟨t_3.1, ⟨le_of_eq (eg oz), trivial⟩, rfl, some_of hz_2⟩
    · rintro e st ⟨vz_2, hH, rfl, rfl⟩
      refine aw_keep _ hH ?_
      refine aw_keep [(3, _)] ⟨lg oz, trivial⟩ ?_
      refine aw_seq ?_
      refine aw_region (by decide) ?_
      refine rts _ rfl (opD_move oz) ?_
      refine rts _ rfl (opD_assign lz) ?_
      refine .nil ?_
      refine aw_keep [(2, _)] ⟨lg lz, trivial⟩ ?_
      refine aw_ret ?_
      obtain rfl := some_of h0
      exact done_ext (.inr rfl) ((res_one rfl (it_tmp oz)).le zLr) zPb

def F_xFree_b0 (p1 : Int) (x_2 : (List Stx)) (t_4 : (List Stx) × Int × Int) : Option (((List Stx) × Int × Int) ⊕ (((List Stx)))) :=
  ifb (decide (t_4.2.2 < (((x_2 ++ ([(⟨p1, 0⟩ : Stx)] : (List Stx))).length : Nat) : Int))) (grd (Below t_4.2.2 ((x_2 ++ ([(⟨p1, 0⟩ : Stx)] : (List Stx))).length)) <| ixb (x_2 ++ ([(⟨p1, 0⟩ : Stx)] : (List Stx))) ((t_4.2.2.toNat : Nat) : Int) fun x_6 => bnd (ifb (decide (t_4.2.1 < x_6.From)) (grd (Fits 16 (t_4.1.length + ([(⟨t_4.2.1, IntKind.i64.wrap (x_6.From - t_4.2.1)⟩ : Stx)] : (List Stx)).length)) <| some (t_4.1 ++ ([(⟨t_4.2.1, IntKind.i64.wrap (x_6.From - t_4.2.1)⟩ : Stx)] : (List Stx)))) (some t_4.1)) fun z_7 => bnd (F_xend x_6) fun x_8 => some (.inl (z_7, x_8, IntKind.i64.wrap (t_4.2.2 + 1)))) (some (.inr t_4.1))
def F_xFree (fl : Nat) (p0 : (List Stx)) (p1 : Int) : Option ((List Stx) × (Option Int)) :=
  bnd (F_xcheck fl p0 p1) fun x_1 => ifb x_1.isSome (some ([], x_1)) (bnd (F_sorted p0) fun x_2 => grd (Fits 16 (x_2.length + ([(⟨p1, 0⟩ : Stx)] : (List Stx)).length)) <| bnd (lp (F_xFree_b0 p1 x_2) fl (([] : (List Stx)), 0, 0)) fun z_3 => some (z_3, none))
set_option maxRecDepth 100000 in
set_option maxHeartbeats 2000000 in
theorem c_xFree {fl : Nat} {p0 : (List Stx)} {p1 : Int} {R : (List Stx) × (Option Int)} (h0 : F_xFree fl p0 p1 = some R) : Pure Tryd.prog 54 [sl kStx none none p0, pl (.int .i64 p1)] (tup [sl kStx none none R.1, pl (errV R.2)]) := by
  intro s
  unfold F_xFree at h0
  refine ac_of_aw s.boxes.length s.fr.length Tryd.func54 rfl (by simp [Tryd.ntmps54]) ?_
  refine aw_ext0 ?_
  refine aw_keep [(0, _), (1, _)] ⟨lg ez, lg (es ez), trivial⟩ ?_
  refine aw_seq ?_
  refine aw_region (by decide) ?_
  refine rts _ rfl (opD_assign (ev_const _ _)) ?_
  refine rts _ rfl (opD_assign (ev_const _ _)) ?_
  refine .nil ?_
  refine aw_keep [(0, _), (1, _)] ⟨lg (ls rfl (ls rfl oz)), lg (ls rfl (ls rfl (os rfl oz))), trivial⟩ ?_
  refine aw_seq ?_
  refine aw_seq ?_
  refine aw_region (by decide) ?_
  refine rts _ rfl (opD_move oz) ?_
  refine rts _ rfl (opD_move (ls rfl (os rfl oz))) ?_
  replace h0 := bnd_some h0
  obtain ⟨x_1, hx_1, h0⟩ := h0
  refine rts _ rfl (opD_pure ht49_W2 (c_xcheck hx_1) ⟨le_of_eq (ls rfl lz), le_of_eq lz, trivial⟩) ?_
  refine rts _ rfl (opD_assign lz) ?_
  refine .nil ?_
  refine aw_keep [(0, _), (1, _), (6, _)] ⟨lg (ls rfl (ls rfl (ls rfl (ls rfl oz)))), lg (ls rfl (ls rfl (ls rfl (ls rfl (os rfl oz))))), lg lz, trivial⟩ ?_
  refine aw_seq ?_
  refine aw_region (by decide) ?_
  refine rts _ rfl (opD_move (os rfl (os rfl oz))) ?_
  refine rts _ rfl (opD_bin lz (ev_const _ _) (fun w => errV_guard _ w _) (fun w => errV_beq _ w)) ?_
  refine .nil ?_
  refine aw_keep [(0, _), (1, _), (6, _), (15, _)] ⟨lg (ls rfl (ls rfl oz)), lg (ls rfl (ls rfl (os rfl oz))), lg (ls rfl (ls rfl (os rfl (os rfl oz)))), lg lz, trivial⟩ ?_
  refine aw_cond _ (os rfl (os rfl (os rfl oz))) (fun hc => ?_) (fun hc => ?_)
  · skip
    replace h0 := ifb_t h0 hc
    clear hc
    refine aw_seq ?_
    refine aw_region (by decide) ?_
    refine rts _ rfl (opD_move (os rfl (os rfl oz))) ?_
    refine rts _ rfl (opD_assign (ev_const _ _)) ?_
    refine rts _ rfl (opD_assign (ls rfl lz)) ?_
    refine .nil ?_
    refine aw_keep [(4, _), (5, _)] ⟨lg (ls rfl lz), lg lz, trivial⟩ ?_
    refine aw_ret ?_
    obtain rfl := some_of h0
    exact done_ext (.inr rfl) ((res_list (rs := [_, _]) (ps := [_, _]) rfl rfl ⟨it_tmp oz, it_tmp (os rfl oz), trivial⟩).le (tup_le ⟨(le_nil rfl), zLr, trivial⟩)) (tup_bnd (zbc (sl_b kb_Stx) (zbc zPb bnd_nil)))
  · skip
    replace h0 := ifb_f h0 hc
    clear hc
    refine aw_skip ?_
    refine aw_keep [(0, _), (1, _)] ⟨lg oz, lg (os rfl oz), trivial⟩ ?_
    refine aw_seq ?_
    refine aw_region (by decide) ?_
    refine rts _ rfl (opD_assign (ev_const _ _)) ?_
    refine .nil ?_
    refine aw_keep [(0, _), (1, _), (7, _)] ⟨lg (ls rfl oz), lg (ls rfl (os rfl oz)), lg lz, trivial⟩ ?_
    refine aw_seq ?_
    refine aw_region (by decide) ?_
    refine rts _ rfl (opD_assign (ev_const _ _)) ?_
    refine .nil ?_
    refine aw_keep [(0, _), (1, _), (7, _), (8, _)] ⟨lg (ls rfl oz), lg (ls rfl (os rfl oz)), lg (ls rfl (os rfl (os rfl oz))), lg lz, trivial⟩ ?_
    refine aw_seq ?_
    refine aw_seq ?_
    refine aw_region (by decide) ?_
    refine rts _ rfl (opD_move oz) ?_
    replace h0 := bnd_some h0
    obtain ⟨x_2, hx_2, h0⟩ := h0
    refine rts _ rfl (opD_ple (q := hsl (s.boxes.length + 1) 281474976710658 0 x_2.length kStx.sz) rfl (opD_to (X' := s.ext [⟨79, []⟩, ⟨(hot 114 281474976710658), (flat kStx x_2)⟩, ⟨79, []⟩] []) (opD_call ht102_W2 (c_sorted hx_2 (xlen rfl rfl)) ⟨le_of_eq lz, trivial⟩) (ul_new rfl (by simp only [znz] <;> rfl)))) ?_
    refine rts _ rfl (opD_move (ls rfl (ls rfl (os rfl oz)))) ?_
    refine rts _ rfl (opD_build_struct (rs := [_, _]) Tryd.underlying114 pt114_W2 zt114_W2 (parts_cons (cells1 lz (one_pl rfl)) parts_nil) rfl) ?_
    refine rts _ rfl (opD_buildOwn (k := kStx) ([(⟨p1, 0⟩ : Stx)] : (List Stx)) Tryd.underlying79 sz114_W2 zt114_W2 (by decide) rfl (parts_cons (cellsA lz) parts_nil) rfl rfl (by first | exact List.length_nil | (simp only [List.length_cons, List.length_nil, Nat.zero_add, Nat.reduceAdd] <;> rfl)) (by simp only [znz] <;> rfl)) ?_
    replace h0 := grd_some h0
    obtain ⟨hg_1, h0⟩ := h0
    refine rts _ rfl (appendHN (k := kStx) rfl Tryd.underlying79 el114_W2 rfl (zNb rfl) rfl (ls rfl (ls rfl (ls rfl lz))) lz rfl kb_Stx hg_1.1 hg_1.2 (by simp only [znz] <;> rfl)) ?_
    refine rts _ rfl (opD_len_h Tryd.underlying79 lz) ?_
    refine rts _ rfl (opD_move (ev_const _ _)) ?_
    refine .nil ?_
    refine aw_keep [(7, _), (8, _), (22, _), (23, _), (24, _)] ⟨lg (ls rfl (ls rfl (ls rfl (ls rfl (ls rfl (ls rfl (ls rfl (ls rfl (os rfl (os rfl oz)))))))))), lg (ls rfl (ls rfl (ls rfl (ls rfl (ls rfl (ls rfl (ls rfl (ls rfl (os rfl (os rfl (os rfl oz))))))))))), lg (ls rfl (ls rfl lz)), lg (ls rfl lz), lg lz, trivial⟩ ?_
    replace h0 := bnd_some h0
    obtain ⟨z_3, hz_3, h0⟩ := h0
    refine aw_mid (fun e st => ∃ v : (List Stx), Holds e [(7, sl kStx none none v)] ∧ st = s.ext [⟨79, []⟩, ⟨(hot 114 281474976710660), (flat kStx (x_2 ++ ([(⟨p1, 0⟩ : Stx)] : (List Stx))))⟩, ⟨79, []⟩] [⟨114, 2, ([(⟨p1, 0⟩ : Stx)] : (List Stx)).length⟩] ∧ v = z_3) ?_ ?_
    · skip
      refine aw_wkN rfl 3 1 rfl rfl ?_
      refine aw_block ?_
      refine aw_fr ⟨114, 2, 0⟩ ?_
      refine aw_loop (fun n e st => ∃ v : (List Stx) × Int × Int, Holds e [(7, sl kStx (some (s.fr.length + 1)) none v.1), (8, pl (.int .i64 v.2.1)), (22, hsl (s.boxes.length + 1) 281474976710660 0 ((x_2 ++ ([(⟨p1, 0⟩ : Stx)] : (List Stx))).length) kStx.sz), (23, pl (.int .i64 (((x_2 ++ ([(⟨p1, 0⟩ : Stx)] : (List Stx))).length : Nat) : Int))), (24, pl (.int .i64 v.2.2))] ∧ st = s.ext [⟨79, []⟩, ⟨(hot 114 281474976710660), (flat kStx (x_2 ++ ([(⟨p1, 0⟩ : Stx)] : (List Stx))))⟩, ⟨79, []⟩] [⟨114, 2, ([(⟨p1, 0⟩ : Stx)] : (List Stx)).length⟩, ⟨114, 2, v.1.length⟩] ∧ lp (F_xFree_b0 p1 x_2) n v = some z_3) fl ⟨(([] : (List Stx)), 0, 0), ⟨(le_of_eq (eg oz)).trans (nil_own rfl), le_of_eq (eg (os rfl oz)), le_of_eq (eg (os rfl (os rfl oz))), le_of_eq (eg (os rfl (os rfl (os rfl oz)))), le_of_eq (eg (os rfl (os rfl (os rfl (os rfl oz))))), trivial⟩, rfl, hz_3⟩ ?_
      rintro n e st ⟨t_4, hH, rfl, hz_3⟩
      replace hz_3 := lp_some hz_3
      obtain ⟨m_z_5, z_5, rfl, hz_5, hz_3⟩ := hz_3
      unfold F_xFree_b0 at hz_5
      refine aw_keep _ hH ?_
      refine aw_wkN rfl 3 2 rfl rfl ?_
      refine aw_seq ?_
      refine aw_region (by decide) ?_
      refine rts _ rfl (opD_lss (os rfl (os rfl (os rfl (os rfl oz)))) (os rfl (os rfl (os rfl oz)))) ?_
      refine .nil ?_
      refine aw_keep [(7, _), (8, _), (22, _), (23, _), (24, _), (25, _)] ⟨lg (ls rfl oz), lg (ls rfl (os rfl oz)), lg (ls rfl (os rfl (os rfl oz))), lg (ls rfl (os rfl (os rfl (os rfl oz)))), lg (ls rfl (os rfl (os rfl (os rfl (os rfl oz))))), lg lz, trivial⟩ ?_
      refine aw_seq ?_
      refine aw_cond _ (os rfl (os rfl (os rfl (os rfl (os rfl oz))))) (fun hc => ?_) (fun hc => ?_)
      · skip
        replace hz_5 := ifb_t hz_5 hc
        clear hc
        refine aw_skip ?_
        refine aw_keep [(7, _), (8, _), (22, _), (23, _), (24, _)] ⟨lg oz, lg (os rfl oz), lg (os rfl (os rfl oz)), lg (os rfl (os rfl (os rfl oz))), lg (os rfl (os rfl (os rfl (os rfl oz)))), trivial⟩ ?_
        refine aw_seq ?_
        refine aw_block ?_
        refine aw_seq ?_
        refine aw_region (by decide) ?_
        replace hz_5 := grd_some hz_5
        obtain ⟨hg_17, hz_5⟩ := hz_5
        refine rts _ rfl (opD_indexAddr_hx (i := t_4.2.2.toNat) Tryd.underlying79 sz114_W2 rfl ⟨_, (loc_getN rfl rfl)⟩ (os rfl (os rfl oz)) (os rfl (os rfl (os rfl (os rfl oz)))) hg_17.eq hg_17.2) ?_
        replace hz_5 := ixb_some hz_5
        obtain ⟨x_6, hx_6, hbx_6, hz_5⟩ := hz_5
        refine rts _ rfl (loadE (k := kStx) ag114_W2 sz114_W2 rfl (zNb rfl) (by decide) lz (loc_getN rfl rfl) (nat_ix hx_6)) ?_
        refine rts _ rfl (allocN rfl zt114_W2 (by first | exact List.length_nil | (simp only [List.length_cons, List.length_nil, Nat.zero_add, Nat.reduceAdd] <;> rfl)) (by simp only [znz] <;> rfl)) ?_
        refine rts _ rfl (storeAN rfl sz114_W2 lz (ls rfl lz) (ones_cons (one_pl rfl) (ones_cons (one_pl rfl) ones_nil)) rfl rfl (zNb rfl) (List.cons_ne_nil _ _) (zbc zPb (zbc zPb bnd_nil)) (by simp only [znz] <;> rfl) (by simp only [znz] <;> rfl)) ?_
        refine .nil ?_
        refine aw_keep [(7, _), (8, _), (10, _), (22, _), (23, _), (24, _)] ⟨lg (lx (ls rfl (ls rfl (ls rfl oz)))), lg (lx (ls rfl (ls rfl (ls rfl (os rfl oz))))), lg (lx lz), lg (lx (ls rfl (ls rfl (ls rfl (os rfl (os rfl oz)))))), lg (lx (ls rfl (ls rfl (ls rfl (os rfl (os rfl (os rfl oz))))))), lg (lx (ls rfl (ls rfl (ls rfl (os rfl (os rfl (os rfl (os rfl oz)))))))), trivial⟩ ?_
        refine aw_seq ?_
        refine aw_seq ?_
        refine aw_region (by decide) ?_
        refine rts _ rfl (opD_fieldAddr fo114_0_W2 (os rfl (os rfl oz))) ?_
        refine rts _ rfl (opD_load_one ag3_W2 lz (loc_getN rfl rfl) rfl) ?_
        refine rts _ rfl (opD_move (ls rfl (ls rfl (os rfl oz)))) ?_
        refine rts _ rfl (opD_gtr (ls rfl lz) lz) ?_
        refine .nil ?_
        refine aw_keep [(7, _), (8, _), (10, _), (22, _), (23, _), (24, _), (31, _)] ⟨lg (ls rfl (ls rfl (ls rfl (ls rfl oz)))), lg (ls rfl (ls rfl (ls rfl (ls rfl (os rfl oz))))), lg (ls rfl (ls rfl (ls rfl (ls rfl (os rfl (os rfl oz)))))), lg (ls rfl (ls rfl (ls rfl (ls rfl (os rfl (os rfl (os rfl oz))))))), lg (ls rfl (ls rfl (ls rfl (ls rfl (os rfl (os rfl (os rfl (os rfl oz)))))))), lg (ls rfl (ls rfl (ls rfl (ls rfl (os rfl (os rfl (os rfl (os rfl (os rfl oz))))))))), lg lz, trivial⟩ ?_
        replace hz_5 := bnd_some hz_5
        obtain ⟨z_7, hz_7, hz_5⟩ := hz_5
        refine aw_mid (fun e st => ∃ v : (List Stx), Holds e [(7, sl kStx (some (s.fr.length + 1)) none v), (10, ptr (s.boxes.length + 3) 0), (22, hsl (s.boxes.length + 1) 281474976710660 0 ((x_2 ++ ([(⟨p1, 0⟩ : Stx)] : (List Stx))).length) kStx.sz), (23, pl (.int .i64 (((x_2 ++ ([(⟨p1, 0⟩ : Stx)] : (List Stx))).length : Nat) : Int))), (24, pl (.int .i64 t_4.2.2))] ∧ st = s.ext [⟨79, []⟩, ⟨(hot 114 281474976710660), (flat kStx (x_2 ++ ([(⟨p1, 0⟩ : Stx)] : (List Stx))))⟩, ⟨79, []⟩, ⟨114, [pl (.int .i64 x_6.From), pl (.int .i64 x_6.Many)]⟩] [⟨114, 2, ([(⟨p1, 0⟩ : Stx)] : (List Stx)).length⟩, ⟨114, 2, v.length⟩] ∧ v = z_7) ?_ ?_
        · skip
          refine aw_wkN rfl 4 2 rfl rfl ?_
          refine aw_cond _ (os rfl (os rfl (os rfl (os rfl (os rfl (os rfl oz)))))) (fun hc => ?_) (fun hc => ?_)
          · skip
            replace hz_7 := ifb_t hz_7 hc
            clear hc
            refine aw_region (by decide) ?_
            refine rts _ rfl (opD_move oz) ?_
            refine rts _ rfl (opD_move (ls rfl (os rfl oz))) ?_
            refine rts _ rfl (opD_fieldAddr fo114_0_W2 (ls rfl (ls rfl (os rfl (os rfl oz))))) ?_
            refine rts _ rfl (opD_load_one ag3_W2 lz (loc_getN rfl rfl) rfl) ?_
            refine rts _ rfl (opD_move (ls rfl (ls rfl (ls rfl (ls rfl (os rfl oz)))))) ?_
            refine rts _ rfl (opD_sub (ls rfl lz) lz rfl) ?_
            refine rts _ rfl (opD_build_struct (rs := [_, _]) Tryd.underlying114 pt114_W2 zt114_W2 (parts_cons (cells1 (ls rfl (ls rfl (ls rfl (ls rfl lz)))) (one_pl rfl)) (parts_cons (cells1 lz (one_pl rfl)) parts_nil)) rfl) ?_
            refine rts _ rfl (opD_buildOwn (k := kStx) ([(⟨t_4.2.1, IntKind.i64.wrap (x_6.From - t_4.2.1)⟩ : Stx)] : (List Stx)) Tryd.underlying79 sz114_W2 zt114_W2 (by decide) rfl (parts_cons (cellsA lz) parts_nil) rfl rfl (by first | exact List.length_nil | (simp only [List.length_cons, List.length_nil, Nat.zero_add, Nat.reduceAdd] <;> rfl)) (by simp only [znz] <;> rfl)) ?_
            replace hz_7 := grd_some hz_7
            obtain ⟨hg_19, hz_7⟩ := hz_7
            refine rts _ rfl (opD_appendX Tryd.underlying79 el114_W2 (ls rfl (ls rfl (ls rfl (ls rfl (ls rfl (ls rfl (ls rfl lz))))))) lz rfl hg_19.1 hg_19.2 rfl (by simp only [znz] <;> rfl)) ?_
            refine rts _ rfl (opD_assign lz) ?_
            refine .nil ?_
            refine wk_yesN rfl (l := [(7, sl kStx (some (s.fr.length + 1)) none (t_4.1 ++ ([(⟨t_4.2.1, IntKind.i64.wrap (x_6.From - t_4.2.1)⟩ : Stx)] : (List Stx)))), (10, ptr (s.boxes.length + 3) 0), (22, hsl (s.boxes.length + 1) 281474976710660 0 ((x_2 ++ ([(⟨p1, 0⟩ : Stx)] : (List Stx))).length) kStx.sz), (23, pl (.int .i64 (((x_2 ++ ([(⟨p1, 0⟩ : Stx)] : (List Stx))).length : Nat) : Int))), (24, pl (.int .i64 t_4.2.2))]) (bs' := [⟨79, []⟩, ⟨(hot 114 281474976710660), (flat kStx (x_2 ++ ([(⟨p1, 0⟩ : Stx)] : (List Stx))))⟩, ⟨79, []⟩, ⟨114, [pl (.int .i64 x_6.From), pl (.int .i64 x_6.Many)]⟩]) ⟨le_of_eq (eg lz), le_of_eq (eg (ls rfl (ls rfl (ls rfl (ls rfl (ls rfl (ls rfl (ls rfl (ls rfl (ls rfl (ls rfl (os rfl (os rfl oz))))))))))))), le_of_eq (eg (ls rfl (ls rfl (ls rfl (ls rfl (ls rfl (ls rfl (ls rfl (ls rfl (ls rfl (ls rfl (os rfl (os rfl (os rfl oz)))))))))))))), le_of_eq (eg (ls rfl (ls rfl (ls rfl (ls rfl (ls rfl (ls rfl (ls rfl (ls rfl (ls rfl (ls rfl (os rfl (os rfl (os rfl (os rfl oz))))))))))))))), le_of_eq (eg (ls rfl (ls rfl (ls rfl (ls rfl (ls rfl (ls rfl (ls rfl (ls rfl (ls rfl (ls rfl (os rfl (os rfl (os rfl (os rfl (os rfl oz)))))))))))))))), trivial⟩ (zbc (sl_ob kb_Stx (by first | omega | (simp only [List.length_append, List.length_cons, List.length_nil, ext_fr_length, upd_fr_length]; omega))) (zbc (ptr_bnd _ (by first | omega | (simp only [List.length_append, List.length_cons, List.length_nil]; omega))) (zbc (hsl_bnd _ (by first | omega | (simp only [List.length_append, List.length_cons, List.length_nil]; omega))) (zbc zPb (zbc zPb bnd_nil))))) (zNb rfl) (by simp only [znz] <;> rfl) (bxle_same (bxle_same (bxle_same (bxle_same bxle_nil)))) rfl (by simp only [znz] <;> rfl) (bl_cons bnd_nil (bl_cons (flatKB kb_Stx) (bl_cons bnd_nil (bl_cons (zbc zPb (zbc zPb bnd_nil)) bl_nil)))) ?_
            exact ⟨(t_4.1 ++ ([(⟨t_4.2.1, IntKind.i64.wrap (x_6.From - t_4.2.1)⟩ : Stx)] : (List Stx))), ⟨le_of_eq (eg oz), le_of_eq (eg (os rfl oz)), le_of_eq (eg (os rfl (os rfl oz))), le_of_eq (eg (os rfl (os rfl (os rfl oz)))), le_of_eq (eg (os rfl (os rfl (os rfl (os rfl oz))))), trivial⟩, rfl, some_of hz_7⟩
          · skip
            replace hz_7 := ifb_f hz_7 hc
            clear hc
            refine aw_skip ?_
            refine wk_yesN rfl (l := [(7, sl kStx (some (s.fr.length + 1)) none t_4.1), (10, ptr (s.boxes.length + 3) 0), (22, hsl (s.boxes.length + 1) 281474976710660 0 ((x_2 ++ ([(⟨p1, 0⟩ : Stx)] : (List Stx))).length) kStx.sz), (23, pl (.int .i64 (((x_2 ++ ([(⟨p1, 0⟩ : Stx)] : (List Stx))).length : Nat) : Int))), (24, pl (.int .i64 t_4.2.2))]) (bs' := [⟨79, []⟩, ⟨(hot 114 281474976710660), (flat kStx (x_2 ++ ([(⟨p1, 0⟩ : Stx)] : (List Stx))))⟩, ⟨79, []⟩, ⟨114, [pl (.int .i64 x_6.From), pl (.int .i64 x_6.Many)]⟩]) ⟨le_of_eq (eg oz), le_of_eq (eg (os rfl (os rfl oz))), le_of_eq (eg (os rfl (os rfl (os rfl oz)))), le_of_eq (eg (os rfl (os rfl (os rfl (os rfl oz))))), le_of_eq (eg (os rfl (os rfl (os rfl (os rfl (os rfl oz)))))), trivial⟩ (zbc (sl_ob kb_Stx (by first | omega | (simp only [List.length_append, List.length_cons, List.length_nil, ext_fr_length, upd_fr_length]; omega))) (zbc (ptr_bnd _ (by first | omega | (simp only [List.length_append, List.length_cons, List.length_nil]; omega))) (zbc (hsl_bnd _ (by first | omega | (simp only [List.length_append, List.length_cons, List.length_nil]; omega))) (zbc zPb (zbc zPb bnd_nil))))) (zNb rfl) (by simp only [znz] <;> rfl) (bxle_same (bxle_same (bxle_same (bxle_same bxle_nil)))) rfl (by simp only [znz] <;> rfl) (bl_cons bnd_nil (bl_cons (flatKB kb_Stx) (bl_cons bnd_nil (bl_cons (zbc zPb (zbc zPb bnd_nil)) bl_nil)))) ?_
            exact ⟨t_4.1, ⟨le_of_eq (eg oz), le_of_eq (eg (os rfl oz)), le_of_eq (eg (os rfl (os rfl oz))), le_of_eq (eg (os rfl (os rfl (os rfl oz)))), le_of_eq (eg (os rfl (os rfl (os rfl (os rfl oz))))), trivial⟩, rfl, some_of hz_7⟩
        · rintro e st ⟨vz_7, hH, rfl, rfl⟩
          refine aw_keep _ hH ?_
          refine aw_keep [(7, _), (10, _), (22, _), (23, _), (24, _)] ⟨lg oz, lg (os rfl oz), lg (os rfl (os rfl oz)), lg (os rfl (os rfl (os rfl oz))), lg (os rfl (os rfl (os rfl (os rfl oz)))), trivial⟩ ?_
          refine aw_region (by decide) ?_
          refine rts _ rfl (opD_load_aggX (qs := [_, _]) ag114_W2 sz114_W2 (os rfl oz) (loc_getN rfl rfl) (zNb rfl) rfl) ?_
          replace hz_5 := bnd_some hz_5
          obtain ⟨x_8, hx_8, hz_5⟩ := hz_5
          refine rts _ rfl (opD_pure ht103_W2 (c_xend hx_8) ⟨(le_of_eq lz).trans (agg_le ⟨zLr, zLr, trivial⟩), trivial⟩) ?_
          refine rts _ rfl (opD_assign lz) ?_
          refine .nil ?_
          refine aw_keep [(7, _), (8, _), (22, _), (23, _), (24, _)] ⟨lg (ls rfl (ls rfl (ls rfl oz))), lg lz, lg (ls rfl (ls rfl (ls rfl (os rfl (os rfl oz))))), lg (ls rfl (ls rfl (ls rfl (os rfl (os rfl (os rfl oz)))))), lg (ls rfl (ls rfl (ls rfl (os rfl (os rfl (os rfl (os rfl oz))))))), trivial⟩ ?_
          refine aw_region (by decide) ?_
          refine rts _ rfl (opD_add (os rfl (os rfl (os rfl (os rfl oz)))) (ev_const _ _) rfl) ?_
          refine rts _ rfl (opD_move lz) ?_
          refine .nil ?_
          obtain rfl := some_of hz_5
          replace hz_3 := ocs_l hz_3
          refine wk_yesN rfl (l := [(7, sl kStx (some (s.fr.length + 1)) none vz_7), (8, pl (.int .i64 x_8)), (22, hsl (s.boxes.length + 1) 281474976710660 0 ((x_2 ++ ([(⟨p1, 0⟩ : Stx)] : (List Stx))).length) kStx.sz), (23, pl (.int .i64 (((x_2 ++ ([(⟨p1, 0⟩ : Stx)] : (List Stx))).length : Nat) : Int))), (24, pl (.int .i64 (IntKind.i64.wrap (t_4.2.2 + 1))))]) (bs' := [⟨79, []⟩, ⟨(hot 114 281474976710660), (flat kStx (x_2 ++ ([(⟨p1, 0⟩ : Stx)] : (List Stx))))⟩, ⟨79, []⟩]) ⟨le_of_eq (eg (ls rfl (ls rfl oz))), le_of_eq (eg (ls rfl (ls rfl (os rfl oz)))), le_of_eq (eg (ls rfl (ls rfl (os rfl (os rfl oz))))), le_of_eq (eg (ls rfl (ls rfl (os rfl (os rfl (os rfl oz)))))), le_of_eq (eg lz), trivial⟩ (zbc (sl_ob kb_Stx (by first | omega | (simp only [List.length_append, List.length_cons, List.length_nil, ext_fr_length, upd_fr_length]; omega))) (zbc zPb (zbc (hsl_bnd _ (by first | omega | (simp only [List.length_append, List.length_cons, List.length_nil]; omega))) (zbc zPb (zbc zPb bnd_nil))))) (zNb rfl) (by simp only [znz] <;> rfl) (bxle_same (bxle_same (bxle_same bxle_nil))) rfl (by simp only [znz] <;> rfl) (bl_cons bnd_nil (bl_cons (flatKB kb_Stx) (bl_cons bnd_nil bl_nil))) ?_
          exact ⟨m_z_5, Nat.lt_succ_self _, (vz_7, x_8, IntKind.i64.wrap (t_4.2.2 + 1)), ⟨le_of_eq (eg oz), le_of_eq (eg (os rfl oz)), le_of_eq (eg (os rfl (os rfl oz))), le_of_eq (eg (os rfl (os rfl (os rfl oz)))), le_of_eq (eg (os rfl (os rfl (os rfl (os rfl oz))))), trivial⟩, rfl, hz_3⟩
      · skip
        replace hz_5 := ifb_f hz_5 hc
        clear hc
        refine aw_exit ?_
        obtain rfl := some_of hz_5
        replace hz_3 := ocs_r hz_3
        refine wk_no ?_
        refine wk_yesN rfl (l := [(7, sl kStx none none t_4.1)]) (bs' := [⟨79, []⟩, ⟨(hot 114 281474976710660), (flat kStx (x_2 ++ ([(⟨p1, 0⟩ : Stx)] : (List Stx))))⟩, ⟨79, []⟩]) ⟨(le_of_eq (eg oz)).trans (sl_le _ (some (s.fr.length + 1)) none _), trivial⟩ (zbc (sl_b kb_Stx) bnd_nil) (zNb rfl) (by simp only [znz] <;> rfl) (bxle_same (bxle_same (bxle_same bxle_nil))) rfl (by simp only [znz] <;> rfl) (bl_cons bnd_nil (bl_cons (flatKB kb_Stx) (bl_cons bnd_nil bl_nil))) ?_
        exact ⟨t_4.1, ⟨le_of_eq (eg oz), trivial⟩, rfl, some_of hz_3⟩
    · rintro e st ⟨vz_3, hH, rfl, rfl⟩
      refine aw_keep _ hH ?_
      refine aw_keep [(7, _)] ⟨lg oz, trivial⟩ ?_
      refine aw_seq ?_
      refine aw_region (by decide) ?_
      refine rts _ rfl (opD_move oz) ?_
      refine rts _ rfl (opD_assign lz) ?_
      refine rts _ rfl (opD_assign (ev_const _ _)) ?_
      refine .nil ?_
      refine aw_keep [(4, _), (5, _)] ⟨lg (ls rfl lz), lg lz, trivial⟩ ?_
      refine aw_seal (k := kStx) (bs' := [⟨79, []⟩, ⟨((hot 114 281474976710660) + HOT), []⟩, ⟨79, []⟩]) (i := 1) (r := 281474976710660) (te := 114) rfl [(4, sl kStx none none vz_3), (5, pl (errV none))] rfl rfl (zNb rfl) rfl (by decide) ⟨rfl, SealL.refl _, ⟨rfl, rfl, ⟨rfl, SealL.refl _, trivial⟩⟩⟩ (bl_cons bnd_nil (bl_cons bnd_nil (bl_cons bnd_nil bl_nil))) ⟨seal_e oz (seal_same _), seal_e (os rfl oz) (seal_same _), trivial⟩ ?_
      refine aw_ret ?_
      obtain rfl := some_of h0
      exact done_ext (.inr rfl) ((res_list (rs := [_, _]) (ps := [_, _]) rfl rfl ⟨it_tmp oz, it_tmp (os rfl oz), trivial⟩).le (tup_le ⟨zLr, zLr, trivial⟩)) (tup_bnd (zbc (sl_b kb_Stx) (zbc zPb bnd_nil)))

theorem fz_Stx : kStx.Fz := fun x p hp => FzL.mem (ps := [pl (.int .i64 x.From), pl (.int .i64 x.Many)]) ⟨(pn_pl _).fz, (pn_pl _).fz, trivial⟩ p hp

def F_xReserve_b0 (p0 : (List Stx)) (t_5 : Int × (List Stx) × Nat × (List Stx)) : Option ((Int × (List Stx) × Nat × (List Stx)) ⊕ (((List Stx) × (List Stx) × (Option Int)) ⊕ ((List Stx) × (List Stx) × Nat))) :=
  ifb (decide (0 < t_5.1)) (ifb ((decide (((p0.length - t_5.2.2.1 : Nat) : Int) = 0)) || (decide ((t_5.2.1.length : Int) = 8))) (some (.inr (.inl ([], [], some 7)))) (grd (Below 0 (p0.length - t_5.2.2.1)) <| ixb t_5.2.2.2 (((t_5.2.2.1 + (0 : Int).toNat) : Nat) : Int) fun x_7 => grd (Fits 16 (t_5.2.1.length + ([(⟨x_7.From, (if x_7.Many < t_5.1 then x_7.Many else t_5.1)⟩ : Stx)] : (List Stx)).length)) <| grd (Below 0 (p0.length - t_5.2.2.1)) <| grd (Below (((t_5.2.2.1 + (0 : Int).toNat) : Nat) : Int) t_5.2.2.2.length) <| grd (Below 0 (p0.length - t_5.2.2.1)) <| ixb (t_5.2.2.2.set (t_5.2.2.1 + (0 : Int).toNat) (⟨IntKind.i64.wrap (x_7.From + (if x_7.Many < t_5.1 then x_7.Many else t_5.1)), IntKind.i64.wrap (x_7.Many - (if x_7.Many < t_5.1 then x_7.Many else t_5.1))⟩ : Stx)) (((t_5.2.2.1 + (0 : Int).toNat) : Nat) : Int) fun x_8 => bnd (ifb (decide (x_8.Many = 0)) (grd (UpTo 1 (p0.length - t_5.2.2.1)) <| some (t_5.2.2.1 + ((1 : Int).toNat))) (some t_5.2.2.1)) fun z_9 => some (.inl (IntKind.i64.wrap (t_5.1 - (if x_7.Many < t_5.1 then x_7.Many else t_5.1)), (t_5.2.1 ++ ([(⟨x_7.From, (if x_7.Many < t_5.1 then x_7.Many else t_5.1)⟩ : Stx)] : (List Stx))), z_9, (t_5.2.2.2.set (t_5.2.2.1 + (0 : Int).toNat) (⟨IntKind.i64.wrap (x_7.From + (if x_7.Many < t_5.1 then x_7.Many else t_5.1)), IntKind.i64.wrap (x_7.Many - (if x_7.Many < t_5.1 then x_7.Many else t_5.1))⟩ : Stx)))))) (some (.inr (.inr (t_5.2.1, t_5.2.2.2, t_5.2.2.1))))
def F_xReserve (fl : Nat) (p0 : (List Stx)) (p1 : Int) : Option ((List Stx) × (List Stx) × (Option Int)) :=
  bnd (F_xcheck fl p0 1024) fun x_1 => ifb x_1.isSome (some ([], [], some 1)) (bnd (F_sorted p0) fun x_2 => bnd (F_equalX fl p0 x_2) fun x_3 => ifb ((!x_3) || (decide (p1 < 1))) (some ([], [], some 1)) (grd (p0.length * 16 ≤ 140737488355328 ∧ p0.length ≤ 140737488355328) <| bnd (lp (F_xReserve_b0 p0) fl (p1, ([] : (List Stx)), 0, p0)) fun z_4 => ocs z_4 (fun qz_4_0 => some qz_4_0) fun z_4_0 => grd (p0.length = z_4_0.2.1.length) <| bnd (oCloneX 16 (z_4_0.2.1.drop z_4_0.2.2)) fun x_10 => some (z_4_0.1, x_10, none)))
set_option maxRecDepth 100000 in
set_option maxHeartbeats 2000000 in
theorem c_xReserve {fl : Nat} {p0 : (List Stx)} {p1 : Int} {R : (List Stx) × (List Stx) × (Option Int)} (h0 : F_xReserve fl p0 p1 = some R) : Pure Tryd.prog 131 [sl kStx none none p0, pl (.int .i64 p1)] (tup [sl kStx none none R.1, sl kStx none none R.2.1, pl (errV R.2.2)]) := by
  intro s
  unfold F_xReserve at h0
  refine ac_of_aw s.boxes.length s.fr.length Tryd.func131 rfl (by simp [Tryd.ntmps131]) ?_
  refine aw_ext0 ?_
  refine aw_keep [(0, _), (1, _)] ⟨lg ez, lg (es ez), trivial⟩ ?_
  refine aw_seq ?_
  refine aw_region (by decide) ?_
  refine rts _ rfl (opD_assign (ev_const _ _)) ?_
  refine rts _ rfl (opD_assign (ev_const _ _)) ?_
  refine rts _ rfl (opD_assign (ev_const _ _)) ?_
  refine .nil ?_
  refine aw_keep [(0, _), (1, _)] ⟨lg (ls rfl (ls rfl (ls rfl oz))), lg (ls rfl (ls rfl (ls rfl (os rfl oz)))), trivial⟩ ?_
  refine aw_seq ?_
  refine aw_seq ?_
  refine aw_region (by decide) ?_
  refine rts _ rfl (opD_move oz) ?_
  replace h0 := bnd_some h0
  obtain ⟨x_1, hx_1, h0⟩ := h0
  refine rts _ rfl (opD_pure ht49_W2 (c_xcheck hx_1) ⟨le_of_eq lz, le_of_eq (ev_const _ _), trivial⟩) ?_
  refine rts _ rfl (opD_bin lz (ev_const _ _) (fun w => errV_guard _ w _) (fun w => errV_beq _ w)) ?_
  refine rts _ rfl (opD_move lz) ?_
  refine rt_cases 14 (eg lz) (fun hc => ?_) (fun hc => ?_)
  · skip
    replace h0 := ifb_t h0 hc
    clear hc
    refine rtk ⟨_, rfl, .inl ⟨_, eg lz, rfl⟩⟩ ?_
    refine rtk ⟨_, rfl, .inl ⟨_, eg (ls rfl lz), rfl⟩⟩ ?_
    refine rtk ⟨_, rfl, .inl ⟨_, eg (ls rfl (ls rfl lz)), rfl⟩⟩ ?_
    refine rtk ⟨_, rfl, .inl ⟨_, eg (ls rfl (ls rfl (ls rfl lz))), rfl⟩⟩ ?_
    refine rtk ⟨_, rfl, .inl ⟨_, eg (ls rfl (ls rfl (ls rfl (ls rfl lz)))), rfl⟩⟩ ?_
    refine rts _ rfl (opD_pickT (ls rfl (ls rfl (ls rfl (ls rfl (ls rfl lz))))) (ev_const _ _)) ?_
    refine rts _ rfl (opD_move lz) ?_
    refine rtk ⟨_, rfl, .inl ⟨_, eg lz, rfl⟩⟩ ?_
    refine rtk ⟨_, rfl, .inl ⟨_, eg (ls rfl lz), rfl⟩⟩ ?_
    refine rts _ rfl (opD_pickT (ls rfl (ls rfl lz)) (ev_const _ _)) ?_
    refine .nil ?_
    refine aw_keep [(0, _), (1, _), (24, _)] ⟨lg (ls rfl (ls rfl (ls rfl (ls rfl (ls rfl (ls rfl (ls rfl (ls rfl (ls rfl (ls rfl (ls rfl (ls rfl (ls rfl (ls rfl (ls rfl oz))))))))))))))), lg (ls rfl (ls rfl (ls rfl (ls rfl (ls rfl (ls rfl (ls rfl (ls rfl (ls rfl (ls rfl (ls rfl (ls rfl (ls rfl (ls rfl (ls rfl (os rfl oz)))))))))))))))), lg lz, trivial⟩ ?_
    refine aw_cond _ (os rfl (os rfl oz)) (fun hc => ?_) (fun hc => ?_)
    · skip
      refine aw_seq ?_
      refine aw_region (by decide) ?_
      refine rts _ rfl (opD_ple (q := pl (errV (some 1))) rfl (opD_makeInterface_pl cc145_W2 (ev_const _ _))) ?_
      refine rts _ rfl (opD_assign (ev_const _ _)) ?_
      refine rts _ rfl (opD_assign (ev_const _ _)) ?_
      refine rts _ rfl (opD_assign (ls rfl (ls rfl lz))) ?_
      refine .nil ?_
      refine aw_keep [(4, _), (5, _), (6, _)] ⟨lg (ls rfl (ls rfl lz)), lg (ls rfl lz), lg lz, trivial⟩ ?_
      refine aw_ret ?_
      obtain rfl := some_of h0
      exact done_ext (.inr rfl) ((res_list (rs := [_, _, _]) (ps := [_, _, _]) rfl rfl ⟨it_tmp oz, it_tmp (os rfl oz), it_tmp (os rfl (os rfl oz)), trivial⟩).le (tup_le ⟨(le_nil rfl), (le_nil rfl), zLr, trivial⟩)) (tup_bnd (zbc (sl_b kb_Stx) (zbc (sl_b kb_Stx) (zbc zPb bnd_nil))))
    · skip
      cases hc
  · skip
    replace h0 := ifb_f h0 hc
    clear hc
    refine rts _ ⟨_, rfl, .inl ⟨_, eg lz, rfl⟩⟩ (opD_move (ls rfl (ls rfl (ls rfl (ls rfl (ls rfl oz)))))) ?_
    refine rts _ ⟨_, rfl, .inl ⟨_, eg (ls rfl lz), rfl⟩⟩ (opD_move (ls rfl (ls rfl (ls rfl (ls rfl (ls rfl (ls rfl oz))))))) ?_
    replace h0 := bnd_some h0
    obtain ⟨x_2, hx_2, h0⟩ := h0
    refine rts _ ⟨_, rfl, .inl ⟨_, eg (ls rfl (ls rfl lz)), rfl⟩⟩ (opD_ple (q := hsl (s.boxes.length + 1) 281474976710658 0 x_2.length kStx.sz) rfl (opD_to (X' := s.ext [⟨79, []⟩, ⟨(hot 114 281474976710658), (flat kStx x_2)⟩, ⟨79, []⟩] []) (opD_call ht102_W2 (c_sorted hx_2 (xlen rfl rfl)) ⟨le_of_eq lz, trivial⟩) (ul_new rfl (by simp only [znz] <;> rfl)))) ?_
    replace h0 := bnd_some h0
    obtain ⟨x_3, hx_3, h0⟩ := h0
    refine rts _ ⟨_, rfl, .inl ⟨_, eg (ls rfl (ls rfl (ls rfl lz))), rfl⟩⟩ (opD_lend (ps := [sl kStx none none p0, hsl (s.boxes.length + 1) 281474976710658 0 x_2.length kStx.sz]) ht170_W2 (c_equalX hx_3 SF) (pn_pl _) ⟨lent_sl fz_Stx, lent_hsl fz_Stx rfl (zNb rfl) (loc_getN rfl rfl) rfl, trivial⟩ ⟨le_of_eq (ls rfl (ls rfl lz)), le_of_eq lz, trivial⟩) ?_
    refine rts _ ⟨_, rfl, .inl ⟨_, eg (ls rfl (ls rfl (ls rfl (ls rfl lz)))), rfl⟩⟩ (opD_not lz) ?_
    refine rts _ rfl (opD_pickF (ls rfl (ls rfl (ls rfl (ls rfl (ls rfl lz))))) lz) ?_
    refine rts _ rfl (opD_move lz) ?_
    refine rtg _ rfl lz (fun hg1_11_1 => opD_move (ls rfl (ls rfl (ls rfl (ls rfl (ls rfl (ls rfl (ls rfl (ls rfl (ls rfl (ls rfl (ls rfl (ls rfl (os rfl oz)))))))))))))) ?_
    refine rtg _ rfl (ls rfl lz) (fun hg1_12_2 => opD_lss (lz.trans (pif_pos hg1_12_2)) (ev_const _ _)) ?_
    refine rts _ rfl (opD_or (ls rfl (ls rfl lz)) lz) ?_
    refine .nil ?_
    refine aw_keep [(0, _), (1, _), (24, _)] ⟨lg (ls rfl (ls rfl (ls rfl (ls rfl (ls rfl (ls rfl (ls rfl (ls rfl (ls rfl (ls rfl (ls rfl (ls rfl (ls rfl (ls rfl (ls rfl oz))))))))))))))), lg (ls rfl (ls rfl (ls rfl (ls rfl (ls rfl (ls rfl (ls rfl (ls rfl (ls rfl (ls rfl (ls rfl (ls rfl (ls rfl (ls rfl (ls rfl (os rfl oz)))))))))))))))), lg lz, trivial⟩ ?_
    refine aw_cond _ (os rfl (os rfl oz)) (fun hc => ?_) (fun hc => ?_)
    · skip
      replace h0 := ifb_t h0 hc
      clear hc
      refine aw_seq ?_
      refine aw_region (by decide) ?_
      refine rts _ rfl (opD_ple (q := pl (errV (some 1))) rfl (opD_makeInterface_pl cc145_W2 (ev_const _ _))) ?_
      refine rts _ rfl (opD_assign (ev_const _ _)) ?_
      refine rts _ rfl (opD_assign (ev_const _ _)) ?_
      refine rts _ rfl (opD_assign (ls rfl (ls rfl lz))) ?_
      refine .nil ?_
      refine aw_keep [(4, _), (5, _), (6, _)] ⟨lg (ls rfl (ls rfl lz)), lg (ls rfl lz), lg lz, trivial⟩ ?_
      refine aw_seal (k := kStx) (bs' := [⟨79, []⟩, ⟨((hot 114 281474976710658) + HOT), []⟩, ⟨79, []⟩]) (i := 1) (r := 281474976710658) (te := 114) rfl [(4, pl (.slice none 0 0)), (5, pl (.slice none 0 0)), (6, pl (errV (some 1)))] rfl rfl (zNb rfl) rfl (by decide) ⟨rfl, SealL.refl _, ⟨rfl, rfl, ⟨rfl, SealL.refl _, trivial⟩⟩⟩ (bl_cons bnd_nil (bl_cons bnd_nil (bl_cons bnd_nil bl_nil))) ⟨seal_e oz (seal_same _), seal_e (os rfl oz) (seal_same _), seal_e (os rfl (os rfl oz)) (seal_same _), trivial⟩ ?_
      refine aw_ret ?_
      obtain rfl := some_of h0
      exact done_ext (.inr rfl) ((res_list (rs := [_, _, _]) (ps := [_, _, _]) rfl rfl ⟨it_tmp oz, it_tmp (os rfl oz), it_tmp (os rfl (os rfl oz)), trivial⟩).le (tup_le ⟨(le_nil rfl), (le_nil rfl), zLr, trivial⟩)) (tup_bnd (zbc (sl_b kb_Stx) (zbc (sl_b kb_Stx) (zbc zPb bnd_nil))))
    · skip
      replace h0 := ifb_f h0 hc
      clear hc
      refine aw_skip ?_
      refine aw_keep [(0, _), (1, _)] ⟨lg oz, lg (os rfl oz), trivial⟩ ?_
      refine aw_seq ?_
      refine aw_region (by decide) ?_
      refine rts _ rfl (opD_assign (ev_const _ _)) ?_
      refine .nil ?_
      refine aw_keep [(0, _), (1, _), (7, _)] ⟨lg (ls rfl oz), lg (ls rfl (os rfl oz)), lg lz, trivial⟩ ?_
      refine aw_seq ?_
      refine aw_region (by decide) ?_
      refine rts _ rfl (opD_move oz) ?_
      replace h0 := grd_some h0
      obtain ⟨hg_3, h0⟩ := h0
      refine rts _ rfl (callNH rfl ht171_W2 (clX hg_3.1 hg_3.2) ⟨le_of_eq lz, trivial⟩ (by first | exact List.length_nil | (simp only [List.length_cons, List.length_nil, Nat.zero_add, Nat.reduceAdd] <;> rfl)) (by simp only [znz] <;> rfl)) ?_
      refine rts _ rfl (opD_assign lz) ?_
      refine .nil ?_
      refine aw_keep [(1, _), (7, _), (8, _)] ⟨lg (ls rfl (ls rfl (ls rfl (os rfl oz)))), lg (ls rfl (ls rfl (ls rfl (os rfl (os rfl oz))))), lg lz, trivial⟩ ?_
      refine aw_seq ?_
      replace h0 := bnd_some h0
      obtain ⟨z_4, hz_4, h0⟩ := h0
      refine aw_mid (fun e st => ∃ v : (List Stx) × (List Stx) × Nat, Holds e [(7, sl kStx none none v.1), (8, hso (s.boxes.length + 3) 4 (v.2.2 * kStx.sz) (p0.length - v.2.2) kStx.sz)] ∧ st = s.ext [⟨79, []⟩, ⟨(hot 114 281474976710658), (flat kStx x_2)⟩, ⟨79, []⟩, ⟨(hot 114 4), (flat kStx v.2.1)⟩] [] ∧ (.inr v) = z_4) ?_ ?_
      · skip
        refine aw_wkN rfl 4 0 rfl rfl ?_
        refine aw_block ?_
        refine aw_fr ⟨114, 2, 0⟩ ?_
        refine aw_loop (fun n e st => ∃ v : Int × (List Stx) × Nat × (List Stx), Holds e [(1, pl (.int .i64 v.1)), (7, sl kStx (some (s.fr.length + 0)) none v.2.1), (8, hso (s.boxes.length + 3) 4 (v.2.2.1 * kStx.sz) (p0.length - v.2.2.1) kStx.sz)] ∧ st = s.ext [⟨79, []⟩, ⟨(hot 114 281474976710658), (flat kStx x_2)⟩, ⟨79, []⟩, ⟨(hot 114 4), (flat kStx v.2.2.2)⟩] [⟨114, 2, v.2.1.length⟩] ∧ lp (F_xReserve_b0 p0) n v = some z_4) fl ⟨(p1, ([] : (List Stx)), 0, p0), ⟨le_of_eq (eg oz), (le_of_eq (eg (os rfl oz))).trans (nil_own rfl), (le_of_eq (eg (os rfl (os rfl oz)))).trans hso_of0, trivial⟩, rfl, hz_4⟩ ?_
        rintro n e st ⟨t_5, hH, rfl, hz_4⟩
        replace hz_4 := lp_some hz_4
        obtain ⟨m_z_6, z_6, rfl, hz_6, hz_4⟩ := hz_4
        unfold F_xReserve_b0 at hz_6
        refine aw_keep _ hH ?_
        refine aw_wkN rfl 4 1 rfl rfl ?_
        refine aw_seq ?_
        refine aw_seq ?_
        refine aw_region (by decide) ?_
        refine rts _ rfl (opD_move oz) ?_
        refine rts _ rfl (opD_gtr lz (ev_const _ _)) ?_
        refine .nil ?_
        refine aw_keep [(1, _), (7, _), (8, _), (29, _)] ⟨lg (ls rfl (ls rfl oz)), lg (ls rfl (ls rfl (os rfl oz))), lg (ls rfl (ls rfl (os rfl (os rfl oz)))), lg lz, trivial⟩ ?_
        refine aw_cond _ (os rfl (os rfl (os rfl oz))) (fun hc => ?_) (fun hc => ?_)
        · skip
          replace hz_6 := ifb_t hz_6 hc
          clear hc
          refine aw_skip ?_
          refine aw_keep [(1, _), (7, _), (8, _)] ⟨lg oz, lg (os rfl oz), lg (os rfl (os rfl oz)), trivial⟩ ?_
          refine aw_block ?_
          refine aw_seq ?_
          refine aw_seq ?_
          refine aw_region (by decide) ?_
          refine rts _ rfl (opD_move (os rfl (os rfl oz))) ?_
          refine rts _ rfl (opD_len_ho Tryd.underlying79 (le_of_eq lz)) ?_
          refine rts _ rfl (opD_eql lz (ev_const _ _)) ?_
          refine rts _ rfl (opD_move lz) ?_
          refine rtg _ rfl lz (fun hg6_4_74 => opD_move (ls rfl (ls rfl (ls rfl (ls rfl (os rfl oz)))))) ?_
          refine rtg _ rfl (ls rfl lz) (fun hg6_5_75 => opD_len_sl Tryd.underlying79 (lz.trans (pif_pos hg6_5_75))) ?_
          refine rtg _ rfl (ls rfl (ls rfl lz)) (fun hg6_6_76 => opD_eql (lz.trans (pif_pos hg6_6_76)) (ev_const _ _)) ?_
          refine rts _ rfl (opD_or (ls rfl (ls rfl (ls rfl lz))) lz) ?_
          refine .nil ?_
          refine aw_keep [(1, _), (7, _), (8, _), (37, _)] ⟨lg (ls rfl (ls rfl (ls rfl (ls rfl (ls rfl (ls rfl (ls rfl (ls rfl oz)))))))), lg (ls rfl (ls rfl (ls rfl (ls rfl (ls rfl (ls rfl (ls rfl (ls rfl (os rfl oz))))))))), lg (ls rfl (ls rfl (ls rfl (ls rfl (ls rfl (ls rfl (ls rfl (ls rfl (os rfl (os rfl oz)))))))))), lg lz, trivial⟩ ?_
          refine aw_cond _ (os rfl (os rfl (os rfl oz))) (fun hc => ?_) (fun hc => ?_)
          · skip
            replace hz_6 := ifb_t hz_6 hc
            clear hc
            refine aw_seq ?_
            refine aw_region (by decide) ?_
            refine rts _ rfl (opD_ple (q := pl (errV (some 7))) rfl (opD_makeInterface_pl cc145_W2 (ev_const _ _))) ?_
            refine rts _ rfl (opD_assign (ev_const _ _)) ?_
            refine rts _ rfl (opD_assign (ev_const _ _)) ?_
            refine rts _ rfl (opD_assign (ls rfl (ls rfl lz))) ?_
            refine .nil ?_
            refine aw_keep [(4, _), (5, _), (6, _)] ⟨lg (ls rfl (ls rfl lz)), lg (ls rfl lz), lg lz, trivial⟩ ?_
            refine aw_seal (k := kStx) (bs' := [⟨79, []⟩, ⟨((hot 114 281474976710658) + HOT), []⟩, ⟨79, []⟩, ⟨(hot 114 4), (flat kStx t_5.2.2.2)⟩]) (i := 1) (r := 281474976710658) (te := 114) rfl [(4, pl (.slice none 0 0)), (5, pl (.slice none 0 0)), (6, pl (errV (some 7)))] rfl rfl (zNb rfl) rfl (by decide) ⟨rfl, SealL.refl _, ⟨rfl, rfl, ⟨rfl, SealL.refl _, ⟨rfl, SealL.refl _, trivial⟩⟩⟩⟩ (bl_cons bnd_nil (bl_cons bnd_nil (bl_cons bnd_nil (bl_cons (flatKB kb_Stx) bl_nil)))) ⟨seal_e oz (seal_same _), seal_e (os rfl oz) (seal_same _), seal_e (os rfl (os rfl oz)) (seal_same _), trivial⟩ ?_
            refine aw_seal (k := kStx) (bs' := [⟨79, []⟩, ⟨((hot 114 281474976710658) + HOT), []⟩, ⟨79, []⟩, ⟨((hot 114 4) + HOT), []⟩]) (i := 3) (r := 4) (te := 114) rfl [(4, pl (.slice none 0 0)), (5, pl (.slice none 0 0)), (6, pl (errV (some 7)))] rfl rfl (zNb rfl) rfl (by decide) ⟨rfl, SealL.refl _, ⟨rfl, SealL.refl _, ⟨rfl, SealL.refl _, ⟨rfl, rfl, trivial⟩⟩⟩⟩ (bl_cons bnd_nil (bl_cons bnd_nil (bl_cons bnd_nil (bl_cons bnd_nil bl_nil)))) ⟨seal_e oz (seal_same _), seal_e (os rfl oz) (seal_same _), seal_e (os rfl (os rfl oz)) (seal_same _), trivial⟩ ?_
            refine aw_ret ?_
            obtain rfl := some_of hz_6
            replace hz_4 := ocs_r hz_4
            obtain rfl := some_of hz_4
            replace h0 := ocs_l h0
            refine wk_no ?_
            refine wk_no ?_
            obtain rfl := some_of h0
            exact done_ext (.inr rfl) ((res_list (rs := [_, _, _]) (ps := [_, _, _]) rfl rfl ⟨it_tmp oz, it_tmp (os rfl oz), it_tmp (os rfl (os rfl oz)), trivial⟩).le (tup_le ⟨(le_nil rfl), (le_nil rfl), zLr, trivial⟩)) (tup_bnd (zbc (sl_b kb_Stx) (zbc (sl_b kb_Stx) (zbc zPb bnd_nil))))
          · skip
            replace hz_6 := ifb_f hz_6 hc
            clear hc
            refine aw_skip ?_
            refine aw_keep [(1, _), (7, _), (8, _)] ⟨lg oz, lg (os rfl oz), lg (os rfl (os rfl oz)), trivial⟩ ?_
            refine aw_seq ?_
            refine aw_region (by decide) ?_
            refine rts _ rfl (opD_move (os rfl (os rfl oz))) ?_
            replace hz_6 := grd_some hz_6
            obtain ⟨hg_77, hz_6⟩ := hz_6
            refine rts _ rfl (opD_indexAddr_ho (i := (0 : Int).toNat) Tryd.underlying79 sz114_W2 rfl ⟨_, (loc_getN rfl rfl)⟩ (le_of_eq lz) (ev_const _ _) hg_77.eq hg_77.2) ?_
            replace hz_6 := ixb_some hz_6
            obtain ⟨x_7, hx_7, hbx_7, hz_6⟩ := hz_6
            refine rts _ rfl (loadE (k := kStx) ag114_W2 sz114_W2 rfl (zNb rfl) (by decide) lz (loc_getN rfl rfl) (nat_ix hx_7)) ?_
            refine rts _ rfl (allocN rfl zt114_W2 (by first | exact List.length_nil | (simp only [List.length_cons, List.length_nil, Nat.zero_add, Nat.reduceAdd] <;> rfl)) (by simp only [znz] <;> rfl)) ?_
            refine rts _ rfl (storeAN rfl sz114_W2 lz (ls rfl lz) (ones_cons (one_pl rfl) (ones_cons (one_pl rfl) ones_nil)) rfl rfl (zNb rfl) (List.cons_ne_nil _ _) (zbc zPb (zbc zPb bnd_nil)) (by simp only [znz] <;> rfl) (by simp only [znz] <;> rfl)) ?_
            refine .nil ?_
            refine aw_keep [(1, _), (7, _), (8, _), (9, _)] ⟨lg (lx (ls rfl (ls rfl (ls rfl (ls rfl oz))))), lg (lx (ls rfl (ls rfl (ls rfl (ls rfl (os rfl oz)))))), lg (lx (ls rfl (ls rfl (ls rfl (ls rfl (os rfl (os rfl oz))))))), lg (lx lz), trivial⟩ ?_
            refine aw_seq ?_
            refine aw_region (by decide) ?_
            refine rts _ rfl (opD_move oz) ?_
            refine rts _ rfl (opD_fieldAddr fo114_1_W2 (ls rfl (os rfl (os rfl (os rfl oz))))) ?_
            refine rts _ rfl (opD_load_one ag3_W2 lz (loc_getN rfl rfl) rfl) ?_
            refine rts _ rfl (opD_min (ls rfl (ls rfl lz)) lz rfl) ?_
            refine rts _ rfl (opD_assign lz) ?_
            refine .nil ?_
            refine aw_keep [(1, _), (7, _), (8, _), (9, _), (10, _)] ⟨lg (ls rfl (ls rfl (ls rfl (ls rfl (ls rfl oz))))), lg (ls rfl (ls rfl (ls rfl (ls rfl (ls rfl (os rfl oz)))))), lg (ls rfl (ls rfl (ls rfl (ls rfl (ls rfl (os rfl (os rfl oz))))))), lg (ls rfl (ls rfl (ls rfl (ls rfl (ls rfl (os rfl (os rfl (os rfl oz)))))))), lg lz, trivial⟩ ?_
            refine aw_seq ?_
            refine aw_region (by decide) ?_
            refine rts _ rfl (opD_move (os rfl oz)) ?_
            refine rts _ rfl (opD_fieldAddr fo114_0_W2 (ls rfl (os rfl (os rfl (os rfl oz))))) ?_
            refine rts _ rfl (opD_load_one ag3_W2 lz (loc_getN rfl rfl) rfl) ?_
            refine rts _ rfl (opD_move (ls rfl (ls rfl (ls rfl (os rfl (os rfl (os rfl (os rfl oz)))))))) ?_
            refine rts _ rfl (opD_build_struct (rs := [_, _]) Tryd.underlying114 pt114_W2 zt114_W2 (parts_cons (cells1 (ls rfl lz) (one_pl rfl)) (parts_cons (cells1 lz (one_pl rfl)) parts_nil)) rfl) ?_
            refine rts _ rfl (opD_buildOwn (k := kStx) ([(⟨x_7.From, (if x_7.Many < t_5.1 then x_7.Many else t_5.1)⟩ : Stx)] : (List Stx)) Tryd.underlying79 sz114_W2 zt114_W2 (by decide) rfl (parts_cons (cellsA lz) parts_nil) rfl rfl (by first | exact List.length_nil | (simp only [List.length_cons, List.length_nil, Nat.zero_add, Nat.reduceAdd] <;> rfl)) (by simp only [znz] <;> rfl)) ?_
            replace hz_6 := grd_some hz_6
            obtain ⟨hg_78, hz_6⟩ := hz_6
            refine rts _ rfl (opD_appendX Tryd.underlying79 el114_W2 (ls rfl (ls rfl (ls rfl (ls rfl (ls rfl lz))))) lz rfl hg_78.1 hg_78.2 rfl (by simp only [znz] <;> rfl)) ?_
            refine rts _ rfl (opD_assign lz) ?_
            refine .nil ?_
            refine aw_keep [(1, _), (7, _), (8, _), (9, _), (10, _)] ⟨lg (ls rfl (ls rfl (ls rfl (ls rfl (ls rfl (ls rfl (ls rfl (ls rfl oz)))))))), lg lz, lg (ls rfl (ls rfl (ls rfl (ls rfl (ls rfl (ls rfl (ls rfl (ls rfl (os rfl (os rfl oz)))))))))), lg (ls rfl (ls rfl (ls rfl (ls rfl (ls rfl (ls rfl (ls rfl (ls rfl (os rfl (os rfl (os rfl oz))))))))))), lg (ls rfl (ls rfl (ls rfl (ls rfl (ls rfl (ls rfl (ls rfl (ls rfl (os rfl (os rfl (os rfl (os rfl oz)))))))))))), trivial⟩ ?_
            refine aw_seq ?_
            refine aw_region (by decide) ?_
            refine rts _ rfl (opD_move (os rfl (os rfl oz))) ?_
            refine rts _ rfl (opD_fieldAddr fo114_0_W2 (ls rfl (os rfl (os rfl (os rfl oz))))) ?_
            refine rts _ rfl (opD_load_one ag3_W2 lz (loc_getN rfl rfl) rfl) ?_
            refine rts _ rfl (opD_move (ls rfl (ls rfl (ls rfl (os rfl (os rfl (os rfl (os rfl oz)))))))) ?_
            refine rts _ rfl (opD_add (ls rfl lz) lz rfl) ?_
            refine rts _ rfl (opD_fieldAddr fo114_1_W2 (ls rfl (ls rfl (ls rfl (ls rfl (ls rfl (os rfl (os rfl (os rfl oz))))))))) ?_
            refine rts _ rfl (opD_load_one ag3_W2 lz (loc_getN rfl rfl) rfl) ?_
            refine rts _ rfl (opD_move (ls rfl (ls rfl (ls rfl (ls rfl (ls rfl (ls rfl (ls rfl (os rfl (os rfl (os rfl (os rfl oz)))))))))))) ?_
            refine rts _ rfl (opD_sub (ls rfl lz) lz rfl) ?_
            refine rts _ rfl (opD_build_struct (rs := [_, _]) Tryd.underlying114 pt114_W2 zt114_W2 (parts_cons (cells1 (ls rfl (ls rfl (ls rfl (ls rfl lz)))) (one_pl rfl)) (parts_cons (cells1 lz (one_pl rfl)) parts_nil)) rfl) ?_
            replace hz_6 := grd_some hz_6
            obtain ⟨hg_79, hz_6⟩ := hz_6
            refine rts _ rfl (opD_indexAddr_ho (i := (0 : Int).toNat) Tryd.underlying79 sz114_W2 rfl ⟨_, (loc_getN rfl rfl)⟩ (le_of_eq (ls rfl (ls rfl (ls rfl (ls rfl (ls rfl (ls rfl (ls rfl (ls rfl (ls rfl lz)))))))))) (ev_const _ _) hg_79.eq hg_79.2) ?_
            replace hz_6 := grd_some hz_6
            obtain ⟨hg_80, hz_6⟩ := hz_6
            refine rts _ rfl (storeEN (k := kStx) (y := (⟨IntKind.i64.wrap (x_7.From + (if x_7.Many < t_5.1 then x_7.Many else t_5.1)), IntKind.i64.wrap (x_7.Many - (if x_7.Many < t_5.1 then x_7.Many else t_5.1))⟩ : Stx)) rfl sz114_W2 rfl (zNb rfl) (by decide) lz ((ls rfl lz).trans (show _ = agg (kStx.cs (⟨IntKind.i64.wrap (x_7.From + (if x_7.Many < t_5.1 then x_7.Many else t_5.1)), IntKind.i64.wrap (x_7.Many - (if x_7.Many < t_5.1 then x_7.Many else t_5.1))⟩ : Stx)) from rfl)) rfl (nat_lt hg_80) kb_Stx (by simp only [znz] <;> rfl)) ?_
            refine .nil ?_
            refine aw_keep [(1, _), (7, _), (8, _), (10, _)] ⟨lg (lx (ls rfl (ls rfl (ls rfl (ls rfl (ls rfl (ls rfl (ls rfl (ls rfl (ls rfl (ls rfl (ls rfl oz)))))))))))), lg (lx (ls rfl (ls rfl (ls rfl (ls rfl (ls rfl (ls rfl (ls rfl (ls rfl (ls rfl (ls rfl (ls rfl (os rfl oz))))))))))))), lg (lx (ls rfl (ls rfl (ls rfl (ls rfl (ls rfl (ls rfl (ls rfl (ls rfl (ls rfl (ls rfl (ls rfl (os rfl (os rfl oz)))))))))))))), lg (lx (ls rfl (ls rfl (ls rfl (ls rfl (ls rfl (ls rfl (ls rfl (ls rfl (ls rfl (ls rfl (ls rfl (os rfl (os rfl (os rfl (os rfl oz)))))))))))))))), trivial⟩ ?_
            refine aw_seq ?_
            refine aw_seq ?_
            refine aw_region (by decide) ?_
            refine rts _ rfl (opD_move (os rfl (os rfl oz))) ?_
            replace hz_6 := grd_some hz_6
            obtain ⟨hg_81, hz_6⟩ := hz_6
            refine rts _ rfl (opD_indexAddr_ho (i := (0 : Int).toNat) Tryd.underlying79 sz114_W2 rfl ⟨_, (loc_getN rfl rfl)⟩ (le_of_eq lz) (ev_const _ _) hg_81.eq hg_81.2) ?_
            refine rts _ rfl (opD_fieldAddr fo114_1_W2 (lz.trans (ptv0 _ _ _))) ?_
            replace hz_6 := ixb_some hz_6
            obtain ⟨x_8, hx_8, hbx_8, hz_6⟩ := hz_6
            refine rts _ rfl (opD_load1_h ag3_W2 rfl (zNb rfl) lz (loc_getN rfl rfl) (flat_fld (j := 1) (nat_ix hx_8) rfl (by decide))) ?_
            refine rts _ rfl (opD_eql lz (ev_const _ _)) ?_
            refine .nil ?_
            refine aw_keep [(1, _), (7, _), (8, _), (10, _), (68, _)] ⟨lg (ls rfl (ls rfl (ls rfl (ls rfl (ls rfl oz))))), lg (ls rfl (ls rfl (ls rfl (ls rfl (ls rfl (os rfl oz)))))), lg (ls rfl (ls rfl (ls rfl (ls rfl (ls rfl (os rfl (os rfl oz))))))), lg (ls rfl (ls rfl (ls rfl (ls rfl (ls rfl (os rfl (os rfl (os rfl oz)))))))), lg lz, trivial⟩ ?_
            replace hz_6 := bnd_some hz_6
            obtain ⟨z_9, hz_9, hz_6⟩ := hz_6
            refine aw_mid (fun e st => ∃ v : Nat, Holds e [(1, pl (.int .i64 t_5.1)), (7, sl kStx (some (s.fr.length + 0)) none (t_5.2.1 ++ ([(⟨x_7.From, (if x_7.Many < t_5.1 then x_7.Many else t_5.1)⟩ : Stx)] : (List Stx)))), (8, hso (s.boxes.length + 3) 4 (v * kStx.sz) (p0.length - v) kStx.sz), (10, pl (.int .i64 (if x_7.Many < t_5.1 then x_7.Many else t_5.1)))] ∧ st = s.ext [⟨79, []⟩, ⟨(hot 114 281474976710658), (flat kStx x_2)⟩, ⟨79, []⟩, ⟨(hot 114 4), (flat kStx (t_5.2.2.2.set (t_5.2.2.1 + (0 : Int).toNat) (⟨IntKind.i64.wrap (x_7.From + (if x_7.Many < t_5.1 then x_7.Many else t_5.1)), IntKind.i64.wrap (x_7.Many - (if x_7.Many < t_5.1 then x_7.Many else t_5.1))⟩ : Stx)))⟩, ⟨114, [pl (.int .i64 x_7.From), pl (.int .i64 x_7.Many)]⟩] [⟨114, 2, (t_5.2.1 ++ ([(⟨x_7.From, (if x_7.Many < t_5.1 then x_7.Many else t_5.1)⟩ : Stx)] : (List Stx))).length⟩, ⟨114, 2, ([(⟨x_7.From, (if x_7.Many < t_5.1 then x_7.Many else t_5.1)⟩ : Stx)] : (List Stx)).length⟩] ∧ v = z_9) ?_ ?_
            · skip
              refine aw_wkN rfl 5 2 rfl rfl ?_
              refine aw_cond _ (os rfl (os rfl (os rfl (os rfl oz)))) (fun hc => ?_) (fun hc => ?_)
              · skip
                replace hz_9 := ifb_t hz_9 hc
                clear hc
                refine aw_region (by decide) ?_
                refine rts _ rfl (opD_move (os rfl (os rfl oz))) ?_
                replace hz_9 := grd_some hz_9
                obtain ⟨hg_83, hz_9⟩ := hz_9
                refine rts _ rfl (opD_slice_ho (o := t_5.2.2.1) (M := p0.length) ((1 : Int).toNat) Tryd.underlying79 sz114_W2 (le_of_eq lz) (ev_const _ _) hg_83.eq hg_83.2) ?_
                refine rts _ rfl (opD_assign lz) ?_
                refine .nil ?_
                refine wk_yesN rfl (l := [(1, pl (.int .i64 t_5.1)), (7, sl kStx (some (s.fr.length + 0)) none (t_5.2.1 ++ ([(⟨x_7.From, (if x_7.Many < t_5.1 then x_7.Many else t_5.1)⟩ : Stx)] : (List Stx)))), (8, hso (s.boxes.length + 3) 4 ((t_5.2.2.1 + ((1 : Int).toNat)) * kStx.sz) (p0.length - (t_5.2.2.1 + ((1 : Int).toNat))) kStx.sz), (10, pl (.int .i64 (if x_7.Many < t_5.1 then x_7.Many else t_5.1)))]) (bs' := [⟨79, []⟩, ⟨(hot 114 281474976710658), (flat kStx x_2)⟩, ⟨79, []⟩, ⟨(hot 114 4), (flat kStx (t_5.2.2.2.set (t_5.2.2.1 + (0 : Int).toNat) (⟨IntKind.i64.wrap (x_7.From + (if x_7.Many < t_5.1 then x_7.Many else t_5.1)), IntKind.i64.wrap (x_7.Many - (if x_7.Many < t_5.1 then x_7.Many else t_5.1))⟩ : Stx)))⟩, ⟨114, [pl (.int .i64 x_7.From), pl (.int .i64 x_7.Many)]⟩]) ⟨le_of_eq (eg (ls rfl (ls rfl (ls rfl oz)))), le_of_eq (eg (ls rfl (ls rfl (ls rfl (os rfl oz))))), le_of_eq (eg lz), le_of_eq (eg (ls rfl (ls rfl (ls rfl (os rfl (os rfl (os rfl oz))))))), trivial⟩ (zbc zPb (zbc (sl_ob kb_Stx (by first | omega | (simp only [List.length_append, List.length_cons, List.length_nil, ext_fr_length, upd_fr_length]; omega))) (zbc (hso_bnd _ (by first | omega | (simp only [List.length_append, List.length_cons, List.length_nil]; omega))) (zbc zPb bnd_nil)))) (zNb rfl) (by simp only [znz] <;> rfl) (bxle_same (bxle_same (bxle_same (bxle_same (bxle_same bxle_nil))))) rfl (by simp only [znz] <;> rfl) (bl_cons bnd_nil (bl_cons (flatKB kb_Stx) (bl_cons bnd_nil (bl_cons (flatKB kb_Stx) (bl_cons (zbc zPb (zbc zPb bnd_nil)) bl_nil))))) ?_
                exact ⟨(t_5.2.2.1 + ((1 : Int).toNat)), ⟨le_of_eq (eg oz), le_of_eq (eg (os rfl oz)), le_of_eq (eg (os rfl (os rfl oz))), le_of_eq (eg (os rfl (os rfl (os rfl oz)))), trivial⟩, rfl, some_of hz_9⟩
              · skip
                replace hz_9 := ifb_f hz_9 hc
                clear hc
                refine aw_skip ?_
                refine wk_yesN rfl (l := [(1, pl (.int .i64 t_5.1)), (7, sl kStx (some (s.fr.length + 0)) none (t_5.2.1 ++ ([(⟨x_7.From, (if x_7.Many < t_5.1 then x_7.Many else t_5.1)⟩ : Stx)] : (List Stx)))), (8, hso (s.boxes.length + 3) 4 (t_5.2.2.1 * kStx.sz) (p0.length - t_5.2.2.1) kStx.sz), (10, pl (.int .i64 (if x_7.Many < t_5.1 then x_7.Many else t_5.1)))]) (bs' := [⟨79, []⟩, ⟨(hot 114 281474976710658), (flat kStx x_2)⟩, ⟨79, []⟩, ⟨(hot 114 4), (flat kStx (t_5.2.2.2.set (t_5.2.2.1 + (0 : Int).toNat) (⟨IntKind.i64.wrap (x_7.From + (if x_7.Many < t_5.1 then x_7.Many else t_5.1)), IntKind.i64.wrap (x_7.Many - (if x_7.Many < t_5.1 then x_7.Many else t_5.1))⟩ : Stx)))⟩, ⟨114, [pl (.int .i64 x_7.From), pl (.int .i64 x_7.Many)]⟩]) ⟨le_of_eq (eg oz), le_of_eq (eg (os rfl oz)), le_of_eq (eg (os rfl (os rfl oz))), le_of_eq (eg (os rfl (os rfl (os rfl oz)))), trivial⟩ (zbc zPb (zbc (sl_ob kb_Stx (by first | omega | (simp only [List.length_append, List.length_cons, List.length_nil, ext_fr_length, upd_fr_length]; omega))) (zbc (hso_bnd _ (by first | omega | (simp only [List.length_append, List.length_cons, List.length_nil]; omega))) (zbc zPb bnd_nil)))) (zNb rfl) (by simp only [znz] <;> rfl) (bxle_same (bxle_same (bxle_same (bxle_same (bxle_same bxle_nil))))) rfl (by simp only [znz] <;> rfl) (bl_cons bnd_nil (bl_cons (flatKB kb_Stx) (bl_cons bnd_nil (bl_cons (flatKB kb_Stx) (bl_cons (zbc zPb (zbc zPb bnd_nil)) bl_nil))))) ?_
                exact ⟨t_5.2.2.1, ⟨le_of_eq (eg oz), le_of_eq (eg (os rfl oz)), le_of_eq (eg (os rfl (os rfl oz))), le_of_eq (eg (os rfl (os rfl (os rfl oz)))), trivial⟩, rfl, some_of hz_9⟩
            · rintro e st ⟨vz_9, hH, rfl, rfl⟩
              refine aw_keep _ hH ?_
              refine aw_keep [(1, _), (7, _), (8, _), (10, _)] ⟨lg oz, lg (os rfl oz), lg (os rfl (os rfl oz)), lg (os rfl (os rfl (os rfl oz))), trivial⟩ ?_
              refine aw_region (by decide) ?_
              refine rts _ rfl (opD_move oz) ?_
              refine rts _ rfl (opD_move (ls rfl (os rfl (os rfl (os rfl oz))))) ?_
              refine rts _ rfl (opD_sub (ls rfl lz) lz rfl) ?_
              refine rts _ rfl (opD_assign lz) ?_
              refine .nil ?_
              obtain rfl := some_of hz_6
              replace hz_4 := ocs_l hz_4
              refine wk_yesN rfl (l := [(1, pl (.int .i64 (IntKind.i64.wrap (t_5.1 - (if x_7.Many < t_5.1 then x_7.Many else t_5.1))))), (7, sl kStx (some (s.fr.length + 0)) none (t_5.2.1 ++ ([(⟨x_7.From, (if x_7.Many < t_5.1 then x_7.Many else t_5.1)⟩ : Stx)] : (List Stx)))), (8, hso (s.boxes.length + 3) 4 (vz_9 * kStx.sz) (p0.length - vz_9) kStx.sz)]) (bs' := [⟨79, []⟩, ⟨(hot 114 281474976710658), (flat kStx x_2)⟩, ⟨79, []⟩, ⟨(hot 114 4), (flat kStx (t_5.2.2.2.set (t_5.2.2.1 + (0 : Int).toNat) (⟨IntKind.i64.wrap (x_7.From + (if x_7.Many < t_5.1 then x_7.Many else t_5.1)), IntKind.i64.wrap (x_7.Many - (if x_7.Many < t_5.1 then x_7.Many else t_5.1))⟩ : Stx)))⟩]) ⟨le_of_eq (eg lz), le_of_eq (eg (ls rfl (ls rfl (ls rfl (ls rfl (os rfl oz)))))), le_of_eq (eg (ls rfl (ls rfl (ls rfl (ls rfl (os rfl (os rfl oz))))))), trivial⟩ (zbc zPb (zbc (sl_ob kb_Stx (by first | omega | (simp only [List.length_append, List.length_cons, List.length_nil, ext_fr_length, upd_fr_length]; omega))) (zbc (hso_bnd _ (by first | omega | (simp only [List.length_append, List.length_cons, List.length_nil]; omega))) bnd_nil))) (zNb rfl) (by simp only [znz] <;> rfl) (bxle_same (bxle_same (bxle_same (bxle_same bxle_nil)))) rfl (by simp only [znz] <;> rfl) (bl_cons bnd_nil (bl_cons (flatKB kb_Stx) (bl_cons bnd_nil (bl_cons (flatKB kb_Stx) bl_nil)))) ?_
              exact ⟨m_z_6, Nat.lt_succ_self _, (IntKind.i64.wrap (t_5.1 - (if x_7.Many < t_5.1 then x_7.Many else t_5.1)), (t_5.2.1 ++ ([(⟨x_7.From, (if x_7.Many < t_5.1 then x_7.Many else t_5.1)⟩ : Stx)] : (List Stx))), vz_9, (t_5.2.2.2.set (t_5.2.2.1 + (0 : Int).toNat) (⟨IntKind.i64.wrap (x_7.From + (if x_7.Many < t_5.1 then x_7.Many else t_5.1)), IntKind.i64.wrap (x_7.Many - (if x_7.Many < t_5.1 then x_7.Many else t_5.1))⟩ : Stx))), ⟨le_of_eq (eg oz), le_of_eq (eg (os rfl oz)), le_of_eq (eg (os rfl (os rfl oz))), trivial⟩, rfl, hz_4⟩
        · skip
          replace hz_6 := ifb_f hz_6 hc
          clear hc
          refine aw_exit ?_
          obtain rfl := some_of hz_6
          replace hz_4 := ocs_r hz_4
          refine wk_no ?_
          refine wk_yesN rfl (l := [(7, sl kStx none none t_5.2.1), (8, hso (s.boxes.length + 3) 4 (t_5.2.2.1 * kStx.sz) (p0.length - t_5.2.2.1) kStx.sz)]) (bs' := [⟨79, []⟩, ⟨(hot 114 281474976710658), (flat kStx x_2)⟩, ⟨79, []⟩, ⟨(hot 114 4), (flat kStx t_5.2.2.2)⟩]) ⟨(le_of_eq (eg (os rfl oz))).trans (sl_le _ (some (s.fr.length + 0)) none _), le_of_eq (eg (os rfl (os rfl oz))), trivial⟩ (zbc (sl_b kb_Stx) (zbc (hso_bnd _ (by first | omega | (simp only [List.length_append, List.length_cons, List.length_nil]; omega))) bnd_nil)) (zNb rfl) (by simp only [znz] <;> rfl) (bxle_same (bxle_same (bxle_same (bxle_same bxle_nil)))) rfl (by simp only [znz] <;> rfl) (bl_cons bnd_nil (bl_cons (flatKB kb_Stx) (bl_cons bnd_nil (bl_cons (flatKB kb_Stx) bl_nil)))) ?_
          exact ⟨(t_5.2.1, t_5.2.2.2, t_5.2.2.1), ⟨le_of_eq (eg oz), le_of_eq (eg (os rfl oz)), trivial⟩, rfl, some_of hz_4⟩
      · rintro e st ⟨vz_4, hH, rfl, rfl⟩
        refine aw_keep _ hH ?_
        replace h0 := ocs_r h0
        refine aw_keep [(7, _), (8, _)] ⟨lg oz, lg (os rfl oz), trivial⟩ ?_
        refine aw_seq ?_
        refine aw_seal (k := kStx) (bs' := [⟨79, []⟩, ⟨((hot 114 281474976710658) + HOT), []⟩, ⟨79, []⟩, ⟨(hot 114 4), (flat kStx vz_4.2.1)⟩]) (i := 1) (r := 281474976710658) (te := 114) rfl [(7, sl kStx none none vz_4.1), (8, hso (s.boxes.length + 3) 4 (vz_4.2.2 * kStx.sz) (p0.length - vz_4.2.2) kStx.sz)] rfl rfl (zNb rfl) rfl (by decide) ⟨rfl, SealL.refl _, ⟨rfl, rfl, ⟨rfl, SealL.refl _, ⟨rfl, SealL.refl _, trivial⟩⟩⟩⟩ (bl_cons bnd_nil (bl_cons bnd_nil (bl_cons bnd_nil (bl_cons (flatKB kb_Stx) bl_nil)))) ⟨seal_e oz (seal_same _), seal_e (os rfl oz) (seal_same _), trivial⟩ ?_
        replace h0 := grd_some h0
        obtain ⟨hg_84, h0⟩ := h0
        refine aw_seal (k := kStx) (bs' := [⟨79, []⟩, ⟨((hot 114 281474976710658) + HOT), []⟩, ⟨79, []⟩, ⟨((hot 114 4) + HOT), []⟩]) (i := 3) (r := 4) (te := 114) rfl [(7, sl kStx none none vz_4.1), (8, sl kStx none none (vz_4.2.1.drop vz_4.2.2))] rfl rfl (zNb rfl) rfl (by decide) ⟨rfl, SealL.refl _, ⟨rfl, SealL.refl _, ⟨rfl, SealL.refl _, ⟨rfl, rfl, trivial⟩⟩⟩⟩ (bl_cons bnd_nil (bl_cons bnd_nil (bl_cons bnd_nil (bl_cons bnd_nil bl_nil)))) ⟨seal_e oz (seal_same _), seal_e (os rfl oz) (seal_so hg_84), trivial⟩ ?_
        refine aw_region (by decide) ?_
        refine rts _ rfl (opD_move oz) ?_
        refine rts _ rfl (opD_move (ls rfl (os rfl oz))) ?_
        replace h0 := bnd_some h0
        obtain ⟨x_10, hx_10, h0⟩ := h0
        refine rts _ rfl (opD_own1 ht171_W2 (c_oCloneX hx_10) ⟨le_of_eq lz, trivial⟩ (by first | exact List.length_nil | (simp only [List.length_cons, List.length_nil, Nat.zero_add, Nat.reduceAdd] <;> rfl)) (by simp only [znz] <;> rfl)) ?_
        refine rts _ rfl (opD_assign (ls rfl (ls rfl lz))) ?_
        refine rts _ rfl (opD_assign (ls rfl lz)) ?_
        refine rts _ rfl (opD_assign (ev_const _ _)) ?_
        refine .nil ?_
        refine aw_keep [(4, _), (5, _), (6, _)] ⟨lg (ls rfl (ls rfl lz)), lg (ls rfl lz), lg lz, trivial⟩ ?_
        refine aw_ret ?_
        obtain rfl := some_of h0
        exact done_ext (.inr rfl) ((res_list (rs := [_, _, _]) (ps := [_, _, _]) rfl rfl ⟨it_tmp oz, it_tmp (os rfl oz), it_tmp (os rfl (os rfl oz)), trivial⟩).le (tup_le ⟨zLr, (sl_any _ _ _ _), zLr, trivial⟩)) (tup_bnd (zbc (sl_b kb_Stx) (zbc (sl_b kb_Stx) (zbc zPb bnd_nil))))
end Go.Proofs.YtokcgacehdgkcaaDoor.Eng.A
