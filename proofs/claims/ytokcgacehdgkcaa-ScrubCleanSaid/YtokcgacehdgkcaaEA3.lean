/- EA3: what functions do, walked; used by the laws of this seat. -/
import Derived.Test.YtokcgacehdgkcaaEA2
namespace Go.Proofs.Ytokcgacehdgkcaa.Eng.A
set_option linter.unusedVariables false
set_option linter.unusedSimpArgs false
open Go.RowKit Go.Proofs.Ytokcgacehdgkcaa.Plain Go.Proofs.Ytokcgacehdgkcaa.Eng Go.Proofs.Ytokcgacehdgkcaa.Eng.Pk Go.Proofs.Ytokcgacehdgkcaa.Eng.Rd

theorem sz5_uAb : sizeT Go.Proofs.Try.prog 5 = some 1 := by kernel_rfl
theorem ag5_uAb : aggT Go.Proofs.Try.prog 5 = some false := by kernel_rfl
theorem zt5_uAb : zeroT Go.Proofs.Try.prog 5 = some [.int .u8 0] := by kernel_rfl
theorem el5_uAb : elT Go.Proofs.Try.prog 5 = some (1, 1) := by kernel_rfl
theorem ht12_uAb : hasText Go.Proofs.Try.prog 12 = true := by kernel_rfl
theorem sz26_uAb : sizeT Go.Proofs.Try.prog 26 = some 1 := by kernel_rfl
theorem zt26_uAb : zeroT Go.Proofs.Try.prog 26 = some [.slice none 0 0] := by kernel_rfl
theorem sz23_uAb : sizeT Go.Proofs.Try.prog 23 = some 1 := by kernel_rfl
theorem zt37_uAb : zeroT Go.Proofs.Try.prog 37 = some [.int .u64 0, .int .u64 0, .int .u64 0, .int .u64 0, .int .u64 0, .int .u64 0, .int .u64 0, .int .u64 0, .int .u64 0, .int .u64 0, .int .u64 0, .int .u64 0, .int .u64 0, .int .u64 0, .int .u64 0, .int .u64 0] := by kernel_rfl
theorem ht8_uAb : hasText Go.Proofs.Try.prog 8 = true := by kernel_rfl
theorem ht16_uAb : hasText Go.Proofs.Try.prog 16 = true := by kernel_rfl
theorem ht6_uAb : hasText Go.Proofs.Try.prog 6 = true := by kernel_rfl
theorem sz3_uAb : sizeT Go.Proofs.Try.prog 3 = some 1 := by kernel_rfl
theorem ag3_uAb : aggT Go.Proofs.Try.prog 3 = some false := by kernel_rfl
theorem ht7_uAb : hasText Go.Proofs.Try.prog 7 = true := by kernel_rfl

def F_rmore_b1 (t_6 : Int × Int) : Option ((Int × Int) ⊕ ((Int))) :=
  ifb (decide (t_6.2 < 8)) (bnd (ifb (decide ((t_6.1.tmod 2) = 1)) (some (bits BinOp.xor .u32 (IntKind.u32.wrap (t_6.1.tdiv 2)) 2197175160)) (some (IntKind.u32.wrap (t_6.1.tdiv 2)))) fun z_8 => some (.inl (z_8, IntKind.i64.wrap (t_6.2 + 1)))) (some (.inr t_6.1))
def F_rmore_b0 (fl : Nat) (p1 : (List Int)) (t_2 : Int × Int) : Option ((Int × Int) ⊕ ((Int))) :=
  ifb (decide (t_2.2 < (p1.length : Int))) (bnd (ixb p1 t_2.2 fun x_5 => lp (F_rmore_b1) fl ((bits BinOp.xor .u32 t_2.1 (IntKind.u32.wrap (x_5))), 0)) fun z_4 => some (.inl (z_4, IntKind.i64.wrap (t_2.2 + 1)))) (some (.inr t_2.1))
def F_rmore (fl : Nat) (p0 : Int) (p1 : (List Int)) : Option (Int) :=
  bnd (lp (F_rmore_b0 fl p1) fl (IntKind.u32.wrap (4294967295 - p0), 0)) fun z_1 => some (IntKind.u32.wrap (4294967295 - z_1))
set_option maxRecDepth 100000 in
set_option maxHeartbeats 2000000 in
theorem c_rmore {fl : Nat} {p0 : Int} {p1 : (List Int)} {R : Int} (h0 : F_rmore fl p0 p1 = some R) : Pure Go.Proofs.Try.prog 12 [pl (.int .u32 p0), sl (kI .u8) none none p1] (pl (.int .u32 R)) := by
  intro s
  unfold F_rmore at h0
  refine ac_of_aw s.boxes.length s.fr.length Go.Proofs.Try.func12 rfl (by simp [Go.Proofs.Try.ntmps12]) ?_
  refine aw_ext0 ?_
  refine aw_keep [(0, _), (1, _)] ⟨lg ez, lg (es ez), trivial⟩ ?_
  refine aw_seq ?_
  refine aw_region (by decide) ?_
  refine rts _ rfl (opD_assign (ev_const _ _)) ?_
  refine .nil ?_
  refine aw_keep [(0, _), (1, _)] ⟨lg (ls rfl oz), lg (ls rfl (os rfl oz)), trivial⟩ ?_
  refine aw_seq ?_
  refine aw_region (by decide) ?_
  refine rts _ rfl (opD_move oz) ?_
  refine rts _ rfl (opD_sub (ev_const _ _) lz rfl) ?_
  refine rts _ rfl (opD_assign lz) ?_
  refine .nil ?_
  refine aw_keep [(1, _), (5, _)] ⟨lg (ls rfl (ls rfl (ls rfl (os rfl oz)))), lg lz, trivial⟩ ?_
  refine aw_seq ?_
  refine aw_seq ?_
  refine aw_region (by decide) ?_
  refine rts _ rfl (opD_assign (ev_const _ _)) ?_
  refine .nil ?_
  refine aw_keep [(1, _), (5, _), (6, _)] ⟨lg (ls rfl oz), lg (ls rfl (os rfl oz)), lg lz, trivial⟩ ?_
  replace h0 := bnd_some h0
  obtain ⟨z_1, hz_1, h0⟩ := h0
  refine aw_mid (fun e st => ∃ v : Int, Holds e [(5, pl (.int .u32 v))] ∧ st = s.ext [] [] ∧ v = z_1) ?_ ?_
  · skip
    refine aw_wkN rfl 0 0 rfl rfl ?_
    refine aw_block ?_
    refine aw_loop (fun n e st => ∃ v : Int × Int, Holds e [(1, sl (kI .u8) none none p1), (5, pl (.int .u32 v.1)), (6, pl (.int .i64 v.2))] ∧ st = s.ext [] [] ∧ lp (F_rmore_b0 fl p1) n v = some z_1) fl ⟨(IntKind.u32.wrap (4294967295 - p0), 0), ⟨le_of_eq (eg oz), le_of_eq (eg (os rfl oz)), le_of_eq (eg (os rfl (os rfl oz))), trivial⟩, rfl, hz_1⟩ ?_
    rintro n e st ⟨t_2, hH, rfl, hz_1⟩
    replace hz_1 := lp_some hz_1
    obtain ⟨m_z_3, z_3, rfl, hz_3, hz_1⟩ := hz_1
    unfold F_rmore_b0 at hz_3
    refine aw_keep _ hH ?_
    refine aw_wkN rfl 0 0 rfl rfl ?_
    refine aw_seq ?_
    refine aw_seq ?_
    refine aw_region (by decide) ?_
    refine rts _ rfl (opD_move (os rfl (os rfl oz))) ?_
    refine rts _ rfl (opD_move (ls rfl oz)) ?_
    refine rts _ rfl (opD_len_sl Go.Proofs.Try.underlying26 lz) ?_
    refine rts _ rfl (opD_lss (ls rfl (ls rfl lz)) lz) ?_
    refine .nil ?_
    refine aw_keep [(1, _), (5, _), (6, _), (14, _)] ⟨lg (ls rfl (ls rfl (ls rfl (ls rfl oz)))), lg (ls rfl (ls rfl (ls rfl (ls rfl (os rfl oz))))), lg (ls rfl (ls rfl (ls rfl (ls rfl (os rfl (os rfl oz)))))), lg lz, trivial⟩ ?_
    refine aw_cond _ (os rfl (os rfl (os rfl oz))) (fun hc => ?_) (fun hc => ?_)
    · skip
      replace hz_3 := ifb_t hz_3 hc
      clear hc
      refine aw_skip ?_
      refine aw_keep [(1, _), (5, _), (6, _)] ⟨lg oz, lg (os rfl oz), lg (os rfl (os rfl oz)), trivial⟩ ?_
      refine aw_seq ?_
      replace hz_3 := bnd_some hz_3
      obtain ⟨z_4, hz_4, hz_3⟩ := hz_3
      refine aw_mid (fun e st => ∃ v : Int, Holds e [(1, sl (kI .u8) none none p1), (5, pl (.int .u32 v)), (6, pl (.int .i64 t_2.2))] ∧ st = s.ext [] [] ∧ v = z_4) ?_ ?_
      · skip
        refine aw_wkN rfl 0 0 rfl rfl ?_
        refine aw_block ?_
        refine aw_seq ?_
        refine aw_region (by decide) ?_
        refine rts _ rfl (opD_move (os rfl oz)) ?_
        refine rts _ rfl (opD_move (ls rfl oz)) ?_
        refine rts _ rfl (opD_move (ls rfl (ls rfl (os rfl (os rfl oz))))) ?_
        replace hz_4 := ixb_some hz_4
        obtain ⟨x_5, hx_5, hbx_5, hz_4⟩ := hz_4
        refine rts _ rfl (opD_indexAddr_sl (i := t_2.2.toNat) Go.Proofs.Try.underlying26 sz5_uAb (ls rfl lz) lz hbx_5.2.2 hbx_5.2.1) ?_
        refine rts _ rfl (opD_load_el_one ag5_uAb lz hx_5 rfl) ?_
        refine rts _ rfl (opD_conv_int Go.Proofs.Try.underlying5 Go.Proofs.Try.underlying41 lz rfl) ?_
        refine rts _ rfl (opD_bits (.inr (.inr (.inl rfl))) (ls rfl (ls rfl (ls rfl (ls rfl (ls rfl lz))))) lz rfl) ?_
        refine rts _ rfl (opD_assign lz) ?_
        refine .nil ?_
        refine aw_keep [(1, _), (5, _), (6, _)] ⟨lg (ls rfl (ls rfl (ls rfl (ls rfl (ls rfl (ls rfl (ls rfl (ls rfl oz)))))))), lg lz, lg (ls rfl (ls rfl (ls rfl (ls rfl (ls rfl (ls rfl (ls rfl (ls rfl (os rfl (os rfl oz)))))))))), trivial⟩ ?_
        refine aw_seq ?_
        refine aw_region (by decide) ?_
        refine rts _ rfl (opD_assign (ev_const _ _)) ?_
        refine .nil ?_
        refine aw_keep [(1, _), (5, _), (6, _), (7, _)] ⟨lg (ls rfl oz), lg (ls rfl (os rfl oz)), lg (ls rfl (os rfl (os rfl oz))), lg lz, trivial⟩ ?_
        refine aw_block ?_
        refine aw_loop (fun n e st => ∃ v : Int × Int, Holds e [(1, sl (kI .u8) none none p1), (5, pl (.int .u32 v.1)), (6, pl (.int .i64 t_2.2)), (7, pl (.int .i64 v.2))] ∧ st = s.ext [] [] ∧ lp (F_rmore_b1) n v = some z_4) fl ⟨((bits BinOp.xor .u32 t_2.1 (IntKind.u32.wrap (x_5))), 0), ⟨le_of_eq (eg oz), le_of_eq (eg (os rfl oz)), le_of_eq (eg (os rfl (os rfl oz))), le_of_eq (eg (os rfl (os rfl (os rfl oz)))), trivial⟩, rfl, hz_4⟩ ?_
        rintro n e st ⟨t_6, hH, rfl, hz_4⟩
        replace hz_4 := lp_some hz_4
        obtain ⟨m_z_7, z_7, rfl, hz_7, hz_4⟩ := hz_4
        unfold F_rmore_b1 at hz_7
        refine aw_keep _ hH ?_
        refine aw_wkN rfl 0 0 rfl rfl ?_
        refine aw_seq ?_
        refine aw_seq ?_
        refine aw_region (by decide) ?_
        refine rts _ rfl (opD_move (os rfl (os rfl (os rfl oz)))) ?_
        refine rts _ rfl (opD_lss lz (ev_const _ _)) ?_
        refine .nil ?_
        refine aw_keep [(1, _), (5, _), (6, _), (7, _), (25, _)] ⟨lg (ls rfl (ls rfl oz)), lg (ls rfl (ls rfl (os rfl oz))), lg (ls rfl (ls rfl (os rfl (os rfl oz)))), lg (ls rfl (ls rfl (os rfl (os rfl (os rfl oz))))), lg lz, trivial⟩ ?_
        refine aw_cond _ (os rfl (os rfl (os rfl (os rfl oz)))) (fun hc => ?_) (fun hc => ?_)
        · skip
          replace hz_7 := ifb_t hz_7 hc
          clear hc
          refine aw_skip ?_
          refine aw_keep [(1, _), (5, _), (6, _), (7, _)] ⟨lg oz, lg (os rfl oz), lg (os rfl (os rfl oz)), lg (os rfl (os rfl (os rfl oz))), trivial⟩ ?_
          refine aw_seq ?_
          replace hz_7 := bnd_some hz_7
          obtain ⟨z_8, hz_8, hz_7⟩ := hz_7
          refine aw_mid (fun e st => ∃ v : Int, Holds e [(1, sl (kI .u8) none none p1), (5, pl (.int .u32 v)), (6, pl (.int .i64 t_2.2)), (7, pl (.int .i64 t_6.2))] ∧ st = s.ext [] [] ∧ v = z_8) ?_ ?_
          · skip
            refine aw_wkN rfl 0 0 rfl rfl ?_
            refine aw_block ?_
            refine aw_seq ?_
            refine aw_region (by decide) ?_
            refine rts _ rfl (opD_move (os rfl oz)) ?_
            refine rts _ rfl (opD_rem lz (ev_const _ _) (by decide) rfl) ?_
            refine rts _ rfl (opD_assign lz) ?_
            refine .nil ?_
            refine aw_keep [(1, _), (5, _), (6, _), (7, _), (8, _)] ⟨lg (ls rfl (ls rfl (ls rfl oz))), lg (ls rfl (ls rfl (ls rfl (os rfl oz)))), lg (ls rfl (ls rfl (ls rfl (os rfl (os rfl oz))))), lg (ls rfl (ls rfl (ls rfl (os rfl (os rfl (os rfl oz)))))), lg lz, trivial⟩ ?_
            refine aw_seq ?_
            refine aw_region (by decide) ?_
            refine rts _ rfl (opD_move (os rfl oz)) ?_
            refine rts _ rfl (opD_quo lz (ev_const _ _) (by decide) rfl) ?_
            refine rts _ rfl (opD_assign lz) ?_
            refine .nil ?_
            refine aw_keep [(1, _), (5, _), (6, _), (7, _), (8, _)] ⟨lg (ls rfl (ls rfl (ls rfl oz))), lg lz, lg (ls rfl (ls rfl (ls rfl (os rfl (os rfl oz))))), lg (ls rfl (ls rfl (ls rfl (os rfl (os rfl (os rfl oz)))))), lg (ls rfl (ls rfl (ls rfl (os rfl (os rfl (os rfl (os rfl oz))))))), trivial⟩ ?_
            refine aw_seq ?_
            refine aw_region (by decide) ?_
            refine rts _ rfl (opD_move (os rfl (os rfl (os rfl (os rfl oz))))) ?_
            refine rts _ rfl (opD_eql lz (ev_const _ _)) ?_
            refine .nil ?_
            refine aw_keep [(1, _), (5, _), (6, _), (7, _), (33, _)] ⟨lg (ls rfl (ls rfl oz)), lg (ls rfl (ls rfl (os rfl oz))), lg (ls rfl (ls rfl (os rfl (os rfl oz)))), lg (ls rfl (ls rfl (os rfl (os rfl (os rfl oz))))), lg lz, trivial⟩ ?_
            refine aw_cond _ (os rfl (os rfl (os rfl (os rfl oz)))) (fun hc => ?_) (fun hc => ?_)
            · skip
              replace hz_8 := ifb_t hz_8 hc
              clear hc
              refine aw_region (by decide) ?_
              refine rts _ rfl (opD_move (os rfl oz)) ?_
              refine rts _ rfl (opD_bits (.inr (.inr (.inl rfl))) lz (ev_const _ _) rfl) ?_
              refine rts _ rfl (opD_assign lz) ?_
              refine .nil ?_
              refine wk_yesN rfl (l := [(1, sl (kI .u8) none none p1), (5, pl (.int .u32 (bits BinOp.xor .u32 (IntKind.u32.wrap (t_6.1.tdiv 2)) 2197175160))), (6, pl (.int .i64 t_2.2)), (7, pl (.int .i64 t_6.2))]) (bs' := []) ⟨le_of_eq (eg (ls rfl (ls rfl (ls rfl oz)))), le_of_eq (eg lz), le_of_eq (eg (ls rfl (ls rfl (ls rfl (os rfl (os rfl oz)))))), le_of_eq (eg (ls rfl (ls rfl (ls rfl (os rfl (os rfl (os rfl oz))))))), trivial⟩ (bnd_cons (sl_b (kb_I _)) (bnd_cons (pl_bnd _ _ _) (bnd_cons (pl_bnd _ _ _) (bnd_cons (pl_bnd _ _ _) bnd_nil)))) (Nat.le_of_ble_eq_true rfl) (by simp only [na, nb, nc, nd, nf, ng, nh, ni, nj, nk] <;> rfl) bxle_nil rfl (by simp only [na, nb, nc, nd, nf, ng, nh, ni, nj, nk] <;> rfl) bl_nil ?_
              exact ⟨(bits BinOp.xor .u32 (IntKind.u32.wrap (t_6.1.tdiv 2)) 2197175160), ⟨le_of_eq (eg oz), le_of_eq (eg (os rfl oz)), le_of_eq (eg (os rfl (os rfl oz))), le_of_eq (eg (os rfl (os rfl (os rfl oz)))), trivial⟩, rfl, some_of hz_8⟩
            · skip
              replace hz_8 := ifb_f hz_8 hc
              clear hc
              refine aw_skip ?_
              refine wk_yesN rfl (l := [(1, sl (kI .u8) none none p1), (5, pl (.int .u32 (IntKind.u32.wrap (t_6.1.tdiv 2)))), (6, pl (.int .i64 t_2.2)), (7, pl (.int .i64 t_6.2))]) (bs' := []) ⟨le_of_eq (eg oz), le_of_eq (eg (os rfl oz)), le_of_eq (eg (os rfl (os rfl oz))), le_of_eq (eg (os rfl (os rfl (os rfl oz)))), trivial⟩ (bnd_cons (sl_b (kb_I _)) (bnd_cons (pl_bnd _ _ _) (bnd_cons (pl_bnd _ _ _) (bnd_cons (pl_bnd _ _ _) bnd_nil)))) (Nat.le_of_ble_eq_true rfl) (by simp only [na, nb, nc, nd, nf, ng, nh, ni, nj, nk] <;> rfl) bxle_nil rfl (by simp only [na, nb, nc, nd, nf, ng, nh, ni, nj, nk] <;> rfl) bl_nil ?_
              exact ⟨IntKind.u32.wrap (t_6.1.tdiv 2), ⟨le_of_eq (eg oz), le_of_eq (eg (os rfl oz)), le_of_eq (eg (os rfl (os rfl oz))), le_of_eq (eg (os rfl (os rfl (os rfl oz)))), trivial⟩, rfl, some_of hz_8⟩
          · rintro e st ⟨vz_8, hH, rfl, rfl⟩
            refine aw_keep _ hH ?_
            refine aw_keep [(1, _), (5, _), (6, _), (7, _)] ⟨lg oz, lg (os rfl oz), lg (os rfl (os rfl oz)), lg (os rfl (os rfl (os rfl oz))), trivial⟩ ?_
            refine aw_region (by decide) ?_
            refine rts _ rfl (opD_move (os rfl (os rfl (os rfl oz)))) ?_
            refine rts _ rfl (opD_add lz (ev_const _ _) rfl) ?_
            refine rts _ rfl (opD_assign lz) ?_
            refine .nil ?_
            obtain rfl := some_of hz_7
            replace hz_4 := ocs_l hz_4
            refine wk_yesN rfl (l := [(1, sl (kI .u8) none none p1), (5, pl (.int .u32 vz_8)), (6, pl (.int .i64 t_2.2)), (7, pl (.int .i64 (IntKind.i64.wrap (t_6.2 + 1))))]) (bs' := []) ⟨le_of_eq (eg (ls rfl (ls rfl (ls rfl oz)))), le_of_eq (eg (ls rfl (ls rfl (ls rfl (os rfl oz))))), le_of_eq (eg (ls rfl (ls rfl (ls rfl (os rfl (os rfl oz)))))), le_of_eq (eg lz), trivial⟩ (bnd_cons (sl_b (kb_I _)) (bnd_cons (pl_bnd _ _ _) (bnd_cons (pl_bnd _ _ _) (bnd_cons (pl_bnd _ _ _) bnd_nil)))) (Nat.le_of_ble_eq_true rfl) (by simp only [na, nb, nc, nd, nf, ng, nh, ni, nj, nk] <;> rfl) bxle_nil rfl (by simp only [na, nb, nc, nd, nf, ng, nh, ni, nj, nk] <;> rfl) bl_nil ?_
            exact ⟨m_z_7, Nat.lt_succ_self _, (vz_8, IntKind.i64.wrap (t_6.2 + 1)), ⟨le_of_eq (eg oz), le_of_eq (eg (os rfl oz)), le_of_eq (eg (os rfl (os rfl oz))), le_of_eq (eg (os rfl (os rfl (os rfl oz)))), trivial⟩, rfl, hz_4⟩
        · skip
          replace hz_7 := ifb_f hz_7 hc
          clear hc
          refine aw_exit ?_
          obtain rfl := some_of hz_7
          replace hz_4 := ocs_r hz_4
          refine wk_no ?_
          refine wk_yesN rfl (l := [(1, sl (kI .u8) none none p1), (5, pl (.int .u32 t_6.1)), (6, pl (.int .i64 t_2.2))]) (bs' := []) ⟨le_of_eq (eg oz), le_of_eq (eg (os rfl oz)), le_of_eq (eg (os rfl (os rfl oz))), trivial⟩ (bnd_cons (sl_b (kb_I _)) (bnd_cons (pl_bnd _ _ _) (bnd_cons (pl_bnd _ _ _) bnd_nil))) (Nat.le_of_ble_eq_true rfl) (by simp only [na, nb, nc, nd, nf, ng, nh, ni, nj, nk] <;> rfl) bxle_nil rfl (by simp only [na, nb, nc, nd, nf, ng, nh, ni, nj, nk] <;> rfl) bl_nil ?_
          exact ⟨t_6.1, ⟨le_of_eq (eg oz), le_of_eq (eg (os rfl oz)), le_of_eq (eg (os rfl (os rfl oz))), trivial⟩, rfl, some_of hz_4⟩
      · rintro e st ⟨vz_4, hH, rfl, rfl⟩
        refine aw_keep _ hH ?_
        refine aw_keep [(1, _), (5, _), (6, _)] ⟨lg oz, lg (os rfl oz), lg (os rfl (os rfl oz)), trivial⟩ ?_
        refine aw_region (by decide) ?_
        refine rts _ rfl (opD_move (os rfl (os rfl oz))) ?_
        refine rts _ rfl (opD_add lz (ev_const _ _) rfl) ?_
        refine rts _ rfl (opD_assign lz) ?_
        refine .nil ?_
        obtain rfl := some_of hz_3
        replace hz_1 := ocs_l hz_1
        refine wk_yesN rfl (l := [(1, sl (kI .u8) none none p1), (5, pl (.int .u32 vz_4)), (6, pl (.int .i64 (IntKind.i64.wrap (t_2.2 + 1))))]) (bs' := []) ⟨le_of_eq (eg (ls rfl (ls rfl (ls rfl oz)))), le_of_eq (eg (ls rfl (ls rfl (ls rfl (os rfl oz))))), le_of_eq (eg lz), trivial⟩ (bnd_cons (sl_b (kb_I _)) (bnd_cons (pl_bnd _ _ _) (bnd_cons (pl_bnd _ _ _) bnd_nil))) (Nat.le_of_ble_eq_true rfl) (by simp only [na, nb, nc, nd, nf, ng, nh, ni, nj, nk] <;> rfl) bxle_nil rfl (by simp only [na, nb, nc, nd, nf, ng, nh, ni, nj, nk] <;> rfl) bl_nil ?_
        exact ⟨m_z_3, Nat.lt_succ_self _, (vz_4, IntKind.i64.wrap (t_2.2 + 1)), ⟨le_of_eq (eg oz), le_of_eq (eg (os rfl oz)), le_of_eq (eg (os rfl (os rfl oz))), trivial⟩, rfl, hz_1⟩
    · skip
      replace hz_3 := ifb_f hz_3 hc
      clear hc
      refine aw_exit ?_
      obtain rfl := some_of hz_3
      replace hz_1 := ocs_r hz_1
      refine wk_no ?_
      refine wk_yesN rfl (l := [(5, pl (.int .u32 t_2.1))]) (bs' := []) ⟨le_of_eq (eg (os rfl oz)), trivial⟩ (bnd_cons (pl_bnd _ _ _) bnd_nil) (Nat.le_of_ble_eq_true rfl) (by simp only [na, nb, nc, nd, nf, ng, nh, ni, nj, nk] <;> rfl) bxle_nil rfl (by simp only [na, nb, nc, nd, nf, ng, nh, ni, nj, nk] <;> rfl) bl_nil ?_
      exact ⟨t_2.1, ⟨le_of_eq (eg oz), trivial⟩, rfl, some_of hz_1⟩
  · rintro e st ⟨vz_1, hH, rfl, rfl⟩
    refine aw_keep _ hH ?_
    refine aw_keep [(5, _)] ⟨lg oz, trivial⟩ ?_
    refine aw_seq ?_
    refine aw_region (by decide) ?_
    refine rts _ rfl (opD_move oz) ?_
    refine rts _ rfl (opD_sub (ev_const _ _) lz rfl) ?_
    refine rts _ rfl (opD_assign lz) ?_
    refine .nil ?_
    refine aw_keep [(4, _)] ⟨lg lz, trivial⟩ ?_
    refine aw_ret ?_
    obtain rfl := some_of h0
    exact done_ext (.inr rfl) ((res_one rfl (it_tmp oz)).le (Pd.le_refl _)) (pl_bnd _ _ _)

def F_rseal_b0 (t_2 : (List Int)) : Option (((List Int)) ⊕ (((List Int)))) :=
  ifb (decide ((t_2.length : Int) < 508)) (grd (Fits 1 (t_2.length + ([0] : (List Int)).length)) <| some (.inl (t_2 ++ ([0] : (List Int))))) (some (.inr t_2))
def F_rseal (fl : Nat) (p0 : Int) (p1 : (List Int)) : Option ((List Int) × Int) :=
  ifb ((decide (p0 < 1)) || (decide (5 < p0))) (some ([], 1)) (ifb (decide (504 < (p1.length : Int))) (some ([], 5)) (grd (Fits 1 (([p0, 0, IntKind.u8.wrap (IntKind.i64.wrap ((p1.length : Int).tdiv 256)), IntKind.u8.wrap (((p1.length : Int).tmod 256))] : (List Int)).length + p1.length)) <| bnd (lp (F_rseal_b0) fl (([p0, 0, IntKind.u8.wrap (IntKind.i64.wrap ((p1.length : Int).tdiv 256)), IntKind.u8.wrap (((p1.length : Int).tmod 256))] : (List Int)) ++ p1)) fun z_1 => bnd (F_rmore fl 0 z_1) fun x_4 => grd (Fits 1 (z_1.length + ([IntKind.u8.wrap (IntKind.u32.wrap (x_4.tdiv 16777216)), IntKind.u8.wrap (((IntKind.u32.wrap (x_4.tdiv 65536)).tmod 256)), IntKind.u8.wrap (((IntKind.u32.wrap (x_4.tdiv 256)).tmod 256)), IntKind.u8.wrap ((x_4.tmod 256))] : (List Int)).length)) <| some ((z_1 ++ ([IntKind.u8.wrap (IntKind.u32.wrap (x_4.tdiv 16777216)), IntKind.u8.wrap (((IntKind.u32.wrap (x_4.tdiv 65536)).tmod 256)), IntKind.u8.wrap (((IntKind.u32.wrap (x_4.tdiv 256)).tmod 256)), IntKind.u8.wrap ((x_4.tmod 256))] : (List Int))), 0)))
set_option maxRecDepth 100000 in
set_option maxHeartbeats 2000000 in
theorem c_rseal {fl : Nat} {p0 : Int} {p1 : (List Int)} {R : (List Int) × Int} (h0 : F_rseal fl p0 p1 = some R) : Pure Go.Proofs.Try.prog 5 [pl (.int .u8 p0), sl (kI .u8) none none p1] (tup [sl (kI .u8) none none R.1, pl (.int .i64 R.2)]) := by
  intro s
  unfold F_rseal at h0
  refine ac_of_aw s.boxes.length s.fr.length Go.Proofs.Try.func5 rfl (by simp [Go.Proofs.Try.ntmps5]) ?_
  refine aw_ext0 ?_
  refine aw_keep [(0, _), (1, _)] ⟨lg ez, lg (es ez), trivial⟩ ?_
  refine aw_seq ?_
  refine aw_region (by decide) ?_
  refine rts _ rfl (opD_assign (ev_const _ _)) ?_
  refine rts _ rfl (opD_assign (ev_const _ _)) ?_
  refine .nil ?_
  refine aw_keep [(0, _), (1, _)] ⟨lg (ls rfl (ls rfl oz)), lg (ls rfl (ls rfl (os rfl oz))), trivial⟩ ?_
  refine aw_seq ?_
  refine aw_seq ?_
  refine aw_region (by decide) ?_
  refine rts _ rfl (opD_move oz) ?_
  refine rts _ rfl (opD_lss lz (ev_const _ _)) ?_
  refine rts _ rfl (opD_move lz) ?_
  refine rtg _ rfl lz (fun hg1_3_1 => opD_move (ls rfl (ls rfl (ls rfl oz)))) ?_
  refine rtg _ rfl (ls rfl lz) (fun hg1_4_2 => opD_gtr (lz.trans (pif_pos hg1_4_2)) (ev_const _ _)) ?_
  refine rts _ rfl (opD_or (ls rfl (ls rfl lz)) lz) ?_
  refine .nil ?_
  refine aw_keep [(0, _), (1, _), (13, _)] ⟨lg (ls rfl (ls rfl (ls rfl (ls rfl (ls rfl (ls rfl oz)))))), lg (ls rfl (ls rfl (ls rfl (ls rfl (ls rfl (ls rfl (os rfl oz))))))), lg lz, trivial⟩ ?_
  refine aw_cond _ (os rfl (os rfl oz)) (fun hc => ?_) (fun hc => ?_)
  · skip
    replace h0 := ifb_t h0 hc
    clear hc
    refine aw_seq ?_
    refine aw_region (by decide) ?_
    refine rts _ rfl (opD_assign (ev_const _ _)) ?_
    refine rts _ rfl (opD_assign (ev_const _ _)) ?_
    refine .nil ?_
    refine aw_keep [(4, _), (5, _)] ⟨lg (ls rfl lz), lg lz, trivial⟩ ?_
    refine aw_ret ?_
    obtain rfl := some_of h0
    exact done_ext (.inr rfl) ((res_list (rs := [_, _]) (ps := [_, _]) rfl rfl ⟨it_tmp oz, it_tmp (os rfl oz), trivial⟩).le (tup_le ⟨(le_nil rfl), (Pd.le_refl _), trivial⟩)) (tup_bnd (bnd_cons (sl_b (kb_I _)) (bnd_cons (pl_bnd _ _ _) bnd_nil)))
  · skip
    replace h0 := ifb_f h0 hc
    clear hc
    refine aw_skip ?_
    refine aw_keep [(0, _), (1, _)] ⟨lg oz, lg (os rfl oz), trivial⟩ ?_
    refine aw_seq ?_
    refine aw_seq ?_
    refine aw_region (by decide) ?_
    refine rts _ rfl (opD_move (os rfl oz)) ?_
    refine rts _ rfl (opD_len_sl Go.Proofs.Try.underlying26 lz) ?_
    refine rts _ rfl (opD_gtr lz (ev_const _ _)) ?_
    refine .nil ?_
    refine aw_keep [(0, _), (1, _), (16, _)] ⟨lg (ls rfl (ls rfl (ls rfl oz))), lg (ls rfl (ls rfl (ls rfl (os rfl oz)))), lg lz, trivial⟩ ?_
    refine aw_cond _ (os rfl (os rfl oz)) (fun hc => ?_) (fun hc => ?_)
    · skip
      replace h0 := ifb_t h0 hc
      clear hc
      refine aw_seq ?_
      refine aw_region (by decide) ?_
      refine rts _ rfl (opD_assign (ev_const _ _)) ?_
      refine rts _ rfl (opD_assign (ev_const _ _)) ?_
      refine .nil ?_
      refine aw_keep [(4, _), (5, _)] ⟨lg (ls rfl lz), lg lz, trivial⟩ ?_
      refine aw_ret ?_
      obtain rfl := some_of h0
      exact done_ext (.inr rfl) ((res_list (rs := [_, _]) (ps := [_, _]) rfl rfl ⟨it_tmp oz, it_tmp (os rfl oz), trivial⟩).le (tup_le ⟨(le_nil rfl), (Pd.le_refl _), trivial⟩)) (tup_bnd (bnd_cons (sl_b (kb_I _)) (bnd_cons (pl_bnd _ _ _) bnd_nil)))
    · skip
      replace h0 := ifb_f h0 hc
      clear hc
      refine aw_skip ?_
      refine aw_keep [(0, _), (1, _)] ⟨lg oz, lg (os rfl oz), trivial⟩ ?_
      refine aw_seq ?_
      refine aw_region (by decide) ?_
      refine rts _ rfl (opD_move oz) ?_
      refine rts _ rfl (opD_move (ls rfl (os rfl oz))) ?_
      refine rts _ rfl (opD_len_sl Go.Proofs.Try.underlying26 lz) ?_
      refine rts _ rfl (opD_quo lz (ev_const _ _) (by decide) rfl) ?_
      refine rts _ rfl (opD_conv_int Go.Proofs.Try.underlying3 Go.Proofs.Try.underlying5 lz rfl) ?_
      refine rts _ rfl (opD_move (ls rfl (ls rfl (ls rfl (ls rfl (ls rfl (os rfl oz))))))) ?_
      refine rts _ rfl (opD_len_sl Go.Proofs.Try.underlying26 lz) ?_
      refine rts _ rfl (opD_rem lz (ev_const _ _) (by decide) rfl) ?_
      refine rts _ rfl (opD_conv_int Go.Proofs.Try.underlying3 Go.Proofs.Try.underlying5 lz rfl) ?_
      refine rts _ rfl (opD_buildOwn (k := kI .u8) ([p0, 0, IntKind.u8.wrap (IntKind.i64.wrap ((p1.length : Int).tdiv 256)), IntKind.u8.wrap (((p1.length : Int).tmod 256))] : (List Int)) Go.Proofs.Try.underlying26 sz5_uAb zt5_uAb (by decide) rfl (parts_cons (cells1 (ls rfl (ls rfl (ls rfl (ls rfl (ls rfl (ls rfl (ls rfl (ls rfl lz)))))))) (one_pl rfl)) (parts_cons (cells1 (ev_const _ _) (one_pl rfl)) (parts_cons (cells1 (ls rfl (ls rfl (ls rfl (ls rfl lz)))) (one_pl rfl)) (parts_cons (cells1 lz (one_pl rfl)) parts_nil)))) rfl rfl (by first | exact List.length_nil | (simp only [List.length_cons, List.length_nil, Nat.zero_add, Nat.reduceAdd] <;> rfl)) (by simp only [na, nb, nc, nd, nf, ng, nh, ni, nj, nk] <;> rfl)) ?_
      refine rts _ rfl (opD_assign lz) ?_
      refine .nil ?_
      refine aw_keep [(1, _), (6, _)] ⟨lg (ls rfl (ls rfl (ls rfl (ls rfl (ls rfl (ls rfl (ls rfl (ls rfl (ls rfl (ls rfl (ls rfl (os rfl oz)))))))))))), lg lz, trivial⟩ ?_
      refine aw_seq ?_
      refine aw_region (by decide) ?_
      refine rts _ rfl (opD_move (os rfl oz)) ?_
      refine rts _ rfl (opD_move (ls rfl oz)) ?_
      replace h0 := grd_some h0
      obtain ⟨hg_3, h0⟩ := h0
      refine rts _ rfl (opD_appendX Go.Proofs.Try.underlying26 el5_uAb (ls rfl lz) lz rfl hg_3.1 hg_3.2 rfl (by simp only [na, nb, nc, nd, nf, ng, nh, ni, nj, nk] <;> rfl)) ?_
      refine rts _ rfl (opD_assign lz) ?_
      refine .nil ?_
      refine aw_keep [(6, _)] ⟨lg lz, trivial⟩ ?_
      refine aw_seq ?_
      replace h0 := bnd_some h0
      obtain ⟨z_1, hz_1, h0⟩ := h0
      refine aw_mid (fun e st => ∃ v : (List Int), Holds e [(6, sl (kI .u8) (some (s.fr.length + 0)) none v)] ∧ st = s.ext [] [⟨5, 1, v.length⟩] ∧ v = z_1) ?_ ?_
      · skip
        refine aw_wkN rfl 0 1 rfl rfl ?_
        refine aw_block ?_
        refine aw_loop (fun n e st => ∃ v : (List Int), Holds e [(6, sl (kI .u8) (some (s.fr.length + 0)) none v)] ∧ st = s.ext [] [⟨5, 1, v.length⟩] ∧ lp (F_rseal_b0) n v = some z_1) fl ⟨(([p0, 0, IntKind.u8.wrap (IntKind.i64.wrap ((p1.length : Int).tdiv 256)), IntKind.u8.wrap (((p1.length : Int).tmod 256))] : (List Int)) ++ p1), ⟨le_of_eq (eg oz), trivial⟩, rfl, hz_1⟩ ?_
        rintro n e st ⟨t_2, hH, rfl, hz_1⟩
        replace hz_1 := lp_some hz_1
        obtain ⟨m_z_3, z_3, rfl, hz_3, hz_1⟩ := hz_1
        unfold F_rseal_b0 at hz_3
        refine aw_keep _ hH ?_
        refine aw_wkN rfl 0 1 rfl rfl ?_
        refine aw_seq ?_
        refine aw_seq ?_
        refine aw_region (by decide) ?_
        refine rts _ rfl (opD_move oz) ?_
        refine rts _ rfl (opD_len_sl Go.Proofs.Try.underlying26 lz) ?_
        refine rts _ rfl (opD_lss lz (ev_const _ _)) ?_
        refine .nil ?_
        refine aw_keep [(6, _), (32, _)] ⟨lg (ls rfl (ls rfl (ls rfl oz))), lg lz, trivial⟩ ?_
        refine aw_cond _ (os rfl oz) (fun hc => ?_) (fun hc => ?_)
        · skip
          replace hz_3 := ifb_t hz_3 hc
          clear hc
          refine aw_skip ?_
          refine aw_keep [(6, _)] ⟨lg oz, trivial⟩ ?_
          refine aw_block ?_
          refine aw_region (by decide) ?_
          refine rts _ rfl (opD_move oz) ?_
          refine rts _ rfl (opD_buildOwn (k := kI .u8) ([0] : (List Int)) Go.Proofs.Try.underlying26 sz5_uAb zt5_uAb (by decide) rfl (parts_cons (cells1 (ev_const _ _) (one_pl rfl)) parts_nil) rfl rfl (by first | exact List.length_nil | (simp only [List.length_cons, List.length_nil, Nat.zero_add, Nat.reduceAdd] <;> rfl)) (by simp only [na, nb, nc, nd, nf, ng, nh, ni, nj, nk] <;> rfl)) ?_
          replace hz_3 := grd_some hz_3
          obtain ⟨hg_7, hz_3⟩ := hz_3
          refine rts _ rfl (opD_appendX Go.Proofs.Try.underlying26 el5_uAb (ls rfl lz) lz rfl hg_7.1 hg_7.2 rfl (by simp only [na, nb, nc, nd, nf, ng, nh, ni, nj, nk] <;> rfl)) ?_
          refine rts _ rfl (opD_assign lz) ?_
          refine .nil ?_
          obtain rfl := some_of hz_3
          replace hz_1 := ocs_l hz_1
          refine wk_yesN rfl (l := [(6, sl (kI .u8) (some (s.fr.length + 0)) none (t_2 ++ ([0] : (List Int))))]) (bs' := []) ⟨le_of_eq (eg lz), trivial⟩ (bnd_cons (sl_ob (kb_I _) (by first | omega | (simp only [List.length_append, List.length_cons, List.length_nil, ext_fr_length, upd_fr_length]; omega))) bnd_nil) (Nat.le_of_ble_eq_true rfl) (by simp only [na, nb, nc, nd, nf, ng, nh, ni, nj, nk] <;> rfl) bxle_nil rfl (by simp only [na, nb, nc, nd, nf, ng, nh, ni, nj, nk] <;> rfl) bl_nil ?_
          exact ⟨m_z_3, Nat.lt_succ_self _, (t_2 ++ ([0] : (List Int))), ⟨le_of_eq (eg oz), trivial⟩, rfl, hz_1⟩
        · skip
          replace hz_3 := ifb_f hz_3 hc
          clear hc
          refine aw_exit ?_
          obtain rfl := some_of hz_3
          replace hz_1 := ocs_r hz_1
          refine wk_no ?_
          refine wk_yesN rfl (l := [(6, sl (kI .u8) (some (s.fr.length + 0)) none t_2)]) (bs' := []) ⟨le_of_eq (eg oz), trivial⟩ (bnd_cons (sl_ob (kb_I _) (by first | omega | (simp only [List.length_append, List.length_cons, List.length_nil, ext_fr_length, upd_fr_length]; omega))) bnd_nil) (Nat.le_of_ble_eq_true rfl) (by simp only [na, nb, nc, nd, nf, ng, nh, ni, nj, nk] <;> rfl) bxle_nil rfl (by simp only [na, nb, nc, nd, nf, ng, nh, ni, nj, nk] <;> rfl) bl_nil ?_
          exact ⟨t_2, ⟨le_of_eq (eg oz), trivial⟩, rfl, some_of hz_1⟩
      · rintro e st ⟨vz_1, hH, rfl, rfl⟩
        refine aw_keep _ hH ?_
        refine aw_keep [(6, _)] ⟨lg oz, trivial⟩ ?_
        refine aw_seq ?_
        refine aw_region (by decide) ?_
        refine rts _ rfl (opD_move oz) ?_
        replace h0 := bnd_some h0
        obtain ⟨x_4, hx_4, h0⟩ := h0
        refine rts _ rfl (opD_pure ht12_uAb (c_rmore hx_4) ⟨le_of_eq (ev_const _ _), (le_of_eq lz).trans (sl_any _ _ _ _), trivial⟩) ?_
        refine rts _ rfl (opD_assign lz) ?_
        refine .nil ?_
        refine aw_keep [(6, _), (7, _)] ⟨lg (ls rfl (ls rfl (ls rfl oz))), lg lz, trivial⟩ ?_
        refine aw_seq ?_
        refine aw_region (by decide) ?_
        refine rts _ rfl (opD_move oz) ?_
        refine rts _ rfl (opD_move (ls rfl (os rfl oz))) ?_
        refine rts _ rfl (opD_quo lz (ev_const _ _) (by decide) rfl) ?_
        refine rts _ rfl (opD_conv_int Go.Proofs.Try.underlying41 Go.Proofs.Try.underlying5 lz rfl) ?_
        refine rts _ rfl (opD_move (ls rfl (ls rfl (ls rfl (ls rfl (os rfl oz)))))) ?_
        refine rts _ rfl (opD_quo lz (ev_const _ _) (by decide) rfl) ?_
        refine rts _ rfl (opD_rem lz (ev_const _ _) (by decide) rfl) ?_
        refine rts _ rfl (opD_conv_int Go.Proofs.Try.underlying41 Go.Proofs.Try.underlying5 lz rfl) ?_
        refine rts _ rfl (opD_move (ls rfl (ls rfl (ls rfl (ls rfl (ls rfl (ls rfl (ls rfl (ls rfl (os rfl oz)))))))))) ?_
        refine rts _ rfl (opD_quo lz (ev_const _ _) (by decide) rfl) ?_
        refine rts _ rfl (opD_rem lz (ev_const _ _) (by decide) rfl) ?_
        refine rts _ rfl (opD_conv_int Go.Proofs.Try.underlying41 Go.Proofs.Try.underlying5 lz rfl) ?_
        refine rts _ rfl (opD_move (ls rfl (ls rfl (ls rfl (ls rfl (ls rfl (ls rfl (ls rfl (ls rfl (ls rfl (ls rfl (ls rfl (ls rfl (os rfl oz)))))))))))))) ?_
        refine rts _ rfl (opD_rem lz (ev_const _ _) (by decide) rfl) ?_
        refine rts _ rfl (opD_conv_int Go.Proofs.Try.underlying41 Go.Proofs.Try.underlying5 lz rfl) ?_
        refine rts _ rfl (opD_buildOwn (k := kI .u8) ([IntKind.u8.wrap (IntKind.u32.wrap (x_4.tdiv 16777216)), IntKind.u8.wrap (((IntKind.u32.wrap (x_4.tdiv 65536)).tmod 256)), IntKind.u8.wrap (((IntKind.u32.wrap (x_4.tdiv 256)).tmod 256)), IntKind.u8.wrap ((x_4.tmod 256))] : (List Int)) Go.Proofs.Try.underlying26 sz5_uAb zt5_uAb (by decide) rfl (parts_cons (cells1 (ls rfl (ls rfl (ls rfl (ls rfl (ls rfl (ls rfl (ls rfl (ls rfl (ls rfl (ls rfl (ls rfl lz))))))))))) (one_pl rfl)) (parts_cons (cells1 (ls rfl (ls rfl (ls rfl (ls rfl (ls rfl (ls rfl (ls rfl lz))))))) (one_pl rfl)) (parts_cons (cells1 (ls rfl (ls rfl (ls rfl lz))) (one_pl rfl)) (parts_cons (cells1 lz (one_pl rfl)) parts_nil)))) rfl rfl (by first | exact List.length_nil | (simp only [List.length_cons, List.length_nil, Nat.zero_add, Nat.reduceAdd] <;> rfl)) (by simp only [na, nb, nc, nd, nf, ng, nh, ni, nj, nk] <;> rfl)) ?_
        replace h0 := grd_some h0
        obtain ⟨hg_8, h0⟩ := h0
        refine rts _ rfl (opD_appendX Go.Proofs.Try.underlying26 el5_uAb (ls rfl (ls rfl (ls rfl (ls rfl (ls rfl (ls rfl (ls rfl (ls rfl (ls rfl (ls rfl (ls rfl (ls rfl (ls rfl (ls rfl (ls rfl lz))))))))))))))) lz rfl hg_8.1 hg_8.2 rfl (by simp only [na, nb, nc, nd, nf, ng, nh, ni, nj, nk] <;> rfl)) ?_
        refine rts _ rfl (opD_assign lz) ?_
        refine rts _ rfl (opD_assign (ev_const _ _)) ?_
        refine .nil ?_
        refine aw_keep [(4, _), (5, _)] ⟨lg (ls rfl lz), lg lz, trivial⟩ ?_
        refine aw_ret ?_
        obtain rfl := some_of h0
        exact done_ext (.inr rfl) ((res_list (rs := [_, _]) (ps := [_, _]) rfl rfl ⟨it_tmp oz, it_tmp (os rfl oz), trivial⟩).le (tup_le ⟨(sl_any _ _ _ _), (Pd.le_refl _), trivial⟩)) (tup_bnd (bnd_cons (sl_b (kb_I _)) (bnd_cons (pl_bnd _ _ _) bnd_nil)))

def F_sure22 (fl : Nat) : Option (Bool) :=
  bnd (F_sdirty fl ([[], [], (List.replicate 512 (0 : Int)), ([1] : (List Int))] : (List (List Int))) (List.replicate 16 (0 : Int))) fun x_1 => bnd (F_bbelow fl 4) fun x_2 => bnd (F_sslack fl ([[], [], (List.replicate 512 (0 : Int)), ([1] : (List Int))] : (List (List Int))) x_2) fun x_3 => grd (((decide ((x_1.length : Int) = 1)) == true) = true → Below 0 x_1.length) <| bnd (gif (((decide ((x_1.length : Int) = 1)) && (decide ((x_1.getD (0 : Int).toNat default) = 3))) == true) (F_sclean fl ([[], [], (List.replicate 512 (0 : Int)), ([1] : (List Int))] : (List (List Int))) (List.replicate 16 (0 : Int)))) fun x_4 => grd (((((decide ((x_1.length : Int) = 1)) && (decide ((x_1.getD (0 : Int).toNat default) = 3))) && (!x_4)) == true) = true → UpTo 3 ([[], [], (List.replicate 512 (0 : Int)), ([1] : (List Int))] : (List (List Int))).length) <| bnd (gif ((((decide ((x_1.length : Int) = 1)) && (decide ((x_1.getD (0 : Int).toNat default) = 3))) && (!x_4)) == true) (F_sclean fl (([[], [], (List.replicate 512 (0 : Int)), ([1] : (List Int))] : (List (List Int))).take ((3 : Int).toNat)) (List.replicate 16 (0 : Int)))) fun x_5 => bnd (gif (((((decide ((x_1.length : Int) = 1)) && (decide ((x_1.getD (0 : Int).toNat default) = 3))) && (!x_4)) && x_5) == true) (F_bbelow fl 4)) fun x_6 => bnd (gif (((((decide ((x_1.length : Int) = 1)) && (decide ((x_1.getD (0 : Int).toNat default) = 3))) && (!x_4)) && x_5) == true) (F_sclean fl ([[], [], (List.replicate 512 (0 : Int)), ([1] : (List Int))] : (List (List Int))) x_6)) fun x_7 => some (((((((decide ((x_1.length : Int) = 1)) && (decide ((x_1.getD (0 : Int).toNat default) = 3))) && (!x_4)) && x_5) && (!x_7)) && (decide (x_3.1 = 504))) && (decide (x_3.2 = 0)))
set_option maxRecDepth 100000 in
set_option maxHeartbeats 2000000 in
theorem c_sure22 {fl : Nat} {R : Bool} (h0 : F_sure22 fl = some R) : Pure Go.Proofs.Try.prog 9 [] (pl (.bool R)) := by
  intro s
  unfold F_sure22 at h0
  refine ac_of_aw s.boxes.length s.fr.length Go.Proofs.Try.func9 rfl (by simp [Go.Proofs.Try.ntmps9]) ?_
  refine aw_ext0 ?_
  refine aw_keep [] trivial ?_
  refine aw_seq ?_
  refine aw_region (by decide) ?_
  refine rts _ rfl (opD_assign (ev_const _ _)) ?_
  refine .nil ?_
  refine aw_keep [] trivial ?_
  refine aw_seq ?_
  refine aw_region (by decide) ?_
  refine rts _ rfl (opD_makeS (k := kI .u8) (x0 := 0) (n := 512) (z := .int .u8 0) Go.Proofs.Try.underlying26 el5_uAb (by kernel_rfl) rfl rfl (ev_const _ _) (ev_const _ _) rfl rfl (by decide) (by decide)) ?_
  refine rts _ rfl (opD_buildOwn (k := kI .u8) ([1] : (List Int)) Go.Proofs.Try.underlying26 sz5_uAb zt5_uAb (by decide) rfl (parts_cons (cells1 (ev_const _ _) (one_pl rfl)) parts_nil) rfl rfl (by first | exact List.length_nil | (simp only [List.length_cons, List.length_nil, Nat.zero_add, Nat.reduceAdd] <;> rfl)) (by simp only [na, nb, nc, nd, nf, ng, nh, ni, nj, nk] <;> rfl)) ?_
  refine rts _ rfl (opD_buildOwn (k := kR (kI .u8)) ([[], [], (List.replicate 512 (0 : Int)), ([1] : (List Int))] : (List (List Int))) Go.Proofs.Try.underlying22 sz26_uAb zt26_uAb (by decide) rfl (parts_cons (cellsN (k := (kI .u8)) (ev_const _ _)) (parts_cons (cellsN (k := (kI .u8)) (ev_const _ _)) (parts_cons (cellsS (ls rfl lz)) (parts_cons (cellsS lz) parts_nil)))) rfl rfl (by first | exact List.length_nil | (simp only [List.length_cons, List.length_nil, Nat.zero_add, Nat.reduceAdd] <;> rfl)) (by simp only [na, nb, nc, nd, nf, ng, nh, ni, nj, nk] <;> rfl)) ?_
  refine rts _ rfl (opD_assign lz) ?_
  refine .nil ?_
  refine aw_keep [(1, _)] ⟨lg lz, trivial⟩ ?_
  refine aw_seq ?_
  refine aw_region (by decide) ?_
  refine rts _ rfl (opD_move oz) ?_
  refine rts _ rfl (opD_ple (q := agg (flat (kI .u64) (List.replicate 16 (0 : Int)))) rfl (opD_build_array (rs := [pl (.int .u64 0), pl (.int .u64 0), pl (.int .u64 0), pl (.int .u64 0), pl (.int .u64 0), pl (.int .u64 0), pl (.int .u64 0), pl (.int .u64 0), pl (.int .u64 0), pl (.int .u64 0), pl (.int .u64 0), pl (.int .u64 0), pl (.int .u64 0), pl (.int .u64 0), pl (.int .u64 0), pl (.int .u64 0)]) Go.Proofs.Try.underlying37 sz23_uAb zt37_uAb parts_nil rfl)) ?_
  replace h0 := bnd_some h0
  obtain ⟨x_1, hx_1, h0⟩ := h0
  refine rts _ rfl (opD_pure ht8_uAb (c_sdirty hx_1) ⟨(le_of_eq (ls rfl lz)).trans (sl_any _ _ _ _), le_of_eq lz, trivial⟩) ?_
  refine rts _ rfl (opD_assign lz) ?_
  refine .nil ?_
  refine aw_keep [(1, _), (2, _)] ⟨lg (ls rfl (ls rfl (ls rfl (ls rfl oz)))), lg lz, trivial⟩ ?_
  refine aw_seq ?_
  refine aw_region (by decide) ?_
  refine rts _ rfl (opD_move oz) ?_
  replace h0 := bnd_some h0
  obtain ⟨x_2, hx_2, h0⟩ := h0
  refine rts _ rfl (opD_pure ht16_uAb (c_bbelow hx_2) ⟨le_of_eq (ev_const _ _), trivial⟩) ?_
  replace h0 := bnd_some h0
  obtain ⟨x_3, hx_3, h0⟩ := h0
  refine rts _ rfl (opD_pure ht6_uAb (c_sslack hx_3) ⟨(le_of_eq (ls rfl lz)).trans (sl_any _ _ _ _), le_of_eq lz, trivial⟩) ?_
  refine rts _ rfl (opD_move lz) ?_
  refine rts _ rfl (opD_extract lz rfl) ?_
  refine rts _ rfl (opD_extract (ls rfl lz) rfl) ?_
  refine rts _ rfl (opD_assign (ls rfl lz)) ?_
  refine rts _ rfl (opD_assign (ls rfl lz)) ?_
  refine .nil ?_
  refine aw_keep [(1, _), (2, _), (3, _), (4, _)] ⟨lg (ls rfl (ls rfl (ls rfl (ls rfl (ls rfl (ls rfl (ls rfl (ls rfl oz)))))))), lg (ls rfl (ls rfl (ls rfl (ls rfl (ls rfl (ls rfl (ls rfl (ls rfl (os rfl oz))))))))), lg (ls rfl lz), lg lz, trivial⟩ ?_
  refine aw_seq ?_
  refine aw_region (by decide) ?_
  refine rts _ rfl (opD_move (os rfl oz)) ?_
  refine rts _ rfl (opD_len_sl Go.Proofs.Try.underlying33 lz) ?_
  refine rts _ rfl (opD_eql lz (ev_const _ _)) ?_
  refine rts _ rfl (opD_move lz) ?_
  refine rtg _ rfl lz (fun hg4_4_1 => opD_move (ls rfl (ls rfl (ls rfl (ls rfl (os rfl oz)))))) ?_
  replace h0 := grd_some h0
  obtain ⟨hg_3, h0⟩ := h0
  refine rtg _ rfl (ls rfl lz) (fun hg4_5_2 => opD_indexAddr_sl (i := (0 : Int).toNat) Go.Proofs.Try.underlying33 sz3_uAb (lz.trans (pif_pos hg4_5_2)) (ev_const _ _) (hg_3 hg4_5_2).eq (hg_3 hg4_5_2).2) ?_
  refine rtg _ rfl (ls rfl (ls rfl lz)) (fun hg4_6_4 => opD_load_el_one ag3_uAb (lz.trans (pif_pos hg4_6_4)) (at_getD default (hg_3 hg4_6_4).2) rfl) ?_
  refine rtg _ rfl (ls rfl (ls rfl (ls rfl lz))) (fun hg4_7_5 => opD_eql (lz.trans (pif_pos hg4_7_5)) (ev_const _ _)) ?_
  refine rts _ rfl (opD_and (ls rfl (ls rfl (ls rfl (ls rfl lz)))) lz) ?_
  refine rts _ rfl (opD_move lz) ?_
  refine rtg _ rfl lz (fun hg4_10_6 => opD_move (ls rfl (ls rfl (ls rfl (ls rfl (ls rfl (ls rfl (ls rfl (ls rfl (ls rfl (ls rfl oz))))))))))) ?_
  refine rtg _ rfl (ls rfl lz) (fun hg4_11_7 => opD_ple (q := agg (flat (kI .u64) (List.replicate 16 (0 : Int)))) rfl (opD_build_array (rs := [pl (.int .u64 0), pl (.int .u64 0), pl (.int .u64 0), pl (.int .u64 0), pl (.int .u64 0), pl (.int .u64 0), pl (.int .u64 0), pl (.int .u64 0), pl (.int .u64 0), pl (.int .u64 0), pl (.int .u64 0), pl (.int .u64 0), pl (.int .u64 0), pl (.int .u64 0), pl (.int .u64 0), pl (.int .u64 0)]) Go.Proofs.Try.underlying37 sz23_uAb zt37_uAb parts_nil rfl)) ?_
  replace h0 := bnd_some h0
  obtain ⟨x_4, hx_4, h0⟩ := h0
  refine rtg _ rfl (ls rfl (ls rfl lz)) (fun hg4_12_8 => opD_pure ht7_uAb (c_sclean (gif_some hx_4 hg4_12_8)) ⟨(le_of_eq ((ls rfl lz).trans (pif_pos hg4_12_8))).trans (sl_any _ _ _ _), le_of_eq (lz.trans (pif_pos hg4_12_8)), trivial⟩) ?_
  refine rtg _ rfl (ls rfl (ls rfl (ls rfl lz))) (fun hg4_13_9 => opD_not (lz.trans (pif_pos hg4_13_9))) ?_
  refine rts _ rfl (opD_and (ls rfl (ls rfl (ls rfl (ls rfl lz)))) lz) ?_
  refine rts _ rfl (opD_move lz) ?_
  refine rtg _ rfl lz (fun hg4_16_10 => opD_move (ls rfl (ls rfl (ls rfl (ls rfl (ls rfl (ls rfl (ls rfl (ls rfl (ls rfl (ls rfl (ls rfl (ls rfl (ls rfl (ls rfl (ls rfl (ls rfl oz))))))))))))))))) ?_
  replace h0 := grd_some h0
  obtain ⟨hg_12, h0⟩ := h0
  refine rtg _ rfl (ls rfl lz) (fun hg4_17_11 => opD_slice_to ((3 : Int).toNat) Go.Proofs.Try.underlying22 sz26_uAb (lz.trans (pif_pos hg4_17_11)) (ev_const _ _) (hg_12 hg4_17_11).eq (hg_12 hg4_17_11).2) ?_
  refine rtg _ rfl (ls rfl (ls rfl lz)) (fun hg4_18_13 => opD_ple (q := agg (flat (kI .u64) (List.replicate 16 (0 : Int)))) rfl (opD_build_array (rs := [pl (.int .u64 0), pl (.int .u64 0), pl (.int .u64 0), pl (.int .u64 0), pl (.int .u64 0), pl (.int .u64 0), pl (.int .u64 0), pl (.int .u64 0), pl (.int .u64 0), pl (.int .u64 0), pl (.int .u64 0), pl (.int .u64 0), pl (.int .u64 0), pl (.int .u64 0), pl (.int .u64 0), pl (.int .u64 0)]) Go.Proofs.Try.underlying37 sz23_uAb zt37_uAb parts_nil rfl)) ?_
  replace h0 := bnd_some h0
  obtain ⟨x_5, hx_5, h0⟩ := h0
  refine rtg _ rfl (ls rfl (ls rfl (ls rfl lz))) (fun hg4_19_14 => opD_pure ht7_uAb (c_sclean (gif_some hx_5 hg4_19_14)) ⟨le_of_eq ((ls rfl lz).trans (pif_pos hg4_19_14)), le_of_eq (lz.trans (pif_pos hg4_19_14)), trivial⟩) ?_
  refine rts _ rfl (opD_and (ls rfl (ls rfl (ls rfl (ls rfl lz)))) lz) ?_
  refine rts _ rfl (opD_move lz) ?_
  refine rtg _ rfl lz (fun hg4_22_15 => opD_move (ls rfl (ls rfl (ls rfl (ls rfl (ls rfl (ls rfl (ls rfl (ls rfl (ls rfl (ls rfl (ls rfl (ls rfl (ls rfl (ls rfl (ls rfl (ls rfl (ls rfl (ls rfl (ls rfl (ls rfl (ls rfl (ls rfl oz))))))))))))))))))))))) ?_
  replace h0 := bnd_some h0
  obtain ⟨x_6, hx_6, h0⟩ := h0
  refine rtg _ rfl (ls rfl lz) (fun hg4_23_16 => opD_pure ht16_uAb (c_bbelow (gif_some hx_6 hg4_23_16)) ⟨le_of_eq (ev_const _ _), trivial⟩) ?_
  replace h0 := bnd_some h0
  obtain ⟨x_7, hx_7, h0⟩ := h0
  refine rtg _ rfl (ls rfl (ls rfl lz)) (fun hg4_24_17 => opD_pure ht7_uAb (c_sclean (gif_some hx_7 hg4_24_17)) ⟨(le_of_eq ((ls rfl lz).trans (pif_pos hg4_24_17))).trans (sl_any _ _ _ _), le_of_eq (lz.trans (pif_pos hg4_24_17)), trivial⟩) ?_
  refine rtg _ rfl (ls rfl (ls rfl (ls rfl lz))) (fun hg4_25_18 => opD_not (lz.trans (pif_pos hg4_25_18))) ?_
  refine rts _ rfl (opD_and (ls rfl (ls rfl (ls rfl (ls rfl lz)))) lz) ?_
  refine rts _ rfl (opD_move lz) ?_
  refine rtg _ rfl lz (fun hg4_28_19 => opD_move (ls rfl (ls rfl (ls rfl (ls rfl (ls rfl (ls rfl (ls rfl (ls rfl (ls rfl (ls rfl (ls rfl (ls rfl (ls rfl (ls rfl (ls rfl (ls rfl (ls rfl (ls rfl (ls rfl (ls rfl (ls rfl (ls rfl (ls rfl (ls rfl (ls rfl (ls rfl (ls rfl (ls rfl (os rfl (os rfl oz))))))))))))))))))))))))))))))) ?_
  refine rtg _ rfl (ls rfl lz) (fun hg4_29_20 => opD_eql (lz.trans (pif_pos hg4_29_20)) (ev_const _ _)) ?_
  refine rts _ rfl (opD_and (ls rfl (ls rfl lz)) lz) ?_
  refine rts _ rfl (opD_move lz) ?_
  refine rtg _ rfl lz (fun hg4_32_21 => opD_move (ls rfl (ls rfl (ls rfl (ls rfl (ls rfl (ls rfl (ls rfl (ls rfl (ls rfl (ls rfl (ls rfl (ls rfl (ls rfl (ls rfl (ls rfl (ls rfl (ls rfl (ls rfl (ls rfl (ls rfl (ls rfl (ls rfl (ls rfl (ls rfl (ls rfl (ls rfl (ls rfl (ls rfl (ls rfl (ls rfl (ls rfl (ls rfl (os rfl (os rfl (os rfl oz)))))))))))))))))))))))))))))))))))) ?_
  refine rtg _ rfl (ls rfl lz) (fun hg4_33_22 => opD_eql (lz.trans (pif_pos hg4_33_22)) (ev_const _ _)) ?_
  refine rts _ rfl (opD_and (ls rfl (ls rfl lz)) lz) ?_
  refine rts _ rfl (opD_assign lz) ?_
  refine .nil ?_
  refine aw_keep [(0, _)] ⟨lg lz, trivial⟩ ?_
  refine aw_ret ?_
  obtain rfl := some_of h0
  exact done_ext (.inr rfl) ((res_one rfl (it_tmp oz)).le (Pd.le_refl _)) (pl_bnd _ _ _)
end Go.Proofs.Ytokcgacehdgkcaa.Eng.A
