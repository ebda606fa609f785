/- EA3: what functions do, walked; used by the laws of this seat. -/
import Derived.Test.YtmnhfpcbfdgbcaaEA2
namespace Go.Proofs.Ytmnhfpcbfdgbcaa.Eng.A
set_option linter.unusedVariables false
set_option linter.unusedSimpArgs false
open Go.RowKit Go.Proofs.Ytmnhfpcbfdgbcaa.Plain Go.Proofs.Ytmnhfpcbfdgbcaa.Eng Go.Proofs.Ytmnhfpcbfdgbcaa.Eng.Pk Go.Proofs.Ytmnhfpcbfdgbcaa.Eng.Rd

theorem sz5_uAb : sizeT Go.Proofs.Try.prog 5 = some 1 := by kernel_rfl
theorem ag5_uAb : aggT Go.Proofs.Try.prog 5 = some false := by kernel_rfl
theorem ht23_uAb : hasText Go.Proofs.Try.prog 23 = true := by kernel_rfl
theorem ht29_uAb : hasText Go.Proofs.Try.prog 29 = true := by kernel_rfl
theorem mixed_uAb : Go.Proofs.Try.prog.follows .mixedOrders = true := by kernel_rfl
theorem sz23_uAb : sizeT Go.Proofs.Try.prog 23 = some 1 := by kernel_rfl
theorem ag23_uAb : aggT Go.Proofs.Try.prog 23 = some false := by kernel_rfl
theorem sz4_uAb : sizeT Go.Proofs.Try.prog 4 = some 1 := by kernel_rfl
theorem ag43_uAb : aggT Go.Proofs.Try.prog 43 = some true := by kernel_rfl
theorem sz43_uAb : sizeT Go.Proofs.Try.prog 43 = some 1024 := by kernel_rfl
theorem ag24_uAb : aggT Go.Proofs.Try.prog 24 = some true := by kernel_rfl
theorem sz24_uAb : sizeT Go.Proofs.Try.prog 24 = some 16 := by kernel_rfl
theorem ht16_uAb : hasText Go.Proofs.Try.prog 16 = true := by kernel_rfl
theorem ag4_uAb : aggT Go.Proofs.Try.prog 4 = some false := by kernel_rfl
theorem sz26_uAb : sizeT Go.Proofs.Try.prog 26 = some 1 := by kernel_rfl
theorem ag26_uAb : aggT Go.Proofs.Try.prog 26 = some false := by kernel_rfl
theorem ht17_uAb : hasText Go.Proofs.Try.prog 17 = true := by kernel_rfl
theorem sz3_uAb : sizeT Go.Proofs.Try.prog 3 = some 1 := by kernel_rfl
theorem zt3_uAb : zeroT Go.Proofs.Try.prog 3 = some [.int .i64 0] := by kernel_rfl
theorem el3_uAb : elT Go.Proofs.Try.prog 3 = some (1, 8) := by kernel_rfl
theorem ht20_uAb : hasText Go.Proofs.Try.prog 20 = true := by kernel_rfl
theorem ht7_uAb : hasText Go.Proofs.Try.prog 7 = true := by kernel_rfl
theorem el5_uAb : elT Go.Proofs.Try.prog 5 = some (1, 1) := by kernel_rfl
theorem zt5_uAb : zeroT Go.Proofs.Try.prog 5 = some [.int .u8 0] := by kernel_rfl
theorem zt26_uAb : zeroT Go.Proofs.Try.prog 26 = some [.slice none 0 0] := by kernel_rfl
theorem zt40_uAb : zeroT Go.Proofs.Try.prog 40 = some [.int .u64 0, .int .u64 0, .int .u64 0, .int .u64 0, .int .u64 0, .int .u64 0, .int .u64 0, .int .u64 0, .int .u64 0, .int .u64 0, .int .u64 0, .int .u64 0, .int .u64 0, .int .u64 0, .int .u64 0, .int .u64 0] := by kernel_rfl
theorem ht6_uAb : hasText Go.Proofs.Try.prog 6 = true := by kernel_rfl
theorem ht14_uAb : hasText Go.Proofs.Try.prog 14 = true := by kernel_rfl
theorem ht8_uAb : hasText Go.Proofs.Try.prog 8 = true := by kernel_rfl
theorem ag3_uAb : aggT Go.Proofs.Try.prog 3 = some false := by kernel_rfl
theorem ht10_uAb : hasText Go.Proofs.Try.prog 10 = true := by kernel_rfl
theorem ht5_uAb : hasText Go.Proofs.Try.prog 5 = true := by kernel_rfl
theorem ht9_uAb : hasText Go.Proofs.Try.prog 9 = true := by kernel_rfl
theorem ht11_uAb : hasText Go.Proofs.Try.prog 11 = true := by kernel_rfl

def F_rmore_b1 (t_6 : Int × Int) : Option ((Int × Int) ⊕ ((Int))) :=
  ifb (decide (t_6.2 < 8)) (bnd (ifb (decide ((t_6.1.tmod 2) = 1)) (some (bits BinOp.xor .u32 (IntKind.u32.wrap (t_6.1.tdiv 2)) 2197175160)) (some (IntKind.u32.wrap (t_6.1.tdiv 2)))) fun z_8 => some (.inl (z_8, IntKind.i64.wrap (t_6.2 + 1)))) (some (.inr t_6.1))
def F_rmore_b0 (fl : Nat) (p1 : (List Int)) (t_2 : Int × Int) : Option ((Int × Int) ⊕ ((Int))) :=
  ifb (decide (t_2.2 < (p1.length : Int))) (bnd (ixb p1 t_2.2 fun x_5 => lp (F_rmore_b1) fl ((bits BinOp.xor .u32 t_2.1 (IntKind.u32.wrap (x_5))), 0)) fun z_4 => some (.inl (z_4, IntKind.i64.wrap (t_2.2 + 1)))) (some (.inr t_2.1))
def F_rmore (fl : Nat) (p0 : Int) (p1 : (List Int)) : Option (Int) :=
  bnd (lp (F_rmore_b0 fl p1) fl (IntKind.u32.wrap (4294967295 - p0), 0)) fun z_1 => some (IntKind.u32.wrap (4294967295 - z_1))
set_option maxRecDepth 100000 in
set_option maxHeartbeats 2000000 in
theorem c_rmore {fl : Nat} {p0 : Int} {p1 : (List Int)} {R : Int} (h0 : F_rmore fl p0 p1 = some R) : Pure Go.Proofs.Try.prog 23 [pl (.int .u32 p0), sl (kI .u8) none none p1] (pl (.int .u32 R)) := by
  intro s
  unfold F_rmore at h0
  refine ac_of_aw s.boxes.length s.fr.length Go.Proofs.Try.func23 rfl (by simp [Go.Proofs.Try.ntmps23]) ?_
  refine aw_ext0 ?_
  refine aw_keep [(0, _), (1, _)] ⟨lg ez, lg (es ez), trivial⟩ ?_
  refine aw_seq ?_
  refine aw_region (by decide) ?_
  refine rts _ rfl (opD_assign (ev_const _ _)) ?_
  refine .nil ?_
  refine aw_keep [(0, _), (1, _)] ⟨lg (ls rfl oz), lg (ls rfl (os rfl oz)), trivial⟩ ?_
  refine aw_seq ?_
  refine aw_region (by decide) ?_
  refine rts _ rfl (opD_move oz) ?_
  refine rts _ rfl (opD_sub (ev_const _ _) lz rfl) ?_
  refine rts _ rfl (opD_assign lz) ?_
  refine .nil ?_
  refine aw_keep [(1, _), (5, _)] ⟨lg (ls rfl (ls rfl (ls rfl (os rfl oz)))), lg lz, trivial⟩ ?_
  refine aw_seq ?_
  refine aw_seq ?_
  refine aw_region (by decide) ?_
  refine rts _ rfl (opD_assign (ev_const _ _)) ?_
  refine .nil ?_
  refine aw_keep [(1, _), (5, _), (6, _)] ⟨lg (ls rfl oz), lg (ls rfl (os rfl oz)), lg lz, trivial⟩ ?_
  replace h0 := bnd_some h0
  obtain ⟨z_1, hz_1, h0⟩ := h0
  refine aw_mid (fun e st => ∃ v : Int, Holds e [(5, pl (.int .u32 v))] ∧ st = s.ext [] [] ∧ v = z_1) ?_ ?_
  · skip
    refine aw_wkN rfl 0 0 rfl rfl ?_
    refine aw_block ?_
    refine aw_loop (fun n e st => ∃ v : Int × Int, Holds e [(1, sl (kI .u8) none none p1), (5, pl (.int .u32 v.1)), (6, pl (.int .i64 v.2))] ∧ st = s.ext [] [] ∧ lp (F_rmore_b0 fl p1) n v = some z_1) fl ⟨(IntKind.u32.wrap (4294967295 - p0), 0), ⟨le_of_eq (eg oz), le_of_eq (eg (os rfl oz)), le_of_eq (eg (os rfl (os rfl oz))), trivial⟩, rfl, hz_1⟩ ?_
    rintro n e st ⟨t_2, hH, rfl, hz_1⟩
    replace hz_1 := lp_some hz_1
    obtain ⟨m_z_3, z_3, rfl, hz_3, hz_1⟩ := hz_1
    unfold F_rmore_b0 at hz_3
    refine aw_keep _ hH ?_
    refine aw_wkN rfl 0 0 rfl rfl ?_
    refine aw_seq ?_
    refine aw_seq ?_
    refine aw_region (by decide) ?_
    refine rts _ rfl (opD_move (os rfl (os rfl oz))) ?_
    refine rts _ rfl (opD_move (ls rfl oz)) ?_
    refine rts _ rfl (opD_len_sl Go.Proofs.Try.underlying26 lz) ?_
    refine rts _ rfl (opD_lss (ls rfl (ls rfl lz)) lz) ?_
    refine .nil ?_
    refine aw_keep [(1, _), (5, _), (6, _), (14, _)] ⟨lg (ls rfl (ls rfl (ls rfl (ls rfl oz)))), lg (ls rfl (ls rfl (ls rfl (ls rfl (os rfl oz))))), lg (ls rfl (ls rfl (ls rfl (ls rfl (os rfl (os rfl oz)))))), lg lz, trivial⟩ ?_
    refine aw_cond _ (os rfl (os rfl (os rfl oz))) (fun hc => ?_) (fun hc => ?_)
    · skip
      replace hz_3 := ifb_t hz_3 hc
      clear hc
      refine aw_skip ?_
      refine aw_keep [(1, _), (5, _), (6, _)] ⟨lg oz, lg (os rfl oz), lg (os rfl (os rfl oz)), trivial⟩ ?_
      refine aw_seq ?_
      replace hz_3 := bnd_some hz_3
      obtain ⟨z_4, hz_4, hz_3⟩ := hz_3
      refine aw_mid (fun e st => ∃ v : Int, Holds e [(1, sl (kI .u8) none none p1), (5, pl (.int .u32 v)), (6, pl (.int .i64 t_2.2))] ∧ st = s.ext [] [] ∧ v = z_4) ?_ ?_
      · skip
        refine aw_wkN rfl 0 0 rfl rfl ?_
        refine aw_block ?_
        refine aw_seq ?_
        refine aw_region (by decide) ?_
        refine rts _ rfl (opD_move (os rfl oz)) ?_
        refine rts _ rfl (opD_move (ls rfl oz)) ?_
        refine rts _ rfl (opD_move (ls rfl (ls rfl (os rfl (os rfl oz))))) ?_
        replace hz_4 := ixb_some hz_4
        obtain ⟨x_5, hx_5, hbx_5, hz_4⟩ := hz_4
        refine rts _ rfl (opD_indexAddr_sl (i := t_2.2.toNat) Go.Proofs.Try.underlying26 sz5_uAb (ls rfl lz) lz hbx_5.2.2 hbx_5.2.1) ?_
        refine rts _ rfl (opD_load_el_one ag5_uAb lz hx_5 rfl) ?_
        refine rts _ rfl (opD_conv_int Go.Proofs.Try.underlying5 Go.Proofs.Try.underlying55 lz rfl) ?_
        refine rts _ rfl (opD_bits (.inr (.inr (.inl rfl))) (ls rfl (ls rfl (ls rfl (ls rfl (ls rfl lz))))) lz rfl) ?_
        refine rts _ rfl (opD_assign lz) ?_
        refine .nil ?_
        refine aw_keep [(1, _), (5, _), (6, _)] ⟨lg (ls rfl (ls rfl (ls rfl (ls rfl (ls rfl (ls rfl (ls rfl (ls rfl oz)))))))), lg lz, lg (ls rfl (ls rfl (ls rfl (ls rfl (ls rfl (ls rfl (ls rfl (ls rfl (os rfl (os rfl oz)))))))))), trivial⟩ ?_
        refine aw_seq ?_
        refine aw_region (by decide) ?_
        refine rts _ rfl (opD_assign (ev_const _ _)) ?_
        refine .nil ?_
        refine aw_keep [(1, _), (5, _), (6, _), (7, _)] ⟨lg (ls rfl oz), lg (ls rfl (os rfl oz)), lg (ls rfl (os rfl (os rfl oz))), lg lz, trivial⟩ ?_
        refine aw_block ?_
        refine aw_loop (fun n e st => ∃ v : Int × Int, Holds e [(1, sl (kI .u8) none none p1), (5, pl (.int .u32 v.1)), (6, pl (.int .i64 t_2.2)), (7, pl (.int .i64 v.2))] ∧ st = s.ext [] [] ∧ lp (F_rmore_b1) n v = some z_4) fl ⟨((bits BinOp.xor .u32 t_2.1 (IntKind.u32.wrap (x_5))), 0), ⟨le_of_eq (eg oz), le_of_eq (eg (os rfl oz)), le_of_eq (eg (os rfl (os rfl oz))), le_of_eq (eg (os rfl (os rfl (os rfl oz)))), trivial⟩, rfl, hz_4⟩ ?_
        rintro n e st ⟨t_6, hH, rfl, hz_4⟩
        replace hz_4 := lp_some hz_4
        obtain ⟨m_z_7, z_7, rfl, hz_7, hz_4⟩ := hz_4
        unfold F_rmore_b1 at hz_7
        refine aw_keep _ hH ?_
        refine aw_wkN rfl 0 0 rfl rfl ?_
        refine aw_seq ?_
        refine aw_seq ?_
        refine aw_region (by decide) ?_
        refine rts _ rfl (opD_move (os rfl (os rfl (os rfl oz)))) ?_
        refine rts _ rfl (opD_lss lz (ev_const _ _)) ?_
        refine .nil ?_
        refine aw_keep [(1, _), (5, _), (6, _), (7, _), (25, _)] ⟨lg (ls rfl (ls rfl oz)), lg (ls rfl (ls rfl (os rfl oz))), lg (ls rfl (ls rfl (os rfl (os rfl oz)))), lg (ls rfl (ls rfl (os rfl (os rfl (os rfl oz))))), lg lz, trivial⟩ ?_
        refine aw_cond _ (os rfl (os rfl (os rfl (os rfl oz)))) (fun hc => ?_) (fun hc => ?_)
        · skip
          replace hz_7 := ifb_t hz_7 hc
          clear hc
          refine aw_skip ?_
          refine aw_keep [(1, _), (5, _), (6, _), (7, _)] ⟨lg oz, lg (os rfl oz), lg (os rfl (os rfl oz)), lg (os rfl (os rfl (os rfl oz))), trivial⟩ ?_
          refine aw_seq ?_
          replace hz_7 := bnd_some hz_7
          obtain ⟨z_8, hz_8, hz_7⟩ := hz_7
          refine aw_mid (fun e st => ∃ v : Int, Holds e [(1, sl (kI .u8) none none p1), (5, pl (.int .u32 v)), (6, pl (.int .i64 t_2.2)), (7, pl (.int .i64 t_6.2))] ∧ st = s.ext [] [] ∧ v = z_8) ?_ ?_
          · skip
            refine aw_wkN rfl 0 0 rfl rfl ?_
            refine aw_block ?_
            refine aw_seq ?_
            refine aw_region (by decide) ?_
            refine rts _ rfl (opD_move (os rfl oz)) ?_
            refine rts _ rfl (opD_rem lz (ev_const _ _) (by decide) rfl) ?_
            refine rts _ rfl (opD_assign lz) ?_
            refine .nil ?_
            refine aw_keep [(1, _), (5, _), (6, _), (7, _), (8, _)] ⟨lg (ls rfl (ls rfl (ls rfl oz))), lg (ls rfl (ls rfl (ls rfl (os rfl oz)))), lg (ls rfl (ls rfl (ls rfl (os rfl (os rfl oz))))), lg (ls rfl (ls rfl (ls rfl (os rfl (os rfl (os rfl oz)))))), lg lz, trivial⟩ ?_
            refine aw_seq ?_
            refine aw_region (by decide) ?_
            refine rts _ rfl (opD_move (os rfl oz)) ?_
            refine rts _ rfl (opD_quo lz (ev_const _ _) (by decide) rfl) ?_
            refine rts _ rfl (opD_assign lz) ?_
            refine .nil ?_
            refine aw_keep [(1, _), (5, _), (6, _), (7, _), (8, _)] ⟨lg (ls rfl (ls rfl (ls rfl oz))), lg lz, lg (ls rfl (ls rfl (ls rfl (os rfl (os rfl oz))))), lg (ls rfl (ls rfl (ls rfl (os rfl (os rfl (os rfl oz)))))), lg (ls rfl (ls rfl (ls rfl (os rfl (os rfl (os rfl (os rfl oz))))))), trivial⟩ ?_
            refine aw_seq ?_
            refine aw_region (by decide) ?_
            refine rts _ rfl (opD_move (os rfl (os rfl (os rfl (os rfl oz))))) ?_
            refine rts _ rfl (opD_eql lz (ev_const _ _)) ?_
            refine .nil ?_
            refine aw_keep [(1, _), (5, _), (6, _), (7, _), (33, _)] ⟨lg (ls rfl (ls rfl oz)), lg (ls rfl (ls rfl (os rfl oz))), lg (ls rfl (ls rfl (os rfl (os rfl oz)))), lg (ls rfl (ls rfl (os rfl (os rfl (os rfl oz))))), lg lz, trivial⟩ ?_
            refine aw_cond _ (os rfl (os rfl (os rfl (os rfl oz)))) (fun hc => ?_) (fun hc => ?_)
            · skip
              replace hz_8 := ifb_t hz_8 hc
              clear hc
              refine aw_region (by decide) ?_
              refine rts _ rfl (opD_move (os rfl oz)) ?_
              refine rts _ rfl (opD_bits (.inr (.inr (.inl rfl))) lz (ev_const _ _) rfl) ?_
              refine rts _ rfl (opD_assign lz) ?_
              refine .nil ?_
              refine wk_yesN rfl (l := [(1, sl (kI .u8) none none p1), (5, pl (.int .u32 (bits BinOp.xor .u32 (IntKind.u32.wrap (t_6.1.tdiv 2)) 2197175160))), (6, pl (.int .i64 t_2.2)), (7, pl (.int .i64 t_6.2))]) (bs' := []) ⟨le_of_eq (eg (ls rfl (ls rfl (ls rfl oz)))), le_of_eq (eg lz), le_of_eq (eg (ls rfl (ls rfl (ls rfl (os rfl (os rfl oz)))))), le_of_eq (eg (ls rfl (ls rfl (ls rfl (os rfl (os rfl (os rfl oz))))))), trivial⟩ (bnd_cons (sl_b (kb_I _)) (bnd_cons (pl_bnd _ _ _) (bnd_cons (pl_bnd _ _ _) (bnd_cons (pl_bnd _ _ _) bnd_nil)))) (Nat.le_of_ble_eq_true rfl) (by simp only [na, nb, nc, nd, nf, ng, nh, ni, nj, nk] <;> rfl) bxle_nil rfl (by simp only [na, nb, nc, nd, nf, ng, nh, ni, nj, nk] <;> rfl) bl_nil ?_
              exact ⟨(bits BinOp.xor .u32 (IntKind.u32.wrap (t_6.1.tdiv 2)) 2197175160), ⟨le_of_eq (eg oz), le_of_eq (eg (os rfl oz)), le_of_eq (eg (os rfl (os rfl oz))), le_of_eq (eg (os rfl (os rfl (os rfl oz)))), trivial⟩, rfl, some_of hz_8⟩
            · skip
              replace hz_8 := ifb_f hz_8 hc
              clear hc
              refine aw_skip ?_
              refine wk_yesN rfl (l := [(1, sl (kI .u8) none none p1), (5, pl (.int .u32 (IntKind.u32.wrap (t_6.1.tdiv 2)))), (6, pl (.int .i64 t_2.2)), (7, pl (.int .i64 t_6.2))]) (bs' := []) ⟨le_of_eq (eg oz), le_of_eq (eg (os rfl oz)), le_of_eq (eg (os rfl (os rfl oz))), le_of_eq (eg (os rfl (os rfl (os rfl oz)))), trivial⟩ (bnd_cons (sl_b (kb_I _)) (bnd_cons (pl_bnd _ _ _) (bnd_cons (pl_bnd _ _ _) (bnd_cons (pl_bnd _ _ _) bnd_nil)))) (Nat.le_of_ble_eq_true rfl) (by simp only [na, nb, nc, nd, nf, ng, nh, ni, nj, nk] <;> rfl) bxle_nil rfl (by simp only [na, nb, nc, nd, nf, ng, nh, ni, nj, nk] <;> rfl) bl_nil ?_
              exact ⟨IntKind.u32.wrap (t_6.1.tdiv 2), ⟨le_of_eq (eg oz), le_of_eq (eg (os rfl oz)), le_of_eq (eg (os rfl (os rfl oz))), le_of_eq (eg (os rfl (os rfl (os rfl oz)))), trivial⟩, rfl, some_of hz_8⟩
          · rintro e st ⟨vz_8, hH, rfl, rfl⟩
            refine aw_keep _ hH ?_
            refine aw_keep [(1, _), (5, _), (6, _), (7, _)] ⟨lg oz, lg (os rfl oz), lg (os rfl (os rfl oz)), lg (os rfl (os rfl (os rfl oz))), trivial⟩ ?_
            refine aw_region (by decide) ?_
            refine rts _ rfl (opD_move (os rfl (os rfl (os rfl oz)))) ?_
            refine rts _ rfl (opD_add lz (ev_const _ _) rfl) ?_
            refine rts _ rfl (opD_assign lz) ?_
            refine .nil ?_
            obtain rfl := some_of hz_7
            replace hz_4 := ocs_l hz_4
            refine wk_yesN rfl (l := [(1, sl (kI .u8) none none p1), (5, pl (.int .u32 vz_8)), (6, pl (.int .i64 t_2.2)), (7, pl (.int .i64 (IntKind.i64.wrap (t_6.2 + 1))))]) (bs' := []) ⟨le_of_eq (eg (ls rfl (ls rfl (ls rfl oz)))), le_of_eq (eg (ls rfl (ls rfl (ls rfl (os rfl oz))))), le_of_eq (eg (ls rfl (ls rfl (ls rfl (os rfl (os rfl oz)))))), le_of_eq (eg lz), trivial⟩ (bnd_cons (sl_b (kb_I _)) (bnd_cons (pl_bnd _ _ _) (bnd_cons (pl_bnd _ _ _) (bnd_cons (pl_bnd _ _ _) bnd_nil)))) (Nat.le_of_ble_eq_true rfl) (by simp only [na, nb, nc, nd, nf, ng, nh, ni, nj, nk] <;> rfl) bxle_nil rfl (by simp only [na, nb, nc, nd, nf, ng, nh, ni, nj, nk] <;> rfl) bl_nil ?_
            exact ⟨m_z_7, Nat.lt_succ_self _, (vz_8, IntKind.i64.wrap (t_6.2 + 1)), ⟨le_of_eq (eg oz), le_of_eq (eg (os rfl oz)), le_of_eq (eg (os rfl (os rfl oz))), le_of_eq (eg (os rfl (os rfl (os rfl oz)))), trivial⟩, rfl, hz_4⟩
        · skip
          replace hz_7 := ifb_f hz_7 hc
          clear hc
          refine aw_exit ?_
          obtain rfl := some_of hz_7
          replace hz_4 := ocs_r hz_4
          refine wk_no ?_
          refine wk_yesN rfl (l := [(1, sl (kI .u8) none none p1), (5, pl (.int .u32 t_6.1)), (6, pl (.int .i64 t_2.2))]) (bs' := []) ⟨le_of_eq (eg oz), le_of_eq (eg (os rfl oz)), le_of_eq (eg (os rfl (os rfl oz))), trivial⟩ (bnd_cons (sl_b (kb_I _)) (bnd_cons (pl_bnd _ _ _) (bnd_cons (pl_bnd _ _ _) bnd_nil))) (Nat.le_of_ble_eq_true rfl) (by simp only [na, nb, nc, nd, nf, ng, nh, ni, nj, nk] <;> rfl) bxle_nil rfl (by simp only [na, nb, nc, nd, nf, ng, nh, ni, nj, nk] <;> rfl) bl_nil ?_
          exact ⟨t_6.1, ⟨le_of_eq (eg oz), le_of_eq (eg (os rfl oz)), le_of_eq (eg (os rfl (os rfl oz))), trivial⟩, rfl, some_of hz_4⟩
      · rintro e st ⟨vz_4, hH, rfl, rfl⟩
        refine aw_keep _ hH ?_
        refine aw_keep [(1, _), (5, _), (6, _)] ⟨lg oz, lg (os rfl oz), lg (os rfl (os rfl oz)), trivial⟩ ?_
        refine aw_region (by decide) ?_
        refine rts _ rfl (opD_move (os rfl (os rfl oz))) ?_
        refine rts _ rfl (opD_add lz (ev_const _ _) rfl) ?_
        refine rts _ rfl (opD_assign lz) ?_
        refine .nil ?_
        obtain rfl := some_of hz_3
        replace hz_1 := ocs_l hz_1
        refine wk_yesN rfl (l := [(1, sl (kI .u8) none none p1), (5, pl (.int .u32 vz_4)), (6, pl (.int .i64 (IntKind.i64.wrap (t_2.2 + 1))))]) (bs' := []) ⟨le_of_eq (eg (ls rfl (ls rfl (ls rfl oz)))), le_of_eq (eg (ls rfl (ls rfl (ls rfl (os rfl oz))))), le_of_eq (eg lz), trivial⟩ (bnd_cons (sl_b (kb_I _)) (bnd_cons (pl_bnd _ _ _) (bnd_cons (pl_bnd _ _ _) bnd_nil))) (Nat.le_of_ble_eq_true rfl) (by simp only [na, nb, nc, nd, nf, ng, nh, ni, nj, nk] <;> rfl) bxle_nil rfl (by simp only [na, nb, nc, nd, nf, ng, nh, ni, nj, nk] <;> rfl) bl_nil ?_
        exact ⟨m_z_3, Nat.lt_succ_self _, (vz_4, IntKind.i64.wrap (t_2.2 + 1)), ⟨le_of_eq (eg oz), le_of_eq (eg (os rfl oz)), le_of_eq (eg (os rfl (os rfl oz))), trivial⟩, rfl, hz_1⟩
    · skip
      replace hz_3 := ifb_f hz_3 hc
      clear hc
      refine aw_exit ?_
      obtain rfl := some_of hz_3
      replace hz_1 := ocs_r hz_1
      refine wk_no ?_
      refine wk_yesN rfl (l := [(5, pl (.int .u32 t_2.1))]) (bs' := []) ⟨le_of_eq (eg (os rfl oz)), trivial⟩ (bnd_cons (pl_bnd _ _ _) bnd_nil) (Nat.le_of_ble_eq_true rfl) (by simp only [na, nb, nc, nd, nf, ng, nh, ni, nj, nk] <;> rfl) bxle_nil rfl (by simp only [na, nb, nc, nd, nf, ng, nh, ni, nj, nk] <;> rfl) bl_nil ?_
      exact ⟨t_2.1, ⟨le_of_eq (eg oz), trivial⟩, rfl, some_of hz_1⟩
  · rintro e st ⟨vz_1, hH, rfl, rfl⟩
    refine aw_keep _ hH ?_
    refine aw_keep [(5, _)] ⟨lg oz, trivial⟩ ?_
    refine aw_seq ?_
    refine aw_region (by decide) ?_
    refine rts _ rfl (opD_move oz) ?_
    refine rts _ rfl (opD_sub (ev_const _ _) lz rfl) ?_
    refine rts _ rfl (opD_assign lz) ?_
    refine .nil ?_
    refine aw_keep [(4, _)] ⟨lg lz, trivial⟩ ?_
    refine aw_ret ?_
    obtain rfl := some_of h0
    exact done_ext (.inr rfl) ((res_one rfl (it_tmp oz)).le (Pd.le_refl _)) (pl_bnd _ _ _)

def F_ris (fl : Nat) (p0 : (List Int)) : Option (Bool) :=
  ifb (decide ((p0.length : Int) < 4)) (some false) (grd (UpTo (IntKind.i64.wrap ((p0.length : Int) - 4)) p0.length) <| bnd (F_rmore fl 0 (p0.take ((IntKind.i64.wrap ((p0.length : Int) - 4)).toNat))) fun x_1 => ixb p0 (IntKind.i64.wrap ((p0.length : Int) - 4)) fun x_2 => grd (((decide (x_2 = (IntKind.u8.wrap (IntKind.u32.wrap (x_1.tdiv 16777216))))) == true) = true → Below (IntKind.i64.wrap ((IntKind.i64.wrap ((p0.length : Int) - 4)) + 1)) p0.length) <| grd ((((decide (x_2 = (IntKind.u8.wrap (IntKind.u32.wrap (x_1.tdiv 16777216))))) && (decide ((p0.getD (IntKind.i64.wrap ((IntKind.i64.wrap ((p0.length : Int) - 4)) + 1)).toNat default) = (IntKind.u8.wrap (((IntKind.u32.wrap (x_1.tdiv 65536)).tmod 256)))))) == true) = true → Below (IntKind.i64.wrap ((IntKind.i64.wrap ((p0.length : Int) - 4)) + 2)) p0.length) <| grd (((((decide (x_2 = (IntKind.u8.wrap (IntKind.u32.wrap (x_1.tdiv 16777216))))) && (decide ((p0.getD (IntKind.i64.wrap ((IntKind.i64.wrap ((p0.length : Int) - 4)) + 1)).toNat default) = (IntKind.u8.wrap (((IntKind.u32.wrap (x_1.tdiv 65536)).tmod 256)))))) && (decide ((p0.getD (IntKind.i64.wrap ((IntKind.i64.wrap ((p0.length : Int) - 4)) + 2)).toNat default) = (IntKind.u8.wrap (((IntKind.u32.wrap (x_1.tdiv 256)).tmod 256)))))) == true) = true → Below (IntKind.i64.wrap ((IntKind.i64.wrap ((p0.length : Int) - 4)) + 3)) p0.length) <| some ((((decide (x_2 = (IntKind.u8.wrap (IntKind.u32.wrap (x_1.tdiv 16777216))))) && (decide ((p0.getD (IntKind.i64.wrap ((IntKind.i64.wrap ((p0.length : Int) - 4)) + 1)).toNat default) = (IntKind.u8.wrap (((IntKind.u32.wrap (x_1.tdiv 65536)).tmod 256)))))) && (decide ((p0.getD (IntKind.i64.wrap ((IntKind.i64.wrap ((p0.length : Int) - 4)) + 2)).toNat default) = (IntKind.u8.wrap (((IntKind.u32.wrap (x_1.tdiv 256)).tmod 256)))))) && (decide ((p0.getD (IntKind.i64.wrap ((IntKind.i64.wrap ((p0.length : Int) - 4)) + 3)).toNat default) = (IntKind.u8.wrap ((x_1.tmod 256)))))))
set_option maxRecDepth 100000 in
set_option maxHeartbeats 2000000 in
theorem c_ris {fl : Nat} {p0 : (List Int)} {R : Bool} (h0 : F_ris fl p0 = some R) : Pure Go.Proofs.Try.prog 29 [sl (kI .u8) none none p0] (pl (.bool R)) := by
  intro s
  unfold F_ris at h0
  refine ac_of_aw s.boxes.length s.fr.length Go.Proofs.Try.func29 rfl (by simp [Go.Proofs.Try.ntmps29]) ?_
  refine aw_ext0 ?_
  refine aw_keep [(0, _)] ⟨lg ez, trivial⟩ ?_
  refine aw_seq ?_
  refine aw_region (by decide) ?_
  refine rts _ rfl (opD_assign (ev_const _ _)) ?_
  refine .nil ?_
  refine aw_keep [(0, _)] ⟨lg (ls rfl oz), trivial⟩ ?_
  refine aw_seq ?_
  refine aw_seq ?_
  refine aw_region (by decide) ?_
  refine rts _ rfl (opD_move oz) ?_
  refine rts _ rfl (opD_len_sl Go.Proofs.Try.underlying26 lz) ?_
  refine rts _ rfl (opD_lss lz (ev_const _ _)) ?_
  refine .nil ?_
  refine aw_keep [(0, _), (7, _)] ⟨lg (ls rfl (ls rfl (ls rfl oz))), lg lz, trivial⟩ ?_
  refine aw_cond _ (os rfl oz) (fun hc => ?_) (fun hc => ?_)
  · skip
    replace h0 := ifb_t h0 hc
    clear hc
    refine aw_seq ?_
    refine aw_region (by decide) ?_
    refine rts _ rfl (opD_assign (ev_const _ _)) ?_
    refine .nil ?_
    refine aw_keep [(2, _)] ⟨lg lz, trivial⟩ ?_
    refine aw_ret ?_
    obtain rfl := some_of h0
    exact done_ext (.inr rfl) ((res_one rfl (it_tmp oz)).le (Pd.le_refl _)) (pl_bnd _ _ _)
  · skip
    replace h0 := ifb_f h0 hc
    clear hc
    refine aw_skip ?_
    refine aw_keep [(0, _)] ⟨lg oz, trivial⟩ ?_
    refine aw_seq ?_
    refine aw_region (by decide) ?_
    refine rts _ rfl (opD_move oz) ?_
    refine rts _ rfl (opD_len_sl Go.Proofs.Try.underlying26 lz) ?_
    refine rts _ rfl (opD_sub lz (ev_const _ _) rfl) ?_
    refine rts _ rfl (opD_assign lz) ?_
    refine .nil ?_
    refine aw_keep [(0, _), (3, _)] ⟨lg (ls rfl (ls rfl (ls rfl (ls rfl oz)))), lg lz, trivial⟩ ?_
    refine aw_seq ?_
    refine aw_region (by decide) ?_
    refine rts _ rfl (opD_move oz) ?_
    refine rts _ rfl (opD_move (ls rfl (os rfl oz))) ?_
    replace h0 := grd_some h0
    obtain ⟨hg_1, h0⟩ := h0
    refine rts _ rfl (opD_slice_to ((IntKind.i64.wrap ((p0.length : Int) - 4)).toNat) Go.Proofs.Try.underlying26 sz5_uAb (ls rfl lz) lz hg_1.eq hg_1.2) ?_
    replace h0 := bnd_some h0
    obtain ⟨x_1, hx_1, h0⟩ := h0
    refine rts _ rfl (opD_pure ht23_uAb (c_rmore hx_1) ⟨le_of_eq (ev_const _ _), le_of_eq lz, trivial⟩) ?_
    refine rts _ rfl (opD_assign lz) ?_
    refine .nil ?_
    refine aw_keep [(0, _), (3, _), (4, _)] ⟨lg (ls rfl (ls rfl (ls rfl (ls rfl (ls rfl oz))))), lg (ls rfl (ls rfl (ls rfl (ls rfl (ls rfl (os rfl oz)))))), lg lz, trivial⟩ ?_
    refine aw_seq ?_
    refine aw_region (by decide) ?_
    refine rts _ rfl (opD_move oz) ?_
    refine rts _ rfl (opD_move (ls rfl (os rfl oz))) ?_
    replace h0 := ixb_some h0
    obtain ⟨x_2, hx_2, hbx_2, h0⟩ := h0
    refine rts _ rfl (opD_indexAddr_sl (i := (IntKind.i64.wrap ((p0.length : Int) - 4)).toNat) Go.Proofs.Try.underlying26 sz5_uAb (ls rfl lz) lz hbx_2.2.2 hbx_2.2.1) ?_
    refine rts _ rfl (opD_load_el_one ag5_uAb lz hx_2 rfl) ?_
    refine rts _ rfl (opD_move (ls rfl (ls rfl (ls rfl (ls rfl (os rfl (os rfl oz))))))) ?_
    refine rts _ rfl (opD_quo lz (ev_const _ _) (by decide) rfl) ?_
    refine rts _ rfl (opD_conv_int Go.Proofs.Try.underlying55 Go.Proofs.Try.underlying5 lz rfl) ?_
    refine rts _ rfl (opD_eql (ls rfl (ls rfl (ls rfl lz))) lz) ?_
    refine rts _ rfl (opD_move lz) ?_
    refine rtg _ rfl lz (fun hg5_9_2 => opD_move (ls rfl (ls rfl (ls rfl (ls rfl (ls rfl (ls rfl (ls rfl (ls rfl (ls rfl oz)))))))))) ?_
    refine rtg _ rfl (ls rfl lz) (fun hg5_10_3 => opD_move (ls rfl (ls rfl (ls rfl (ls rfl (ls rfl (ls rfl (ls rfl (ls rfl (ls rfl (ls rfl (os rfl oz)))))))))))) ?_
    refine rtg _ rfl (ls rfl (ls rfl lz)) (fun hg5_11_4 => opD_add (lz.trans (pif_pos hg5_11_4)) (ev_const _ _) rfl) ?_
    replace h0 := grd_some h0
    obtain ⟨hg_6, h0⟩ := h0
    refine rtg _ rfl (ls rfl (ls rfl (ls rfl lz))) (fun hg5_12_5 => opD_indexAddr_sl (i := (IntKind.i64.wrap ((IntKind.i64.wrap ((p0.length : Int) - 4)) + 1)).toNat) Go.Proofs.Try.underlying26 sz5_uAb ((ls rfl (ls rfl lz)).trans (pif_pos hg5_12_5)) (lz.trans (pif_pos hg5_12_5)) (hg_6 hg5_12_5).eq (hg_6 hg5_12_5).2) ?_
    refine rtg _ rfl (ls rfl (ls rfl (ls rfl (ls rfl lz)))) (fun hg5_13_7 => opD_load_el_one ag5_uAb (lz.trans (pif_pos hg5_13_7)) (at_getD default (hg_6 hg5_13_7).2) rfl) ?_
    refine rtg _ rfl (ls rfl (ls rfl (ls rfl (ls rfl (ls rfl lz))))) (fun hg5_14_8 => opD_move (ls rfl (ls rfl (ls rfl (ls rfl (ls rfl (ls rfl (ls rfl (ls rfl (ls rfl (ls rfl (ls rfl (ls rfl (ls rfl (ls rfl (os rfl (os rfl oz))))))))))))))))) ?_
    refine rtg _ rfl (ls rfl (ls rfl (ls rfl (ls rfl (ls rfl (ls rfl lz)))))) (fun hg5_15_9 => opD_quo (lz.trans (pif_pos hg5_15_9)) (ev_const _ _) (by decide) rfl) ?_
    refine rtg _ rfl (ls rfl (ls rfl (ls rfl (ls rfl (ls rfl (ls rfl (ls rfl lz))))))) (fun hg5_16_10 => opD_rem (lz.trans (pif_pos hg5_16_10)) (ev_const _ _) (by decide) rfl) ?_
    refine rtg _ rfl (ls rfl (ls rfl (ls rfl (ls rfl (ls rfl (ls rfl (ls rfl (ls rfl lz)))))))) (fun hg5_17_11 => opD_conv_int Go.Proofs.Try.underlying55 Go.Proofs.Try.underlying5 (lz.trans (pif_pos hg5_17_11)) rfl) ?_
    refine rtg _ rfl (ls rfl (ls rfl (ls rfl (ls rfl (ls rfl (ls rfl (ls rfl (ls rfl (ls rfl lz))))))))) (fun hg5_18_12 => opD_eql ((ls rfl (ls rfl (ls rfl (ls rfl lz)))).trans (pif_pos hg5_18_12)) (lz.trans (pif_pos hg5_18_12))) ?_
    refine rts _ rfl (opD_and (ls rfl (ls rfl (ls rfl (ls rfl (ls rfl (ls rfl (ls rfl (ls rfl (ls rfl (ls rfl lz)))))))))) lz) ?_
    refine rts _ rfl (opD_move lz) ?_
    refine rtg _ rfl lz (fun hg5_21_13 => opD_move (ls rfl (ls rfl (ls rfl (ls rfl (ls rfl (ls rfl (ls rfl (ls rfl (ls rfl (ls rfl (ls rfl (ls rfl (ls rfl (ls rfl (ls rfl (ls rfl (ls rfl (ls rfl (ls rfl (ls rfl (ls rfl oz)))))))))))))))))))))) ?_
    refine rtg _ rfl (ls rfl lz) (fun hg5_22_14 => opD_move (ls rfl (ls rfl (ls rfl (ls rfl (ls rfl (ls rfl (ls rfl (ls rfl (ls rfl (ls rfl (ls rfl (ls rfl (ls rfl (ls rfl (ls rfl (ls rfl (ls rfl (ls rfl (ls rfl (ls rfl (ls rfl (ls rfl (os rfl oz)))))))))))))))))))))))) ?_
    refine rtg _ rfl (ls rfl (ls rfl lz)) (fun hg5_23_15 => opD_add (lz.trans (pif_pos hg5_23_15)) (ev_const _ _) rfl) ?_
    replace h0 := grd_some h0
    obtain ⟨hg_17, h0⟩ := h0
    refine rtg _ rfl (ls rfl (ls rfl (ls rfl lz))) (fun hg5_24_16 => opD_indexAddr_sl (i := (IntKind.i64.wrap ((IntKind.i64.wrap ((p0.length : Int) - 4)) + 2)).toNat) Go.Proofs.Try.underlying26 sz5_uAb ((ls rfl (ls rfl lz)).trans (pif_pos hg5_24_16)) (lz.trans (pif_pos hg5_24_16)) (hg_17 hg5_24_16).eq (hg_17 hg5_24_16).2) ?_
    refine rtg _ rfl (ls rfl (ls rfl (ls rfl (ls rfl lz)))) (fun hg5_25_18 => opD_load_el_one ag5_uAb (lz.trans (pif_pos hg5_25_18)) (at_getD default (hg_17 hg5_25_18).2) rfl) ?_
    refine rtg _ rfl (ls rfl (ls rfl (ls rfl (ls rfl (ls rfl lz))))) (fun hg5_26_19 => opD_move (ls rfl (ls rfl (ls rfl (ls rfl (ls rfl (ls rfl (ls rfl (ls rfl (ls rfl (ls rfl (ls rfl (ls rfl (ls rfl (ls rfl (ls rfl (ls rfl (ls rfl (ls rfl (ls rfl (ls rfl (ls rfl (ls rfl (ls rfl (ls rfl (ls rfl (ls rfl (os rfl (os rfl oz))))))))))))))))))))))))))))) ?_
    refine rtg _ rfl (ls rfl (ls rfl (ls rfl (ls rfl (ls rfl (ls rfl lz)))))) (fun hg5_27_20 => opD_quo (lz.trans (pif_pos hg5_27_20)) (ev_const _ _) (by decide) rfl) ?_
    refine rtg _ rfl (ls rfl (ls rfl (ls rfl (ls rfl (ls rfl (ls rfl (ls rfl lz))))))) (fun hg5_28_21 => opD_rem (lz.trans (pif_pos hg5_28_21)) (ev_const _ _) (by decide) rfl) ?_
    refine rtg _ rfl (ls rfl (ls rfl (ls rfl (ls rfl (ls rfl (ls rfl (ls rfl (ls rfl lz)))))))) (fun hg5_29_22 => opD_conv_int Go.Proofs.Try.underlying55 Go.Proofs.Try.underlying5 (lz.trans (pif_pos hg5_29_22)) rfl) ?_
    refine rtg _ rfl (ls rfl (ls rfl (ls rfl (ls rfl (ls rfl (ls rfl (ls rfl (ls rfl (ls rfl lz))))))))) (fun hg5_30_23 => opD_eql ((ls rfl (ls rfl (ls rfl (ls rfl lz)))).trans (pif_pos hg5_30_23)) (lz.trans (pif_pos hg5_30_23))) ?_
    refine rts _ rfl (opD_and (ls rfl (ls rfl (ls rfl (ls rfl (ls rfl (ls rfl (ls rfl (ls rfl (ls rfl (ls rfl lz)))))))))) lz) ?_
    refine rts _ rfl (opD_move lz) ?_
    refine rtg _ rfl lz (fun hg5_33_24 => opD_move (ls rfl (ls rfl (ls rfl (ls rfl (ls rfl (ls rfl (ls rfl (ls rfl (ls rfl (ls rfl (ls rfl (ls rfl (ls rfl (ls rfl (ls rfl (ls rfl (ls rfl (ls rfl (ls rfl (ls rfl (ls rfl (ls rfl (ls rfl (ls rfl (ls rfl (ls rfl (ls rfl (ls rfl (ls rfl (ls rfl (ls rfl (ls rfl (ls rfl oz)))))))))))))))))))))))))))))))))) ?_
    refine rtg _ rfl (ls rfl lz) (fun hg5_34_25 => opD_move (ls rfl (ls rfl (ls rfl (ls rfl (ls rfl (ls rfl (ls rfl (ls rfl (ls rfl (ls rfl (ls rfl (ls rfl (ls rfl (ls rfl (ls rfl (ls rfl (ls rfl (ls rfl (ls rfl (ls rfl (ls rfl (ls rfl (ls rfl (ls rfl (ls rfl (ls rfl (ls rfl (ls rfl (ls rfl (ls rfl (ls rfl (ls rfl (ls rfl (ls rfl (os rfl oz)))))))))))))))))))))))))))))))))))) ?_
    refine rtg _ rfl (ls rfl (ls rfl lz)) (fun hg5_35_26 => opD_add (lz.trans (pif_pos hg5_35_26)) (ev_const _ _) rfl) ?_
    replace h0 := grd_some h0
    obtain ⟨hg_28, h0⟩ := h0
    refine rtg _ rfl (ls rfl (ls rfl (ls rfl lz))) (fun hg5_36_27 => opD_indexAddr_sl (i := (IntKind.i64.wrap ((IntKind.i64.wrap ((p0.length : Int) - 4)) + 3)).toNat) Go.Proofs.Try.underlying26 sz5_uAb ((ls rfl (ls rfl lz)).trans (pif_pos hg5_36_27)) (lz.trans (pif_pos hg5_36_27)) (hg_28 hg5_36_27).eq (hg_28 hg5_36_27).2) ?_
    refine rtg _ rfl (ls rfl (ls rfl (ls rfl (ls rfl lz)))) (fun hg5_37_29 => opD_load_el_one ag5_uAb (lz.trans (pif_pos hg5_37_29)) (at_getD default (hg_28 hg5_37_29).2) rfl) ?_
    refine rtg _ rfl (ls rfl (ls rfl (ls rfl (ls rfl (ls rfl lz))))) (fun hg5_38_30 => opD_move (ls rfl (ls rfl (ls rfl (ls rfl (ls rfl (ls rfl (ls rfl (ls rfl (ls rfl (ls rfl (ls rfl (ls rfl (ls rfl (ls rfl (ls rfl (ls rfl (ls rfl (ls rfl (ls rfl (ls rfl (ls rfl (ls rfl (ls rfl (ls rfl (ls rfl (ls rfl (ls rfl (ls rfl (ls rfl (ls rfl (ls rfl (ls rfl (ls rfl (ls rfl (ls rfl (ls rfl (ls rfl (ls rfl (os rfl (os rfl oz))))))))))))))))))))))))))))))))))))))))) ?_
    refine rtg _ rfl (ls rfl (ls rfl (ls rfl (ls rfl (ls rfl (ls rfl lz)))))) (fun hg5_39_31 => opD_rem (lz.trans (pif_pos hg5_39_31)) (ev_const _ _) (by decide) rfl) ?_
    refine rtg _ rfl (ls rfl (ls rfl (ls rfl (ls rfl (ls rfl (ls rfl (ls rfl lz))))))) (fun hg5_40_32 => opD_conv_int Go.Proofs.Try.underlying55 Go.Proofs.Try.underlying5 (lz.trans (pif_pos hg5_40_32)) rfl) ?_
    refine rtg _ rfl (ls rfl (ls rfl (ls rfl (ls rfl (ls rfl (ls rfl (ls rfl (ls rfl lz)))))))) (fun hg5_41_33 => opD_eql ((ls rfl (ls rfl (ls rfl lz))).trans (pif_pos hg5_41_33)) (lz.trans (pif_pos hg5_41_33))) ?_
    refine rts _ rfl (opD_and (ls rfl (ls rfl (ls rfl (ls rfl (ls rfl (ls rfl (ls rfl (ls rfl (ls rfl lz))))))))) lz) ?_
    refine rts _ rfl (opD_assign lz) ?_
    refine .nil ?_
    refine aw_keep [(2, _)] ⟨lg lz, trivial⟩ ?_
    refine aw_ret ?_
    obtain rfl := some_of h0
    exact done_ext (.inr rfl) ((res_one rfl (it_tmp oz)).le (Pd.le_refl _)) (pl_bnd _ _ _)

def F_ropen_b0 (p0 : (List Int)) (t_6 : Int) : Option ((Int) ⊕ ((Int × (List Int) × Int) ⊕ (Unit))) :=
  ifb (decide (t_6 < 508)) (ixb p0 t_6 fun x_8 => ifb (decide (x_8 ≠ 0)) (some (.inr (.inl (0, [], 3)))) (some (.inl (IntKind.i64.wrap (t_6 + 1))))) (some (.inr (.inr ())))
def F_ropen (fl : Nat) (p0 : (List Int)) : Option (Int × (List Int) × Int) :=
  ifb (decide ((p0.length : Int) ≠ 512)) (some (0, [], 3)) (bnd (F_ris fl p0) fun x_1 => ifb (!x_1) (some (0, [], 4)) (ixb p0 2 fun x_2 => ixb p0 3 fun x_3 => ixb p0 0 fun x_4 => grd (((decide (x_4 < 1)) == false) = true → Below 0 p0.length) <| grd ((((decide (x_4 < 1)) || (decide (5 < (p0.getD (0 : Int).toNat default)))) == false) = true → Below 1 p0.length) <| ifb ((((decide (x_4 < 1)) || (decide (5 < (p0.getD (0 : Int).toNat default)))) || (decide ((p0.getD (1 : Int).toNat default) ≠ 0))) || (decide (504 < (IntKind.i64.wrap ((IntKind.i64.wrap (256 * (IntKind.i64.wrap (x_2)))) + (IntKind.i64.wrap (x_3))))))) (some (0, [], 3)) (bnd (lp (F_ropen_b0 p0) fl (IntKind.i64.wrap (4 + (IntKind.i64.wrap ((IntKind.i64.wrap (256 * (IntKind.i64.wrap (x_2)))) + (IntKind.i64.wrap (x_3))))))) fun z_5 => ocs z_5 (fun qz_5_0 => some qz_5_0) fun z_5_0 => ixb p0 0 fun x_9 => grd (Btw 4 (IntKind.i64.wrap (4 + (IntKind.i64.wrap ((IntKind.i64.wrap (256 * (IntKind.i64.wrap (x_2)))) + (IntKind.i64.wrap (x_3)))))) p0.length) <| some (x_9, ((p0.take ((IntKind.i64.wrap (4 + (IntKind.i64.wrap ((IntKind.i64.wrap (256 * (IntKind.i64.wrap (x_2)))) + (IntKind.i64.wrap (x_3)))))).toNat)).drop ((4 : Int).toNat)), 0))))
set_option maxRecDepth 100000 in
set_option maxHeartbeats 2000000 in
theorem c_ropen {fl : Nat} {p0 : (List Int)} {R : Int × (List Int) × Int} (h0 : F_ropen fl p0 = some R) : Pure Go.Proofs.Try.prog 20 [sl (kI .u8) none none p0] (tup [pl (.int .u8 R.1), sl (kI .u8) none none R.2.1, pl (.int .i64 R.2.2)]) := by
  intro s
  unfold F_ropen at h0
  refine ac_of_aw s.boxes.length s.fr.length Go.Proofs.Try.func20 rfl (by simp [Go.Proofs.Try.ntmps20]) ?_
  refine aw_ext0 ?_
  refine aw_keep [(0, _)] ⟨lg ez, trivial⟩ ?_
  refine aw_seq ?_
  refine aw_region (by decide) ?_
  refine rts _ rfl (opD_assign (ev_const _ _)) ?_
  refine rts _ rfl (opD_assign (ev_const _ _)) ?_
  refine rts _ rfl (opD_assign (ev_const _ _)) ?_
  refine .nil ?_
  refine aw_keep [(0, _)] ⟨lg (ls rfl (ls rfl (ls rfl oz))), trivial⟩ ?_
  refine aw_seq ?_
  refine aw_seq ?_
  refine aw_region (by decide) ?_
  refine rts _ rfl (opD_move oz) ?_
  refine rts _ rfl (opD_len_sl Go.Proofs.Try.underlying26 lz) ?_
  refine rts _ rfl (opD_neq lz (ev_const _ _)) ?_
  refine .nil ?_
  refine aw_keep [(0, _), (9, _)] ⟨lg (ls rfl (ls rfl (ls rfl oz))), lg lz, trivial⟩ ?_
  refine aw_cond _ (os rfl oz) (fun hc => ?_) (fun hc => ?_)
  · skip
    replace h0 := ifb_t h0 hc
    clear hc
    refine aw_seq ?_
    refine aw_region (by decide) ?_
    refine rts _ rfl (opD_assign (ev_const _ _)) ?_
    refine rts _ rfl (opD_assign (ev_const _ _)) ?_
    refine rts _ rfl (opD_assign (ev_const _ _)) ?_
    refine .nil ?_
    refine aw_keep [(2, _), (3, _), (4, _)] ⟨lg (ls rfl (ls rfl lz)), lg (ls rfl lz), lg lz, trivial⟩ ?_
    refine aw_ret ?_
    obtain rfl := some_of h0
    exact done_ext (.inr rfl) ((res_list (rs := [_, _, _]) (ps := [_, _, _]) rfl rfl ⟨it_tmp oz, it_tmp (os rfl oz), it_tmp (os rfl (os rfl oz)), trivial⟩).le (tup_le ⟨(Pd.le_refl _), (le_nil rfl), (Pd.le_refl _), trivial⟩)) (tup_bnd (bnd_cons (pl_bnd _ _ _) (bnd_cons (sl_b (kb_I _)) (bnd_cons (pl_bnd _ _ _) bnd_nil))))
  · skip
    replace h0 := ifb_f h0 hc
    clear hc
    refine aw_skip ?_
    refine aw_keep [(0, _)] ⟨lg oz, trivial⟩ ?_
    refine aw_seq ?_
    refine aw_seq ?_
    refine aw_region (by decide) ?_
    refine rts _ rfl (opD_move oz) ?_
    replace h0 := bnd_some h0
    obtain ⟨x_1, hx_1, h0⟩ := h0
    refine rts _ rfl (opD_pure ht29_uAb (c_ris hx_1) ⟨le_of_eq lz, trivial⟩) ?_
    refine rts _ rfl (opD_not lz) ?_
    refine .nil ?_
    refine aw_keep [(0, _), (12, _)] ⟨lg (ls rfl (ls rfl (ls rfl oz))), lg lz, trivial⟩ ?_
    refine aw_cond _ (os rfl oz) (fun hc => ?_) (fun hc => ?_)
    · skip
      replace h0 := ifb_t h0 hc
      clear hc
      refine aw_seq ?_
      refine aw_region (by decide) ?_
      refine rts _ rfl (opD_assign (ev_const _ _)) ?_
      refine rts _ rfl (opD_assign (ev_const _ _)) ?_
      refine rts _ rfl (opD_assign (ev_const _ _)) ?_
      refine .nil ?_
      refine aw_keep [(2, _), (3, _), (4, _)] ⟨lg (ls rfl (ls rfl lz)), lg (ls rfl lz), lg lz, trivial⟩ ?_
      refine aw_ret ?_
      obtain rfl := some_of h0
      exact done_ext (.inr rfl) ((res_list (rs := [_, _, _]) (ps := [_, _, _]) rfl rfl ⟨it_tmp oz, it_tmp (os rfl oz), it_tmp (os rfl (os rfl oz)), trivial⟩).le (tup_le ⟨(Pd.le_refl _), (le_nil rfl), (Pd.le_refl _), trivial⟩)) (tup_bnd (bnd_cons (pl_bnd _ _ _) (bnd_cons (sl_b (kb_I _)) (bnd_cons (pl_bnd _ _ _) bnd_nil))))
    · skip
      replace h0 := ifb_f h0 hc
      clear hc
      refine aw_skip ?_
      refine aw_keep [(0, _)] ⟨lg oz, trivial⟩ ?_
      refine aw_seq ?_
      refine aw_flat mixed_uAb (by decide +kernel) ?_
      refine zts _ rfl (opD_move oz) ?_
      replace h0 := ixb_some h0
      obtain ⟨x_2, hx_2, hbx_2, h0⟩ := h0
      refine zts _ rfl (opD_indexAddr_sl (i := (2 : Int).toNat) Go.Proofs.Try.underlying26 sz5_uAb lz (ev_const _ _) hbx_2.2.2 hbx_2.2.1) ?_
      refine zts _ rfl (opD_load_el_one ag5_uAb lz hx_2 rfl) ?_
      refine zts _ rfl (opD_conv_int Go.Proofs.Try.underlying5 Go.Proofs.Try.underlying3 lz rfl) ?_
      refine zts _ rfl (opD_mul (ev_const _ _) lz rfl) ?_
      refine zts _ rfl (opD_move (ls rfl (ls rfl (ls rfl (ls rfl (ls rfl oz)))))) ?_
      replace h0 := ixb_some h0
      obtain ⟨x_3, hx_3, hbx_3, h0⟩ := h0
      refine zts _ rfl (opD_indexAddr_sl (i := (3 : Int).toNat) Go.Proofs.Try.underlying26 sz5_uAb lz (ev_const _ _) hbx_3.2.2 hbx_3.2.1) ?_
      refine zts _ rfl (opD_load_el_one ag5_uAb lz hx_3 rfl) ?_
      refine zts _ rfl (opD_conv_int Go.Proofs.Try.underlying5 Go.Proofs.Try.underlying3 lz rfl) ?_
      refine zts _ rfl (opD_add (ls rfl (ls rfl (ls rfl (ls rfl lz)))) lz rfl) ?_
      refine zts _ rfl (opD_assign lz) ?_
      refine .nil ?_
      refine aw_keep [(0, _), (5, _)] ⟨lg (ls rfl (ls rfl (ls rfl (ls rfl (ls rfl (ls rfl (ls rfl (ls rfl (ls rfl (ls rfl (ls rfl oz))))))))))), lg lz, trivial⟩ ?_
      refine aw_seq ?_
      refine aw_seq ?_
      refine aw_region (by decide) ?_
      refine rts _ rfl (opD_move oz) ?_
      replace h0 := ixb_some h0
      obtain ⟨x_4, hx_4, hbx_4, h0⟩ := h0
      refine rts _ rfl (opD_indexAddr_sl (i := (0 : Int).toNat) Go.Proofs.Try.underlying26 sz5_uAb lz (ev_const _ _) hbx_4.2.2 hbx_4.2.1) ?_
      refine rts _ rfl (opD_load_el_one ag5_uAb lz hx_4 rfl) ?_
      refine rts _ rfl (opD_lss lz (ev_const _ _)) ?_
      refine rts _ rfl (opD_move lz) ?_
      refine rtg _ rfl lz (fun hg6_5_1 => opD_move (ls rfl (ls rfl (ls rfl (ls rfl (ls rfl oz)))))) ?_
      replace h0 := grd_some h0
      obtain ⟨hg_3, h0⟩ := h0
      refine rtg _ rfl (ls rfl lz) (fun hg6_6_2 => opD_indexAddr_sl (i := (0 : Int).toNat) Go.Proofs.Try.underlying26 sz5_uAb (lz.trans (pif_pos hg6_6_2)) (ev_const _ _) (hg_3 hg6_6_2).eq (hg_3 hg6_6_2).2) ?_
      refine rtg _ rfl (ls rfl (ls rfl lz)) (fun hg6_7_4 => opD_load_el_one ag5_uAb (lz.trans (pif_pos hg6_7_4)) (at_getD default (hg_3 hg6_7_4).2) rfl) ?_
      refine rtg _ rfl (ls rfl (ls rfl (ls rfl lz))) (fun hg6_8_5 => opD_gtr (lz.trans (pif_pos hg6_8_5)) (ev_const _ _)) ?_
      refine rts _ rfl (opD_or (ls rfl (ls rfl (ls rfl (ls rfl lz)))) lz) ?_
      refine rts _ rfl (opD_move lz) ?_
      refine rtg _ rfl lz (fun hg6_11_6 => opD_move (ls rfl (ls rfl (ls rfl (ls rfl (ls rfl (ls rfl (ls rfl (ls rfl (ls rfl (ls rfl (ls rfl oz)))))))))))) ?_
      replace h0 := grd_some h0
      obtain ⟨hg_8, h0⟩ := h0
      refine rtg _ rfl (ls rfl lz) (fun hg6_12_7 => opD_indexAddr_sl (i := (1 : Int).toNat) Go.Proofs.Try.underlying26 sz5_uAb (lz.trans (pif_pos hg6_12_7)) (ev_const _ _) (hg_8 hg6_12_7).eq (hg_8 hg6_12_7).2) ?_
      refine rtg _ rfl (ls rfl (ls rfl lz)) (fun hg6_13_9 => opD_load_el_one ag5_uAb (lz.trans (pif_pos hg6_13_9)) (at_getD default (hg_8 hg6_13_9).2) rfl) ?_
      refine rtg _ rfl (ls rfl (ls rfl (ls rfl lz))) (fun hg6_14_10 => opD_neq (lz.trans (pif_pos hg6_14_10)) (ev_const _ _)) ?_
      refine rts _ rfl (opD_or (ls rfl (ls rfl (ls rfl (ls rfl lz)))) lz) ?_
      refine rts _ rfl (opD_move lz) ?_
      refine rtg _ rfl lz (fun hg6_17_11 => opD_move (ls rfl (ls rfl (ls rfl (ls rfl (ls rfl (ls rfl (ls rfl (ls rfl (ls rfl (ls rfl (ls rfl (ls rfl (ls rfl (ls rfl (ls rfl (ls rfl (ls rfl (os rfl oz))))))))))))))))))) ?_
      refine rtg _ rfl (ls rfl lz) (fun hg6_18_12 => opD_gtr (lz.trans (pif_pos hg6_18_12)) (ev_const _ _)) ?_
      refine rts _ rfl (opD_or (ls rfl (ls rfl lz)) lz) ?_
      refine .nil ?_
      refine aw_keep [(0, _), (5, _), (42, _)] ⟨lg (ls rfl (ls rfl (ls rfl (ls rfl (ls rfl (ls rfl (ls rfl (ls rfl (ls rfl (ls rfl (ls rfl (ls rfl (ls rfl (ls rfl (ls rfl (ls rfl (ls rfl (ls rfl (ls rfl (ls rfl oz)))))))))))))))))))), lg (ls rfl (ls rfl (ls rfl (ls rfl (ls rfl (ls rfl (ls rfl (ls rfl (ls rfl (ls rfl (ls rfl (ls rfl (ls rfl (ls rfl (ls rfl (ls rfl (ls rfl (ls rfl (ls rfl (ls rfl (os rfl oz))))))))))))))))))))), lg lz, trivial⟩ ?_
      refine aw_cond _ (os rfl (os rfl oz)) (fun hc => ?_) (fun hc => ?_)
      · skip
        replace h0 := ifb_t h0 hc
        clear hc
        refine aw_seq ?_
        refine aw_region (by decide) ?_
        refine rts _ rfl (opD_assign (ev_const _ _)) ?_
        refine rts _ rfl (opD_assign (ev_const _ _)) ?_
        refine rts _ rfl (opD_assign (ev_const _ _)) ?_
        refine .nil ?_
        refine aw_keep [(2, _), (3, _), (4, _)] ⟨lg (ls rfl (ls rfl lz)), lg (ls rfl lz), lg lz, trivial⟩ ?_
        refine aw_ret ?_
        obtain rfl := some_of h0
        exact done_ext (.inr rfl) ((res_list (rs := [_, _, _]) (ps := [_, _, _]) rfl rfl ⟨it_tmp oz, it_tmp (os rfl oz), it_tmp (os rfl (os rfl oz)), trivial⟩).le (tup_le ⟨(Pd.le_refl _), (le_nil rfl), (Pd.le_refl _), trivial⟩)) (tup_bnd (bnd_cons (pl_bnd _ _ _) (bnd_cons (sl_b (kb_I _)) (bnd_cons (pl_bnd _ _ _) bnd_nil))))
      · skip
        replace h0 := ifb_f h0 hc
        clear hc
        refine aw_skip ?_
        refine aw_keep [(0, _), (5, _)] ⟨lg oz, lg (os rfl oz), trivial⟩ ?_
        refine aw_seq ?_
        refine aw_seq ?_
        refine aw_region (by decide) ?_
        refine rts _ rfl (opD_move (os rfl oz)) ?_
        refine rts _ rfl (opD_add (ev_const _ _) lz rfl) ?_
        refine rts _ rfl (opD_assign lz) ?_
        refine .nil ?_
        refine aw_keep [(0, _), (5, _), (6, _)] ⟨lg (ls rfl (ls rfl (ls rfl oz))), lg (ls rfl (ls rfl (ls rfl (os rfl oz)))), lg lz, trivial⟩ ?_
        replace h0 := bnd_some h0
        obtain ⟨z_5, hz_5, h0⟩ := h0
        refine aw_mid (fun e st => ∃ v : Unit, Holds e [(0, sl (kI .u8) none none p0), (5, pl (.int .i64 (IntKind.i64.wrap ((IntKind.i64.wrap (256 * (IntKind.i64.wrap (x_2)))) + (IntKind.i64.wrap (x_3))))))] ∧ st = s.ext [] [] ∧ (.inr v) = z_5) ?_ ?_
        · skip
          refine aw_wkN rfl 0 0 rfl rfl ?_
          refine aw_block ?_
          refine aw_loop (fun n e st => ∃ v : Int, Holds e [(0, sl (kI .u8) none none p0), (5, pl (.int .i64 (IntKind.i64.wrap ((IntKind.i64.wrap (256 * (IntKind.i64.wrap (x_2)))) + (IntKind.i64.wrap (x_3)))))), (6, pl (.int .i64 v))] ∧ st = s.ext [] [] ∧ lp (F_ropen_b0 p0) n v = some z_5) fl ⟨IntKind.i64.wrap (4 + (IntKind.i64.wrap ((IntKind.i64.wrap (256 * (IntKind.i64.wrap (x_2)))) + (IntKind.i64.wrap (x_3))))), ⟨le_of_eq (eg oz), le_of_eq (eg (os rfl oz)), le_of_eq (eg (os rfl (os rfl oz))), trivial⟩, rfl, hz_5⟩ ?_
          rintro n e st ⟨t_6, hH, rfl, hz_5⟩
          replace hz_5 := lp_some hz_5
          obtain ⟨m_z_7, z_7, rfl, hz_7, hz_5⟩ := hz_5
          unfold F_ropen_b0 at hz_7
          refine aw_keep _ hH ?_
          refine aw_wkN rfl 0 0 rfl rfl ?_
          refine aw_seq ?_
          refine aw_seq ?_
          refine aw_region (by decide) ?_
          refine rts _ rfl (opD_move (os rfl (os rfl oz))) ?_
          refine rts _ rfl (opD_lss lz (ev_const _ _)) ?_
          refine .nil ?_
          refine aw_keep [(0, _), (5, _), (6, _), (46, _)] ⟨lg (ls rfl (ls rfl oz)), lg (ls rfl (ls rfl (os rfl oz))), lg (ls rfl (ls rfl (os rfl (os rfl oz)))), lg lz, trivial⟩ ?_
          refine aw_cond _ (os rfl (os rfl (os rfl oz))) (fun hc => ?_) (fun hc => ?_)
          · skip
            replace hz_7 := ifb_t hz_7 hc
            clear hc
            refine aw_skip ?_
            refine aw_keep [(0, _), (5, _), (6, _)] ⟨lg oz, lg (os rfl oz), lg (os rfl (os rfl oz)), trivial⟩ ?_
            refine aw_seq ?_
            refine aw_block ?_
            refine aw_seq ?_
            refine aw_region (by decide) ?_
            refine rts _ rfl (opD_move oz) ?_
            refine rts _ rfl (opD_move (ls rfl (os rfl (os rfl oz)))) ?_
            replace hz_7 := ixb_some hz_7
            obtain ⟨x_8, hx_8, hbx_8, hz_7⟩ := hz_7
            refine rts _ rfl (opD_indexAddr_sl (i := t_6.toNat) Go.Proofs.Try.underlying26 sz5_uAb (ls rfl lz) lz hbx_8.2.2 hbx_8.2.1) ?_
            refine rts _ rfl (opD_load_el_one ag5_uAb lz hx_8 rfl) ?_
            refine rts _ rfl (opD_neq lz (ev_const _ _)) ?_
            refine .nil ?_
            refine aw_keep [(0, _), (5, _), (6, _), (53, _)] ⟨lg (ls rfl (ls rfl (ls rfl (ls rfl (ls rfl oz))))), lg (ls rfl (ls rfl (ls rfl (ls rfl (ls rfl (os rfl oz)))))), lg (ls rfl (ls rfl (ls rfl (ls rfl (ls rfl (os rfl (os rfl oz))))))), lg lz, trivial⟩ ?_
            refine aw_cond _ (os rfl (os rfl (os rfl oz))) (fun hc => ?_) (fun hc => ?_)
            · skip
              replace hz_7 := ifb_t hz_7 hc
              clear hc
              refine aw_seq ?_
              refine aw_region (by decide) ?_
              refine rts _ rfl (opD_assign (ev_const _ _)) ?_
              refine rts _ rfl (opD_assign (ev_const _ _)) ?_
              refine rts _ rfl (opD_assign (ev_const _ _)) ?_
              refine .nil ?_
              refine aw_keep [(2, _), (3, _), (4, _)] ⟨lg (ls rfl (ls rfl lz)), lg (ls rfl lz), lg lz, trivial⟩ ?_
              refine aw_ret ?_
              obtain rfl := some_of hz_7
              replace hz_5 := ocs_r hz_5
              obtain rfl := some_of hz_5
              replace h0 := ocs_l h0
              refine wk_no ?_
              refine wk_no ?_
              obtain rfl := some_of h0
              exact done_ext (.inr rfl) ((res_list (rs := [_, _, _]) (ps := [_, _, _]) rfl rfl ⟨it_tmp oz, it_tmp (os rfl oz), it_tmp (os rfl (os rfl oz)), trivial⟩).le (tup_le ⟨(Pd.le_refl _), (le_nil rfl), (Pd.le_refl _), trivial⟩)) (tup_bnd (bnd_cons (pl_bnd _ _ _) (bnd_cons (sl_b (kb_I _)) (bnd_cons (pl_bnd _ _ _) bnd_nil))))
            · skip
              replace hz_7 := ifb_f hz_7 hc
              clear hc
              refine aw_skip ?_
              refine aw_keep [(0, _), (5, _), (6, _)] ⟨lg oz, lg (os rfl oz), lg (os rfl (os rfl oz)), trivial⟩ ?_
              refine aw_region (by decide) ?_
              refine rts _ rfl (opD_move (os rfl (os rfl oz))) ?_
              refine rts _ rfl (opD_add lz (ev_const _ _) rfl) ?_
              refine rts _ rfl (opD_assign lz) ?_
              refine .nil ?_
              obtain rfl := some_of hz_7
              replace hz_5 := ocs_l hz_5
              refine wk_yesN rfl (l := [(0, sl (kI .u8) none none p0), (5, pl (.int .i64 (IntKind.i64.wrap ((IntKind.i64.wrap (256 * (IntKind.i64.wrap (x_2)))) + (IntKind.i64.wrap (x_3)))))), (6, pl (.int .i64 (IntKind.i64.wrap (t_6 + 1))))]) (bs' := []) ⟨le_of_eq (eg (ls rfl (ls rfl (ls rfl oz)))), le_of_eq (eg (ls rfl (ls rfl (ls rfl (os rfl oz))))), le_of_eq (eg lz), trivial⟩ (bnd_cons (sl_b (kb_I _)) (bnd_cons (pl_bnd _ _ _) (bnd_cons (pl_bnd _ _ _) bnd_nil))) (Nat.le_of_ble_eq_true rfl) (by simp only [na, nb, nc, nd, nf, ng, nh, ni, nj, nk] <;> rfl) bxle_nil rfl (by simp only [na, nb, nc, nd, nf, ng, nh, ni, nj, nk] <;> rfl) bl_nil ?_
              exact ⟨m_z_7, Nat.lt_succ_self _, IntKind.i64.wrap (t_6 + 1), ⟨le_of_eq (eg oz), le_of_eq (eg (os rfl oz)), le_of_eq (eg (os rfl (os rfl oz))), trivial⟩, rfl, hz_5⟩
          · skip
            replace hz_7 := ifb_f hz_7 hc
            clear hc
            refine aw_exit ?_
            obtain rfl := some_of hz_7
            replace hz_5 := ocs_r hz_5
            refine wk_no ?_
            refine wk_yesN rfl (l := [(0, sl (kI .u8) none none p0), (5, pl (.int .i64 (IntKind.i64.wrap ((IntKind.i64.wrap (256 * (IntKind.i64.wrap (x_2)))) + (IntKind.i64.wrap (x_3))))))]) (bs' := []) ⟨le_of_eq (eg oz), le_of_eq (eg (os rfl oz)), trivial⟩ (bnd_cons (sl_b (kb_I _)) (bnd_cons (pl_bnd _ _ _) bnd_nil)) (Nat.le_of_ble_eq_true rfl) (by simp only [na, nb, nc, nd, nf, ng, nh, ni, nj, nk] <;> rfl) bxle_nil rfl (by simp only [na, nb, nc, nd, nf, ng, nh, ni, nj, nk] <;> rfl) bl_nil ?_
            exact ⟨(), ⟨le_of_eq (eg oz), le_of_eq (eg (os rfl oz)), trivial⟩, rfl, some_of hz_5⟩
        · rintro e st ⟨vz_5, hH, rfl, rfl⟩
          refine aw_keep _ hH ?_
          replace h0 := ocs_r h0
          refine aw_keep [(0, _), (5, _)] ⟨lg oz, lg (os rfl oz), trivial⟩ ?_
          refine aw_seq ?_
          refine aw_flat mixed_uAb (by decide +kernel) ?_
          refine zts _ rfl (opD_move oz) ?_
          replace h0 := ixb_some h0
          obtain ⟨x_9, hx_9, hbx_9, h0⟩ := h0
          refine zts _ rfl (opD_indexAddr_sl (i := (0 : Int).toNat) Go.Proofs.Try.underlying26 sz5_uAb lz (ev_const _ _) hbx_9.2.2 hbx_9.2.1) ?_
          refine zts _ rfl (opD_load_el_one ag5_uAb lz hx_9 rfl) ?_
          refine zts _ rfl (opD_move (ls rfl (ls rfl (ls rfl oz)))) ?_
          refine zts _ rfl (opD_move (ls rfl (ls rfl (ls rfl (ls rfl (os rfl oz)))))) ?_
          refine zts _ rfl (opD_add (ev_const _ _) lz rfl) ?_
          replace h0 := grd_some h0
          obtain ⟨hg_14, h0⟩ := h0
          refine zts _ rfl (opD_slice_ij ((4 : Int).toNat) ((IntKind.i64.wrap (4 + (IntKind.i64.wrap ((IntKind.i64.wrap (256 * (IntKind.i64.wrap (x_2)))) + (IntKind.i64.wrap (x_3)))))).toNat) Go.Proofs.Try.underlying26 sz5_uAb (ls rfl (ls rfl lz)) (ev_const _ _) lz hg_14.eq1 hg_14.eq2 hg_14.le hg_14.2.2) ?_
          refine zts _ rfl (opD_assign (ls rfl (ls rfl (ls rfl (ls rfl lz))))) ?_
          refine zts _ rfl (opD_assign (ls rfl lz)) ?_
          refine zts _ rfl (opD_assign (ev_const _ _)) ?_
          refine .nil ?_
          refine aw_keep [(2, _), (3, _), (4, _)] ⟨lg (ls rfl (ls rfl lz)), lg (ls rfl lz), lg lz, trivial⟩ ?_
          refine aw_ret ?_
          obtain rfl := some_of h0
          exact done_ext (.inr rfl) ((res_list (rs := [_, _, _]) (ps := [_, _, _]) rfl rfl ⟨it_tmp oz, it_tmp (os rfl oz), it_tmp (os rfl (os rfl oz)), trivial⟩).le (tup_le ⟨(Pd.le_refl _), (Pd.le_refl _), (Pd.le_refl _), trivial⟩)) (tup_bnd (bnd_cons (pl_bnd _ _ _) (bnd_cons (sl_b (kb_I _)) (bnd_cons (pl_bnd _ _ _) bnd_nil))))

def F_rof_b1 (t_2 : Int × (List Bool)) (t_7 : Int × Int) : Option ((Int × Int) ⊕ ((Int))) :=
  ifb (decide (t_7.2 < (t_2.1.tmod 64))) (some (.inl (IntKind.u64.wrap (t_7.1.tdiv 2), IntKind.i64.wrap (t_7.2 + 1)))) (some (.inr t_7.1))
def F_rof_b0 (fl : Nat) (p0 : (List Int)) (t_2 : Int × (List Bool)) : Option ((Int × (List Bool)) ⊕ (((List Bool)))) :=
  ifb (decide (t_2.1 < 1024)) (bnd (grd (Below (IntKind.i64.wrap (t_2.1.tdiv 64)) 16) <| ixb p0 (((IntKind.i64.wrap (t_2.1.tdiv 64)).toNat : Nat) : Int) fun x_5 => bnd (lp (F_rof_b1 t_2) fl (x_5, 0)) fun z_6 => grd (Below t_2.1 1024) <| grd (Below ((t_2.1.toNat : Nat) : Int) t_2.2.length) <| some (t_2.2.set t_2.1.toNat (decide ((z_6.tmod 2) = 1)))) fun z_4 => some (.inl (IntKind.i64.wrap (t_2.1 + 1), z_4))) (some (.inr t_2.2))
def F_rof (fl : Nat) (p0 : (List Int)) : Option ((List Bool)) :=
  bnd (lp (F_rof_b0 fl p0) fl (0, (List.replicate 1024 (false : Bool)))) fun z_1 => grd (z_1.length = 1024) <| grd ((List.replicate 1024 (false : Bool)).length = 1024) <| grd (z_1.length = 1024) <| grd (z_1.length = 1024) <| some z_1
set_option maxRecDepth 100000 in
set_option maxHeartbeats 2000000 in
theorem c_rof {fl : Nat} {p0 : (List Int)} {R : (List Bool)} (h0 : F_rof fl p0 = some R) : Pure Go.Proofs.Try.prog 16 [agg (flat (kI .u64) p0)] (agg (flat kB R)) := by
  intro s
  unfold F_rof at h0
  refine ac_of_aw s.boxes.length s.fr.length Go.Proofs.Try.func16 rfl (by simp [Go.Proofs.Try.ntmps16]) ?_
  refine aw_ext0 ?_
  refine aw_keep [(0, _)] ⟨lg ez, trivial⟩ ?_
  refine aw_seq ?_
  refine aw_region (by decide) ?_
  refine rts _ rfl (boxFN (k := kI .u64) (l := p0) rfl oz rfl (kb_I _) (by first | exact List.length_nil | (simp only [List.length_cons, List.length_nil, Nat.zero_add, Nat.reduceAdd] <;> rfl)) (by simp only [na, nb, nc, nd, nf, ng, nh, ni, nj, nk] <;> rfl)) ?_
  refine rts _ rfl (allocFN (k := kB) (x0 := false) (z := .bool false) (m := 1024) rfl (by kernel_rfl) rfl (by first | exact List.length_nil | (simp only [List.length_cons, List.length_nil, Nat.zero_add, Nat.reduceAdd] <;> rfl)) (by simp only [na, nb, nc, nd, nf, ng, nh, ni, nj, nk] <;> rfl)) ?_
  refine .nil ?_
  refine aw_keep [(1, _), (2, _)] ⟨lg (ls rfl lz), lg lz, trivial⟩ ?_
  refine aw_seq ?_
  refine aw_region (by decide) ?_
  refine rts _ rfl (allocFN (k := kB) (x0 := false) (z := .bool false) (m := 1024) rfl (by kernel_rfl) rfl (by first | exact List.length_nil | (simp only [List.length_cons, List.length_nil, Nat.zero_add, Nat.reduceAdd] <;> rfl)) (by simp only [na, nb, nc, nd, nf, ng, nh, ni, nj, nk] <;> rfl)) ?_
  refine .nil ?_
  refine aw_keep [(1, _), (2, _), (3, _)] ⟨lg (ls rfl oz), lg (ls rfl (os rfl oz)), lg lz, trivial⟩ ?_
  refine aw_seq ?_
  refine aw_seq ?_
  refine aw_region (by decide) ?_
  refine rts _ rfl (opD_assign (ev_const _ _)) ?_
  refine .nil ?_
  refine aw_keep [(1, _), (2, _), (3, _), (4, _)] ⟨lg (ls rfl oz), lg (ls rfl (os rfl oz)), lg (ls rfl (os rfl (os rfl oz))), lg lz, trivial⟩ ?_
  replace h0 := bnd_some h0
  obtain ⟨z_1, hz_1, h0⟩ := h0
  refine aw_mid (fun e st => ∃ v : (List Bool), Holds e [(2, ptr (s.boxes.length + 1) 0), (3, ptr (s.boxes.length + 2) 0)] ∧ st = s.ext [⟨24, (flat (kI .u64) p0)⟩, ⟨43, (flat kB (List.replicate 1024 (false : Bool)))⟩, ⟨43, (flat kB v)⟩] [] ∧ v = z_1) ?_ ?_
  · skip
    refine aw_wkN rfl 3 0 rfl rfl ?_
    refine aw_block ?_
    refine aw_loop (fun n e st => ∃ v : Int × (List Bool), Holds e [(1, ptr (s.boxes.length + 0) 0), (2, ptr (s.boxes.length + 1) 0), (3, ptr (s.boxes.length + 2) 0), (4, pl (.int .i64 v.1))] ∧ st = s.ext [⟨24, (flat (kI .u64) p0)⟩, ⟨43, (flat kB (List.replicate 1024 (false : Bool)))⟩, ⟨43, (flat kB v.2)⟩] [] ∧ lp (F_rof_b0 fl p0) n v = some z_1) fl ⟨(0, (List.replicate 1024 (false : Bool))), ⟨le_of_eq (eg oz), le_of_eq (eg (os rfl oz)), le_of_eq (eg (os rfl (os rfl oz))), le_of_eq (eg (os rfl (os rfl (os rfl oz)))), trivial⟩, rfl, hz_1⟩ ?_
    rintro n e st ⟨t_2, hH, rfl, hz_1⟩
    replace hz_1 := lp_some hz_1
    obtain ⟨m_z_3, z_3, rfl, hz_3, hz_1⟩ := hz_1
    unfold F_rof_b0 at hz_3
    refine aw_keep _ hH ?_
    refine aw_wkN rfl 3 0 rfl rfl ?_
    refine aw_seq ?_
    refine aw_seq ?_
    refine aw_region (by decide) ?_
    refine rts _ rfl (opD_move (os rfl (os rfl (os rfl oz)))) ?_
    refine rts _ rfl (opD_lss lz (ev_const _ _)) ?_
    refine .nil ?_
    refine aw_keep [(1, _), (2, _), (3, _), (4, _), (8, _)] ⟨lg (ls rfl (ls rfl oz)), lg (ls rfl (ls rfl (os rfl oz))), lg (ls rfl (ls rfl (os rfl (os rfl oz)))), lg (ls rfl (ls rfl (os rfl (os rfl (os rfl oz))))), lg lz, trivial⟩ ?_
    refine aw_cond _ (os rfl (os rfl (os rfl (os rfl oz)))) (fun hc => ?_) (fun hc => ?_)
    · skip
      replace hz_3 := ifb_t hz_3 hc
      clear hc
      refine aw_skip ?_
      refine aw_keep [(1, _), (2, _), (3, _), (4, _)] ⟨lg oz, lg (os rfl oz), lg (os rfl (os rfl oz)), lg (os rfl (os rfl (os rfl oz))), trivial⟩ ?_
      refine aw_seq ?_
      replace hz_3 := bnd_some hz_3
      obtain ⟨z_4, hz_4, hz_3⟩ := hz_3
      refine aw_mid (fun e st => ∃ v : (List Bool), Holds e [(1, ptr (s.boxes.length + 0) 0), (2, ptr (s.boxes.length + 1) 0), (3, ptr (s.boxes.length + 2) 0), (4, pl (.int .i64 t_2.1))] ∧ st = s.ext [⟨24, (flat (kI .u64) p0)⟩, ⟨43, (flat kB (List.replicate 1024 (false : Bool)))⟩, ⟨43, (flat kB v)⟩] [] ∧ v = z_4) ?_ ?_
      · skip
        refine aw_wkN rfl 3 0 rfl rfl ?_
        refine aw_block ?_
        refine aw_seq ?_
        refine aw_region (by decide) ?_
        refine rts _ rfl (opD_move (os rfl (os rfl (os rfl oz)))) ?_
        refine rts _ rfl (opD_quo lz (ev_const _ _) (by decide) rfl) ?_
        replace hz_4 := grd_some hz_4
        obtain ⟨hg_22, hz_4⟩ := hz_4
        refine rts _ rfl (opD_indexAddr_arr (i := (IntKind.i64.wrap (t_2.1.tdiv 64)).toNat) Go.Proofs.Try.underlying24 sz23_uAb (ls rfl (ls rfl oz)) lz hg_22.eq hg_22.2) ?_
        replace hz_4 := ixb_some hz_4
        obtain ⟨x_5, hx_5, hbx_5, hz_4⟩ := hz_4
        refine rts _ rfl (opD_load_one ag23_uAb lz (loc_getN rfl rfl) (flat_at0 rfl (nat_ix hx_5) rfl)) ?_
        refine rts _ rfl (opD_assign lz) ?_
        refine .nil ?_
        refine aw_keep [(1, _), (2, _), (3, _), (4, _), (5, _)] ⟨lg (ls rfl (ls rfl (ls rfl (ls rfl (ls rfl oz))))), lg (ls rfl (ls rfl (ls rfl (ls rfl (ls rfl (os rfl oz)))))), lg (ls rfl (ls rfl (ls rfl (ls rfl (ls rfl (os rfl (os rfl oz))))))), lg (ls rfl (ls rfl (ls rfl (ls rfl (ls rfl (os rfl (os rfl (os rfl oz)))))))), lg lz, trivial⟩ ?_
        refine aw_seq ?_
        refine aw_seq ?_
        refine aw_region (by decide) ?_
        refine rts _ rfl (opD_assign (ev_const _ _)) ?_
        refine .nil ?_
        refine aw_keep [(1, _), (2, _), (3, _), (4, _), (5, _), (6, _)] ⟨lg (ls rfl oz), lg (ls rfl (os rfl oz)), lg (ls rfl (os rfl (os rfl oz))), lg (ls rfl (os rfl (os rfl (os rfl oz)))), lg (ls rfl (os rfl (os rfl (os rfl (os rfl oz))))), lg lz, trivial⟩ ?_
        replace hz_4 := bnd_some hz_4
        obtain ⟨z_6, hz_6, hz_4⟩ := hz_4
        refine aw_mid (fun e st => ∃ v : Int, Holds e [(1, ptr (s.boxes.length + 0) 0), (2, ptr (s.boxes.length + 1) 0), (3, ptr (s.boxes.length + 2) 0), (4, pl (.int .i64 t_2.1)), (5, pl (.int .u64 v))] ∧ st = s.ext [⟨24, (flat (kI .u64) p0)⟩, ⟨43, (flat kB (List.replicate 1024 (false : Bool)))⟩, ⟨43, (flat kB t_2.2)⟩] [] ∧ v = z_6) ?_ ?_
        · skip
          refine aw_wkN rfl 3 0 rfl rfl ?_
          refine aw_block ?_
          refine aw_loop (fun n e st => ∃ v : Int × Int, Holds e [(1, ptr (s.boxes.length + 0) 0), (2, ptr (s.boxes.length + 1) 0), (3, ptr (s.boxes.length + 2) 0), (4, pl (.int .i64 t_2.1)), (5, pl (.int .u64 v.1)), (6, pl (.int .i64 v.2))] ∧ st = s.ext [⟨24, (flat (kI .u64) p0)⟩, ⟨43, (flat kB (List.replicate 1024 (false : Bool)))⟩, ⟨43, (flat kB t_2.2)⟩] [] ∧ lp (F_rof_b1 t_2) n v = some z_6) fl ⟨(x_5, 0), ⟨le_of_eq (eg oz), le_of_eq (eg (os rfl oz)), le_of_eq (eg (os rfl (os rfl oz))), le_of_eq (eg (os rfl (os rfl (os rfl oz)))), le_of_eq (eg (os rfl (os rfl (os rfl (os rfl oz))))), le_of_eq (eg (os rfl (os rfl (os rfl (os rfl (os rfl oz)))))), trivial⟩, rfl, hz_6⟩ ?_
          rintro n e st ⟨t_7, hH, rfl, hz_6⟩
          replace hz_6 := lp_some hz_6
          obtain ⟨m_z_8, z_8, rfl, hz_8, hz_6⟩ := hz_6
          unfold F_rof_b1 at hz_8
          refine aw_keep _ hH ?_
          refine aw_wkN rfl 3 0 rfl rfl ?_
          refine aw_seq ?_
          refine aw_seq ?_
          refine aw_region (by decide) ?_
          refine rts _ rfl (opD_move (os rfl (os rfl (os rfl (os rfl (os rfl oz)))))) ?_
          refine rts _ rfl (opD_move (ls rfl (os rfl (os rfl (os rfl oz))))) ?_
          refine rts _ rfl (opD_rem lz (ev_const _ _) (by decide) rfl) ?_
          refine rts _ rfl (opD_lss (ls rfl (ls rfl lz)) lz) ?_
          refine .nil ?_
          refine aw_keep [(1, _), (2, _), (3, _), (4, _), (5, _), (6, _), (18, _)] ⟨lg (ls rfl (ls rfl (ls rfl (ls rfl oz)))), lg (ls rfl (ls rfl (ls rfl (ls rfl (os rfl oz))))), lg (ls rfl (ls rfl (ls rfl (ls rfl (os rfl (os rfl oz)))))), lg (ls rfl (ls rfl (ls rfl (ls rfl (os rfl (os rfl (os rfl oz))))))), lg (ls rfl (ls rfl (ls rfl (ls rfl (os rfl (os rfl (os rfl (os rfl oz)))))))), lg (ls rfl (ls rfl (ls rfl (ls rfl (os rfl (os rfl (os rfl (os rfl (os rfl oz))))))))), lg lz, trivial⟩ ?_
          refine aw_cond _ (os rfl (os rfl (os rfl (os rfl (os rfl (os rfl oz)))))) (fun hc => ?_) (fun hc => ?_)
          · skip
            replace hz_8 := ifb_t hz_8 hc
            clear hc
            refine aw_skip ?_
            refine aw_keep [(1, _), (2, _), (3, _), (4, _), (5, _), (6, _)] ⟨lg oz, lg (os rfl oz), lg (os rfl (os rfl oz)), lg (os rfl (os rfl (os rfl oz))), lg (os rfl (os rfl (os rfl (os rfl oz)))), lg (os rfl (os rfl (os rfl (os rfl (os rfl oz))))), trivial⟩ ?_
            refine aw_seq ?_
            refine aw_block ?_
            refine aw_region (by decide) ?_
            refine rts _ rfl (opD_move (os rfl (os rfl (os rfl (os rfl oz))))) ?_
            refine rts _ rfl (opD_quo lz (ev_const _ _) (by decide) rfl) ?_
            refine rts _ rfl (opD_assign lz) ?_
            refine .nil ?_
            refine aw_keep [(1, _), (2, _), (3, _), (4, _), (5, _), (6, _)] ⟨lg (ls rfl (ls rfl (ls rfl oz))), lg (ls rfl (ls rfl (ls rfl (os rfl oz)))), lg (ls rfl (ls rfl (ls rfl (os rfl (os rfl oz))))), lg (ls rfl (ls rfl (ls rfl (os rfl (os rfl (os rfl oz)))))), lg lz, lg (ls rfl (ls rfl (ls rfl (os rfl (os rfl (os rfl (os rfl (os rfl oz)))))))), trivial⟩ ?_
            refine aw_region (by decide) ?_
            refine rts _ rfl (opD_move (os rfl (os rfl (os rfl (os rfl (os rfl oz)))))) ?_
            refine rts _ rfl (opD_add lz (ev_const _ _) rfl) ?_
            refine rts _ rfl (opD_assign lz) ?_
            refine .nil ?_
            obtain rfl := some_of hz_8
            replace hz_6 := ocs_l hz_6
            refine wk_yesN rfl (l := [(1, ptr (s.boxes.length + 0) 0), (2, ptr (s.boxes.length + 1) 0), (3, ptr (s.boxes.length + 2) 0), (4, pl (.int .i64 t_2.1)), (5, pl (.int .u64 (IntKind.u64.wrap (t_7.1.tdiv 2)))), (6, pl (.int .i64 (IntKind.i64.wrap (t_7.2 + 1))))]) (bs' := [⟨24, (flat (kI .u64) p0)⟩, ⟨43, (flat kB (List.replicate 1024 (false : Bool)))⟩, ⟨43, (flat kB t_2.2)⟩]) ⟨le_of_eq (eg (ls rfl (ls rfl (ls rfl oz)))), le_of_eq (eg (ls rfl (ls rfl (ls rfl (os rfl oz))))), le_of_eq (eg (ls rfl (ls rfl (ls rfl (os rfl (os rfl oz)))))), le_of_eq (eg (ls rfl (ls rfl (ls rfl (os rfl (os rfl (os rfl oz))))))), le_of_eq (eg (ls rfl (ls rfl (ls rfl (os rfl (os rfl (os rfl (os rfl oz)))))))), le_of_eq (eg lz), trivial⟩ (bnd_cons (ptr_bnd _ (by first | omega | (simp only [List.length_append, List.length_cons, List.length_nil]; omega))) (bnd_cons (ptr_bnd _ (by first | omega | (simp only [List.length_append, List.length_cons, List.length_nil]; omega))) (bnd_cons (ptr_bnd _ (by first | omega | (simp only [List.length_append, List.length_cons, List.length_nil]; omega))) (bnd_cons (pl_bnd _ _ _) (bnd_cons (pl_bnd _ _ _) (bnd_cons (pl_bnd _ _ _) bnd_nil)))))) (Nat.le_of_ble_eq_true rfl) (by simp only [na, nb, nc, nd, nf, ng, nh, ni, nj, nk] <;> rfl) (bxle_same (bxle_same (bxle_same bxle_nil))) rfl (by simp only [na, nb, nc, nd, nf, ng, nh, ni, nj, nk] <;> rfl) (bl_cons (flatKB (kb_I _)) (bl_cons (flatKB kb_B) (bl_cons (flatKB kb_B) bl_nil))) ?_
            exact ⟨m_z_8, Nat.lt_succ_self _, (IntKind.u64.wrap (t_7.1.tdiv 2), IntKind.i64.wrap (t_7.2 + 1)), ⟨le_of_eq (eg oz), le_of_eq (eg (os rfl oz)), le_of_eq (eg (os rfl (os rfl oz))), le_of_eq (eg (os rfl (os rfl (os rfl oz)))), le_of_eq (eg (os rfl (os rfl (os rfl (os rfl oz))))), le_of_eq (eg (os rfl (os rfl (os rfl (os rfl (os rfl oz)))))), trivial⟩, rfl, hz_6⟩
          · skip
            replace hz_8 := ifb_f hz_8 hc
            clear hc
            refine aw_exit ?_
            obtain rfl := some_of hz_8
            replace hz_6 := ocs_r hz_6
            refine wk_no ?_
            refine wk_yesN rfl (l := [(1, ptr (s.boxes.length + 0) 0), (2, ptr (s.boxes.length + 1) 0), (3, ptr (s.boxes.length + 2) 0), (4, pl (.int .i64 t_2.1)), (5, pl (.int .u64 t_7.1))]) (bs' := [⟨24, (flat (kI .u64) p0)⟩, ⟨43, (flat kB (List.replicate 1024 (false : Bool)))⟩, ⟨43, (flat kB t_2.2)⟩]) ⟨le_of_eq (eg oz), le_of_eq (eg (os rfl oz)), le_of_eq (eg (os rfl (os rfl oz))), le_of_eq (eg (os rfl (os rfl (os rfl oz)))), le_of_eq (eg (os rfl (os rfl (os rfl (os rfl oz))))), trivial⟩ (bnd_cons (ptr_bnd _ (by first | omega | (simp only [List.length_append, List.length_cons, List.length_nil]; omega))) (bnd_cons (ptr_bnd _ (by first | omega | (simp only [List.length_append, List.length_cons, List.length_nil]; omega))) (bnd_cons (ptr_bnd _ (by first | omega | (simp only [List.length_append, List.length_cons, List.length_nil]; omega))) (bnd_cons (pl_bnd _ _ _) (bnd_cons (pl_bnd _ _ _) bnd_nil))))) (Nat.le_of_ble_eq_true rfl) (by simp only [na, nb, nc, nd, nf, ng, nh, ni, nj, nk] <;> rfl) (bxle_same (bxle_same (bxle_same bxle_nil))) rfl (by simp only [na, nb, nc, nd, nf, ng, nh, ni, nj, nk] <;> rfl) (bl_cons (flatKB (kb_I _)) (bl_cons (flatKB kb_B) (bl_cons (flatKB kb_B) bl_nil))) ?_
            exact ⟨t_7.1, ⟨le_of_eq (eg oz), le_of_eq (eg (os rfl oz)), le_of_eq (eg (os rfl (os rfl oz))), le_of_eq (eg (os rfl (os rfl (os rfl oz)))), le_of_eq (eg (os rfl (os rfl (os rfl (os rfl oz))))), trivial⟩, rfl, some_of hz_6⟩
        · rintro e st ⟨vz_6, hH, rfl, rfl⟩
          refine aw_keep _ hH ?_
          refine aw_keep [(1, _), (2, _), (3, _), (4, _), (5, _)] ⟨lg oz, lg (os rfl oz), lg (os rfl (os rfl oz)), lg (os rfl (os rfl (os rfl oz))), lg (os rfl (os rfl (os rfl (os rfl oz)))), trivial⟩ ?_
          refine aw_region (by decide) ?_
          refine rts _ rfl (opD_move (os rfl (os rfl (os rfl oz)))) ?_
          refine rts _ rfl (opD_move (ls rfl (os rfl (os rfl (os rfl (os rfl oz)))))) ?_
          refine rts _ rfl (opD_rem lz (ev_const _ _) (by decide) rfl) ?_
          refine rts _ rfl (opD_eql lz (ev_const _ _)) ?_
          replace hz_4 := grd_some hz_4
          obtain ⟨hg_23, hz_4⟩ := hz_4
          refine rts _ rfl (opD_indexAddr_arr (i := t_2.1.toNat) Go.Proofs.Try.underlying43 sz4_uAb (ls rfl (ls rfl (ls rfl (ls rfl (os rfl (os rfl oz)))))) (ls rfl (ls rfl (ls rfl lz))) hg_23.eq hg_23.2) ?_
          replace hz_4 := grd_some hz_4
          obtain ⟨hg_24, hz_4⟩ := hz_4
          refine rts _ rfl (storeFN (k := kB) (z := (decide ((vz_6.tmod 2) = 1))) rfl sz4_uAb lz (le_of_eq (ls rfl lz)) (one_pl rfl) rfl rfl (nat_lt hg_24) rfl kb_B (by simp only [na, nb, nc, nd, nf, ng, nh, ni, nj, nk] <;> rfl)) ?_
          refine .nil ?_
          refine wk_yesN rfl (l := [(1, ptr (s.boxes.length + 0) 0), (2, ptr (s.boxes.length + 1) 0), (3, ptr (s.boxes.length + 2) 0), (4, pl (.int .i64 t_2.1))]) (bs' := [⟨24, (flat (kI .u64) p0)⟩, ⟨43, (flat kB (List.replicate 1024 (false : Bool)))⟩, ⟨43, (flat kB (t_2.2.set t_2.1.toNat (decide ((vz_6.tmod 2) = 1))))⟩]) ⟨le_of_eq (eg (lx (ls rfl (ls rfl (ls rfl (ls rfl (ls rfl oz))))))), le_of_eq (eg (lx (ls rfl (ls rfl (ls rfl (ls rfl (ls rfl (os rfl oz)))))))), le_of_eq (eg (lx (ls rfl (ls rfl (ls rfl (ls rfl (ls rfl (os rfl (os rfl oz))))))))), le_of_eq (eg (lx (ls rfl (ls rfl (ls rfl (ls rfl (ls rfl (os rfl (os rfl (os rfl oz)))))))))), trivial⟩ (bnd_cons (ptr_bnd _ (by first | omega | (simp only [List.length_append, List.length_cons, List.length_nil]; omega))) (bnd_cons (ptr_bnd _ (by first | omega | (simp only [List.length_append, List.length_cons, List.length_nil]; omega))) (bnd_cons (ptr_bnd _ (by first | omega | (simp only [List.length_append, List.length_cons, List.length_nil]; omega))) (bnd_cons (pl_bnd _ _ _) bnd_nil)))) (Nat.le_of_ble_eq_true rfl) (by simp only [na, nb, nc, nd, nf, ng, nh, ni, nj, nk] <;> rfl) (bxle_same (bxle_same (bxle_same bxle_nil))) rfl (by simp only [na, nb, nc, nd, nf, ng, nh, ni, nj, nk] <;> rfl) (bl_cons (flatKB (kb_I _)) (bl_cons (flatKB kb_B) (bl_cons (flatKB kb_B) bl_nil))) ?_
          exact ⟨(t_2.2.set t_2.1.toNat (decide ((vz_6.tmod 2) = 1))), ⟨le_of_eq (eg oz), le_of_eq (eg (os rfl oz)), le_of_eq (eg (os rfl (os rfl oz))), le_of_eq (eg (os rfl (os rfl (os rfl oz)))), trivial⟩, rfl, some_of hz_4⟩
      · rintro e st ⟨vz_4, hH, rfl, rfl⟩
        refine aw_keep _ hH ?_
        refine aw_keep [(1, _), (2, _), (3, _), (4, _)] ⟨lg oz, lg (os rfl oz), lg (os rfl (os rfl oz)), lg (os rfl (os rfl (os rfl oz))), trivial⟩ ?_
        refine aw_region (by decide) ?_
        refine rts _ rfl (opD_move (os rfl (os rfl (os rfl oz)))) ?_
        refine rts _ rfl (opD_add lz (ev_const _ _) rfl) ?_
        refine rts _ rfl (opD_assign lz) ?_
        refine .nil ?_
        obtain rfl := some_of hz_3
        replace hz_1 := ocs_l hz_1
        refine wk_yesN rfl (l := [(1, ptr (s.boxes.length + 0) 0), (2, ptr (s.boxes.length + 1) 0), (3, ptr (s.boxes.length + 2) 0), (4, pl (.int .i64 (IntKind.i64.wrap (t_2.1 + 1))))]) (bs' := [⟨24, (flat (kI .u64) p0)⟩, ⟨43, (flat kB (List.replicate 1024 (false : Bool)))⟩, ⟨43, (flat kB vz_4)⟩]) ⟨le_of_eq (eg (ls rfl (ls rfl (ls rfl oz)))), le_of_eq (eg (ls rfl (ls rfl (ls rfl (os rfl oz))))), le_of_eq (eg (ls rfl (ls rfl (ls rfl (os rfl (os rfl oz)))))), le_of_eq (eg lz), trivial⟩ (bnd_cons (ptr_bnd _ (by first | omega | (simp only [List.length_append, List.length_cons, List.length_nil]; omega))) (bnd_cons (ptr_bnd _ (by first | omega | (simp only [List.length_append, List.length_cons, List.length_nil]; omega))) (bnd_cons (ptr_bnd _ (by first | omega | (simp only [List.length_append, List.length_cons, List.length_nil]; omega))) (bnd_cons (pl_bnd _ _ _) bnd_nil)))) (Nat.le_of_ble_eq_true rfl) (by simp only [na, nb, nc, nd, nf, ng, nh, ni, nj, nk] <;> rfl) (bxle_same (bxle_same (bxle_same bxle_nil))) rfl (by simp only [na, nb, nc, nd, nf, ng, nh, ni, nj, nk] <;> rfl) (bl_cons (flatKB (kb_I _)) (bl_cons (flatKB kb_B) (bl_cons (flatKB kb_B) bl_nil))) ?_
        exact ⟨m_z_3, Nat.lt_succ_self _, (IntKind.i64.wrap (t_2.1 + 1), vz_4), ⟨le_of_eq (eg oz), le_of_eq (eg (os rfl oz)), le_of_eq (eg (os rfl (os rfl oz))), le_of_eq (eg (os rfl (os rfl (os rfl oz)))), trivial⟩, rfl, hz_1⟩
    · skip
      replace hz_3 := ifb_f hz_3 hc
      clear hc
      refine aw_exit ?_
      obtain rfl := some_of hz_3
      replace hz_1 := ocs_r hz_1
      refine wk_no ?_
      refine wk_yesN rfl (l := [(2, ptr (s.boxes.length + 1) 0), (3, ptr (s.boxes.length + 2) 0)]) (bs' := [⟨24, (flat (kI .u64) p0)⟩, ⟨43, (flat kB (List.replicate 1024 (false : Bool)))⟩, ⟨43, (flat kB t_2.2)⟩]) ⟨le_of_eq (eg (os rfl oz)), le_of_eq (eg (os rfl (os rfl oz))), trivial⟩ (bnd_cons (ptr_bnd _ (by first | omega | (simp only [List.length_append, List.length_cons, List.length_nil]; omega))) (bnd_cons (ptr_bnd _ (by first | omega | (simp only [List.length_append, List.length_cons, List.length_nil]; omega))) bnd_nil)) (Nat.le_of_ble_eq_true rfl) (by simp only [na, nb, nc, nd, nf, ng, nh, ni, nj, nk] <;> rfl) (bxle_same (bxle_same (bxle_same bxle_nil))) rfl (by simp only [na, nb, nc, nd, nf, ng, nh, ni, nj, nk] <;> rfl) (bl_cons (flatKB (kb_I _)) (bl_cons (flatKB kb_B) (bl_cons (flatKB kb_B) bl_nil))) ?_
      exact ⟨t_2.2, ⟨le_of_eq (eg oz), le_of_eq (eg (os rfl oz)), trivial⟩, rfl, some_of hz_1⟩
  · rintro e st ⟨vz_1, hH, rfl, rfl⟩
    refine aw_keep _ hH ?_
    refine aw_keep [(2, _), (3, _)] ⟨lg oz, lg (os rfl oz), trivial⟩ ?_
    refine aw_seq ?_
    refine aw_region (by decide) ?_
    replace h0 := grd_some h0
    obtain ⟨hg_25, h0⟩ := h0
    refine rts _ rfl (loadFN ag43_uAb sz43_uAb (os rfl oz) (loc_getN rfl rfl) rfl hg_25) ?_
    replace h0 := grd_some h0
    obtain ⟨hg_26, h0⟩ := h0
    replace h0 := grd_some h0
    obtain ⟨hg_27, h0⟩ := h0
    refine rts _ rfl (storeWF (k := kB) rfl sz43_uAb (ls rfl oz) lz rfl rfl hg_26 hg_27 (by decide) kb_B (by simp only [na, nb, nc, nd, nf, ng, nh, ni, nj, nk] <;> rfl)) ?_
    refine .nil ?_
    refine aw_keep [(2, _)] ⟨lg (lx (ls rfl oz)), trivial⟩ ?_
    refine aw_ret ?_
    replace h0 := grd_some h0
    obtain ⟨hlen, h0⟩ := h0
    obtain rfl := some_of h0
    exact done_ext (.inr rfl) ((res_one rfl (it_cellA (B := ⟨43, flat kB vz_1⟩) ag43_uAb sz43_uAb oz (loc_getN rfl rfl) (flat_len1 rfl hlen))).le (Pd.le_refl _)) (agg_bnd (flatKB kb_B))

def F_rblank_b0 (p0 : (List Int)) (t_2 : Int) : Option ((Int) ⊕ ((Bool) ⊕ (Unit))) :=
  ifb (decide (t_2 < (p0.length : Int))) (ixb p0 t_2 fun x_4 => ifb (decide (x_4 ≠ 0)) (some (.inr (.inl false))) (some (.inl (IntKind.i64.wrap (t_2 + 1))))) (some (.inr (.inr ())))
def F_rblank (fl : Nat) (p0 : (List Int)) : Option (Bool) :=
  bnd (lp (F_rblank_b0 p0) fl 0) fun z_1 => ocs z_1 (fun qz_1_0 => some qz_1_0) fun z_1_0 => some true
set_option maxRecDepth 100000 in
set_option maxHeartbeats 2000000 in
theorem c_rblank {fl : Nat} {p0 : (List Int)} {R : Bool} (h0 : F_rblank fl p0 = some R) : Pure Go.Proofs.Try.prog 17 [sl (kI .u8) none none p0] (pl (.bool R)) := by
  intro s
  unfold F_rblank at h0
  refine ac_of_aw s.boxes.length s.fr.length Go.Proofs.Try.func17 rfl (by simp [Go.Proofs.Try.ntmps17]) ?_
  refine aw_ext0 ?_
  refine aw_keep [(0, _)] ⟨lg ez, trivial⟩ ?_
  refine aw_seq ?_
  refine aw_region (by decide) ?_
  refine rts _ rfl (opD_assign (ev_const _ _)) ?_
  refine .nil ?_
  refine aw_keep [(0, _)] ⟨lg (ls rfl oz), trivial⟩ ?_
  refine aw_seq ?_
  refine aw_seq ?_
  refine aw_region (by decide) ?_
  refine rts _ rfl (opD_assign (ev_const _ _)) ?_
  refine .nil ?_
  refine aw_keep [(0, _), (3, _)] ⟨lg (ls rfl oz), lg lz, trivial⟩ ?_
  replace h0 := bnd_some h0
  obtain ⟨z_1, hz_1, h0⟩ := h0
  refine aw_mid (fun e st => ∃ v : Unit, Holds e [] ∧ st = s.ext [] [] ∧ (.inr v) = z_1) ?_ ?_
  · skip
    refine aw_wkN rfl 0 0 rfl rfl ?_
    refine aw_block ?_
    refine aw_loop (fun n e st => ∃ v : Int, Holds e [(0, sl (kI .u8) none none p0), (3, pl (.int .i64 v))] ∧ st = s.ext [] [] ∧ lp (F_rblank_b0 p0) n v = some z_1) fl ⟨0, ⟨le_of_eq (eg oz), le_of_eq (eg (os rfl oz)), trivial⟩, rfl, hz_1⟩ ?_
    rintro n e st ⟨t_2, hH, rfl, hz_1⟩
    replace hz_1 := lp_some hz_1
    obtain ⟨m_z_3, z_3, rfl, hz_3, hz_1⟩ := hz_1
    unfold F_rblank_b0 at hz_3
    refine aw_keep _ hH ?_
    refine aw_wkN rfl 0 0 rfl rfl ?_
    refine aw_seq ?_
    refine aw_seq ?_
    refine aw_region (by decide) ?_
    refine rts _ rfl (opD_move (os rfl oz)) ?_
    refine rts _ rfl (opD_move (ls rfl oz)) ?_
    refine rts _ rfl (opD_len_sl Go.Proofs.Try.underlying26 lz) ?_
    refine rts _ rfl (opD_lss (ls rfl (ls rfl lz)) lz) ?_
    refine .nil ?_
    refine aw_keep [(0, _), (3, _), (7, _)] ⟨lg (ls rfl (ls rfl (ls rfl (ls rfl oz)))), lg (ls rfl (ls rfl (ls rfl (ls rfl (os rfl oz))))), lg lz, trivial⟩ ?_
    refine aw_cond _ (os rfl (os rfl oz)) (fun hc => ?_) (fun hc => ?_)
    · skip
      replace hz_3 := ifb_t hz_3 hc
      clear hc
      refine aw_skip ?_
      refine aw_keep [(0, _), (3, _)] ⟨lg oz, lg (os rfl oz), trivial⟩ ?_
      refine aw_seq ?_
      refine aw_block ?_
      refine aw_seq ?_
      refine aw_region (by decide) ?_
      refine rts _ rfl (opD_move oz) ?_
      refine rts _ rfl (opD_move (ls rfl (os rfl oz))) ?_
      replace hz_3 := ixb_some hz_3
      obtain ⟨x_4, hx_4, hbx_4, hz_3⟩ := hz_3
      refine rts _ rfl (opD_indexAddr_sl (i := t_2.toNat) Go.Proofs.Try.underlying26 sz5_uAb (ls rfl lz) lz hbx_4.2.2 hbx_4.2.1) ?_
      refine rts _ rfl (opD_load_el_one ag5_uAb lz hx_4 rfl) ?_
      refine rts _ rfl (opD_neq lz (ev_const _ _)) ?_
      refine .nil ?_
      refine aw_keep [(0, _), (3, _), (14, _)] ⟨lg (ls rfl (ls rfl (ls rfl (ls rfl (ls rfl oz))))), lg (ls rfl (ls rfl (ls rfl (ls rfl (ls rfl (os rfl oz)))))), lg lz, trivial⟩ ?_
      refine aw_cond _ (os rfl (os rfl oz)) (fun hc => ?_) (fun hc => ?_)
      · skip
        replace hz_3 := ifb_t hz_3 hc
        clear hc
        refine aw_seq ?_
        refine aw_region (by decide) ?_
        refine rts _ rfl (opD_assign (ev_const _ _)) ?_
        refine .nil ?_
        refine aw_keep [(2, _)] ⟨lg lz, trivial⟩ ?_
        refine aw_ret ?_
        obtain rfl := some_of hz_3
        replace hz_1 := ocs_r hz_1
        obtain rfl := some_of hz_1
        replace h0 := ocs_l h0
        refine wk_no ?_
        refine wk_no ?_
        obtain rfl := some_of h0
        exact done_ext (.inr rfl) ((res_one rfl (it_tmp oz)).le (Pd.le_refl _)) (pl_bnd _ _ _)
      · skip
        replace hz_3 := ifb_f hz_3 hc
        clear hc
        refine aw_skip ?_
        refine aw_keep [(0, _), (3, _)] ⟨lg oz, lg (os rfl oz), trivial⟩ ?_
        refine aw_region (by decide) ?_
        refine rts _ rfl (opD_move (os rfl oz)) ?_
        refine rts _ rfl (opD_add lz (ev_const _ _) rfl) ?_
        refine rts _ rfl (opD_assign lz) ?_
        refine .nil ?_
        obtain rfl := some_of hz_3
        replace hz_1 := ocs_l hz_1
        refine wk_yesN rfl (l := [(0, sl (kI .u8) none none p0), (3, pl (.int .i64 (IntKind.i64.wrap (t_2 + 1))))]) (bs' := []) ⟨le_of_eq (eg (ls rfl (ls rfl (ls rfl oz)))), le_of_eq (eg lz), trivial⟩ (bnd_cons (sl_b (kb_I _)) (bnd_cons (pl_bnd _ _ _) bnd_nil)) (Nat.le_of_ble_eq_true rfl) (by simp only [na, nb, nc, nd, nf, ng, nh, ni, nj, nk] <;> rfl) bxle_nil rfl (by simp only [na, nb, nc, nd, nf, ng, nh, ni, nj, nk] <;> rfl) bl_nil ?_
        exact ⟨m_z_3, Nat.lt_succ_self _, IntKind.i64.wrap (t_2 + 1), ⟨le_of_eq (eg oz), le_of_eq (eg (os rfl oz)), trivial⟩, rfl, hz_1⟩
    · skip
      replace hz_3 := ifb_f hz_3 hc
      clear hc
      refine aw_exit ?_
      obtain rfl := some_of hz_3
      replace hz_1 := ocs_r hz_1
      refine wk_no ?_
      refine wk_yesN rfl (l := []) (bs' := []) trivial bnd_nil (Nat.le_of_ble_eq_true rfl) (by simp only [na, nb, nc, nd, nf, ng, nh, ni, nj, nk] <;> rfl) bxle_nil rfl (by simp only [na, nb, nc, nd, nf, ng, nh, ni, nj, nk] <;> rfl) bl_nil ?_
      exact ⟨(), trivial, rfl, some_of hz_1⟩
  · rintro e st ⟨vz_1, hH, rfl, rfl⟩
    refine aw_keep _ hH ?_
    replace h0 := ocs_r h0
    refine aw_keep [] trivial ?_
    refine aw_seq ?_
    refine aw_region (by decide) ?_
    refine rts _ rfl (opD_assign (ev_const _ _)) ?_
    refine .nil ?_
    refine aw_keep [(2, _)] ⟨lg lz, trivial⟩ ?_
    refine aw_ret ?_
    obtain rfl := some_of h0
    exact done_ext (.inr rfl) ((res_one rfl (it_tmp oz)).le (Pd.le_refl _)) (pl_bnd _ _ _)

def F_rdirty_b0 (fl : Nat) (p0 : (List (List Int))) (x_1 : ((List Bool))) (t_3 : (List Int) × Int) : Option (((List Int) × Int) ⊕ (((List Int)))) :=
  ifb (decide (t_3.2 < (p0.length : Int))) (bnd (grd (((decide (1023 < t_3.2)) == false) = true → Below t_3.2 1024) <| grd (((decide (1023 < t_3.2)) == false) = true → Below ((t_3.2.toNat : Nat) : Int) x_1.length) <| grd ((((decide (1023 < t_3.2)) || (!(x_1.getD t_3.2.toNat default))) == true) = true → Below t_3.2 p0.length) <| bnd (gif (((decide (1023 < t_3.2)) || (!(x_1.getD t_3.2.toNat default))) == true) (F_rblank fl (p0.getD t_3.2.toNat default))) fun x_7 => ifb (((decide (1023 < t_3.2)) || (!(x_1.getD t_3.2.toNat default))) && (!x_7)) (grd (Fits 8 (t_3.1.length + ([t_3.2] : (List Int)).length)) <| some (t_3.1 ++ ([t_3.2] : (List Int)))) (some t_3.1)) fun z_5 => some (.inl (z_5, IntKind.i64.wrap (t_3.2 + 1)))) (some (.inr t_3.1))
def F_rdirty (fl : Nat) (p0 : (List (List Int))) (p1 : (List Int)) : Option ((List Int)) :=
  grd (p1.length = 16) <| bnd (F_rof fl p1) fun x_1 => grd ((List.replicate 1024 (false : Bool)).length = 1024) <| grd (x_1.length = 1024) <| bnd (lp (F_rdirty_b0 fl p0 x_1) fl (([] : (List Int)), 2)) fun z_2 => some z_2
set_option maxRecDepth 100000 in
set_option maxHeartbeats 2000000 in
theorem c_rdirty {fl : Nat} {p0 : (List (List Int))} {p1 : (List Int)} {R : (List Int)} (h0 : F_rdirty fl p0 p1 = some R) : Pure Go.Proofs.Try.prog 7 [sl (kR (kI .u8)) none none p0, agg (flat (kI .u64) p1)] (sl (kI .i64) none none R) := by
  intro s
  unfold F_rdirty at h0
  refine ac_of_aw s.boxes.length s.fr.length Go.Proofs.Try.func7 rfl (by simp [Go.Proofs.Try.ntmps7]) ?_
  refine aw_ext0 ?_
  refine aw_keep [(0, _), (1, _)] ⟨lg ez, lg (es ez), trivial⟩ ?_
  refine aw_seq ?_
  refine aw_region (by decide) ?_
  refine rts _ rfl (boxFN (k := kI .u64) (l := p1) rfl (os rfl oz) rfl (kb_I _) (by first | exact List.length_nil | (simp only [List.length_cons, List.length_nil, Nat.zero_add, Nat.reduceAdd] <;> rfl)) (by simp only [na, nb, nc, nd, nf, ng, nh, ni, nj, nk] <;> rfl)) ?_
  refine rts _ rfl (opD_assign (ev_const _ _)) ?_
  refine .nil ?_
  refine aw_keep [(0, _), (3, _)] ⟨lg (ls rfl (ls rfl oz)), lg (ls rfl lz), trivial⟩ ?_
  refine aw_seq ?_
  refine aw_region (by decide) ?_
  replace h0 := grd_some h0
  obtain ⟨hg_1, h0⟩ := h0
  refine rts _ rfl (loadFN ag24_uAb sz24_uAb (os rfl oz) (loc_getN rfl rfl) rfl hg_1) ?_
  replace h0 := bnd_some h0
  obtain ⟨x_1, hx_1, h0⟩ := h0
  refine rts _ rfl (opD_pure ht16_uAb (c_rof hx_1) ⟨le_of_eq lz, trivial⟩) ?_
  refine rts _ rfl (allocFN (k := kB) (x0 := false) (z := .bool false) (m := 1024) rfl (by kernel_rfl) rfl (by first | exact List.length_nil | (simp only [List.length_cons, List.length_nil, Nat.zero_add, Nat.reduceAdd] <;> rfl)) (by simp only [na, nb, nc, nd, nf, ng, nh, ni, nj, nk] <;> rfl)) ?_
  replace h0 := grd_some h0
  obtain ⟨hg_2, h0⟩ := h0
  replace h0 := grd_some h0
  obtain ⟨hg_3, h0⟩ := h0
  refine rts _ rfl (storeWF (k := kB) rfl sz43_uAb lz (ls rfl lz) rfl rfl hg_2 hg_3 (by decide) kb_B (by simp only [na, nb, nc, nd, nf, ng, nh, ni, nj, nk] <;> rfl)) ?_
  refine .nil ?_
  refine aw_keep [(0, _), (5, _)] ⟨lg (lx (ls rfl (ls rfl (ls rfl oz)))), lg (lx lz), trivial⟩ ?_
  refine aw_seq ?_
  refine aw_region (by decide) ?_
  refine rts _ rfl (opD_assign (ev_const _ _)) ?_
  refine .nil ?_
  refine aw_keep [(0, _), (5, _), (6, _)] ⟨lg (ls rfl oz), lg (ls rfl (os rfl oz)), lg lz, trivial⟩ ?_
  refine aw_seq ?_
  refine aw_seq ?_
  refine aw_region (by decide) ?_
  refine rts _ rfl (opD_assign (ev_const _ _)) ?_
  refine .nil ?_
  refine aw_keep [(0, _), (5, _), (6, _), (7, _)] ⟨lg (ls rfl oz), lg (ls rfl (os rfl oz)), lg (ls rfl (os rfl (os rfl oz))), lg lz, trivial⟩ ?_
  replace h0 := bnd_some h0
  obtain ⟨z_2, hz_2, h0⟩ := h0
  refine aw_mid (fun e st => ∃ v : (List Int), Holds e [(6, sl (kI .i64) none none v)] ∧ st = s.ext [⟨24, (flat (kI .u64) p1)⟩, ⟨43, (flat kB x_1)⟩] [] ∧ v = z_2) ?_ ?_
  · skip
    refine aw_wkN rfl 2 0 rfl rfl ?_
    refine aw_block ?_
    refine aw_fr ⟨3, 1, 0⟩ ?_
    refine aw_loop (fun n e st => ∃ v : (List Int) × Int, Holds e [(0, sl (kR (kI .u8)) none none p0), (5, ptr (s.boxes.length + 1) 0), (6, sl (kI .i64) (some (s.fr.length + 0)) none v.1), (7, pl (.int .i64 v.2))] ∧ st = s.ext [⟨24, (flat (kI .u64) p1)⟩, ⟨43, (flat kB x_1)⟩] [⟨3, 1, v.1.length⟩] ∧ lp (F_rdirty_b0 fl p0 x_1) n v = some z_2) fl ⟨(([] : (List Int)), 2), ⟨le_of_eq (eg oz), le_of_eq (eg (os rfl oz)), (le_of_eq (eg (os rfl (os rfl oz)))).trans (nil_own rfl), le_of_eq (eg (os rfl (os rfl (os rfl oz)))), trivial⟩, rfl, hz_2⟩ ?_
    rintro n e st ⟨t_3, hH, rfl, hz_2⟩
    replace hz_2 := lp_some hz_2
    obtain ⟨m_z_4, z_4, rfl, hz_4, hz_2⟩ := hz_2
    unfold F_rdirty_b0 at hz_4
    refine aw_keep _ hH ?_
    refine aw_wkN rfl 2 1 rfl rfl ?_
    refine aw_seq ?_
    refine aw_seq ?_
    refine aw_region (by decide) ?_
    refine rts _ rfl (opD_move (os rfl (os rfl (os rfl oz)))) ?_
    refine rts _ rfl (opD_move (ls rfl oz)) ?_
    refine rts _ rfl (opD_len_sl Go.Proofs.Try.underlying22 lz) ?_
    refine rts _ rfl (opD_lss (ls rfl (ls rfl lz)) lz) ?_
    refine .nil ?_
    refine aw_keep [(0, _), (5, _), (6, _), (7, _), (13, _)] ⟨lg (ls rfl (ls rfl (ls rfl (ls rfl oz)))), lg (ls rfl (ls rfl (ls rfl (ls rfl (os rfl oz))))), lg (ls rfl (ls rfl (ls rfl (ls rfl (os rfl (os rfl oz)))))), lg (ls rfl (ls rfl (ls rfl (ls rfl (os rfl (os rfl (os rfl oz))))))), lg lz, trivial⟩ ?_
    refine aw_cond _ (os rfl (os rfl (os rfl (os rfl oz)))) (fun hc => ?_) (fun hc => ?_)
    · skip
      replace hz_4 := ifb_t hz_4 hc
      clear hc
      refine aw_skip ?_
      refine aw_keep [(0, _), (5, _), (6, _), (7, _)] ⟨lg oz, lg (os rfl oz), lg (os rfl (os rfl oz)), lg (os rfl (os rfl (os rfl oz))), trivial⟩ ?_
      refine aw_seq ?_
      replace hz_4 := bnd_some hz_4
      obtain ⟨z_5, hz_5, hz_4⟩ := hz_4
      refine aw_mid (fun e st => ∃ v : (List Int), Holds e [(0, sl (kR (kI .u8)) none none p0), (5, ptr (s.boxes.length + 1) 0), (6, sl (kI .i64) (some (s.fr.length + 0)) none v), (7, pl (.int .i64 t_3.2))] ∧ st = s.ext [⟨24, (flat (kI .u64) p1)⟩, ⟨43, (flat kB x_1)⟩] [⟨3, 1, v.length⟩] ∧ v = z_5) ?_ ?_
      · skip
        refine aw_wkN rfl 2 1 rfl rfl ?_
        refine aw_block ?_
        refine aw_seq ?_
        refine aw_region (by decide) ?_
        refine rts _ rfl (opD_move (os rfl (os rfl (os rfl oz)))) ?_
        refine rts _ rfl (opD_gtr lz (ev_const _ _)) ?_
        refine rts _ rfl (opD_move lz) ?_
        refine rtg _ rfl lz (fun hg6_3_158 => opD_move (ls rfl (ls rfl (ls rfl (os rfl (os rfl (os rfl oz))))))) ?_
        replace hz_5 := grd_some hz_5
        obtain ⟨hg_160, hz_5⟩ := hz_5
        refine rtg _ rfl (ls rfl lz) (fun hg6_4_159 => opD_indexAddr_arr (i := t_3.2.toNat) Go.Proofs.Try.underlying43 sz4_uAb (ls rfl (ls rfl (ls rfl (ls rfl (os rfl oz))))) (lz.trans (pif_pos hg6_4_159)) (hg_160 hg6_4_159).eq (hg_160 hg6_4_159).2) ?_
        replace hz_5 := grd_some hz_5
        obtain ⟨hg_162, hz_5⟩ := hz_5
        refine rtg _ rfl (ls rfl (ls rfl lz)) (fun hg6_5_161 => opD_load_one ag4_uAb (lz.trans (pif_pos hg6_5_161)) (loc_getN rfl rfl) (flat_at0 rfl (at_getD default (nat_lt (hg_162 hg6_5_161))) rfl)) ?_
        refine rtg _ rfl (ls rfl (ls rfl (ls rfl lz))) (fun hg6_6_163 => opD_not (lz.trans (pif_pos hg6_6_163))) ?_
        refine rts _ rfl (opD_or (ls rfl (ls rfl (ls rfl (ls rfl lz)))) lz) ?_
        refine rts _ rfl (opD_move lz) ?_
        refine rtg _ rfl lz (fun hg6_9_164 => opD_move (ls rfl (ls rfl (ls rfl (ls rfl (ls rfl (ls rfl (ls rfl (ls rfl (ls rfl oz)))))))))) ?_
        refine rtg _ rfl (ls rfl lz) (fun hg6_10_165 => opD_move (ls rfl (ls rfl (ls rfl (ls rfl (ls rfl (ls rfl (ls rfl (ls rfl (ls rfl (ls rfl (os rfl (os rfl (os rfl oz)))))))))))))) ?_
        replace hz_5 := grd_some hz_5
        obtain ⟨hg_167, hz_5⟩ := hz_5
        refine rtg _ rfl (ls rfl (ls rfl lz)) (fun hg6_11_166 => opD_indexAddr_sl (i := t_3.2.toNat) Go.Proofs.Try.underlying22 sz26_uAb ((ls rfl lz).trans (pif_pos hg6_11_166)) (lz.trans (pif_pos hg6_11_166)) (hg_167 hg6_11_166).eq (hg_167 hg6_11_166).2) ?_
        refine rtg _ rfl (ls rfl (ls rfl (ls rfl lz))) (fun hg6_12_168 => opD_load_el_one ag26_uAb (lz.trans (pif_pos hg6_12_168)) (at_getD default (hg_167 hg6_12_168).2) rfl) ?_
        replace hz_5 := bnd_some hz_5
        obtain ⟨x_7, hx_7, hz_5⟩ := hz_5
        refine rtg _ rfl (ls rfl (ls rfl (ls rfl (ls rfl lz)))) (fun hg6_13_169 => opD_pure ht17_uAb (c_rblank (gif_some hx_7 hg6_13_169)) ⟨le_of_eq (lz.trans (pif_pos hg6_13_169)), trivial⟩) ?_
        refine rtg _ rfl (ls rfl (ls rfl (ls rfl (ls rfl (ls rfl lz))))) (fun hg6_14_170 => opD_not (lz.trans (pif_pos hg6_14_170))) ?_
        refine rts _ rfl (opD_and (ls rfl (ls rfl (ls rfl (ls rfl (ls rfl (ls rfl lz)))))) lz) ?_
        refine .nil ?_
        refine aw_keep [(0, _), (5, _), (6, _), (7, _), (31, _)] ⟨lg (ls rfl (ls rfl (ls rfl (ls rfl (ls rfl (ls rfl (ls rfl (ls rfl (ls rfl (ls rfl (ls rfl (ls rfl (ls rfl (ls rfl (ls rfl (ls rfl oz)))))))))))))))), lg (ls rfl (ls rfl (ls rfl (ls rfl (ls rfl (ls rfl (ls rfl (ls rfl (ls rfl (ls rfl (ls rfl (ls rfl (ls rfl (ls rfl (ls rfl (ls rfl (os rfl oz))))))))))))))))), lg (ls rfl (ls rfl (ls rfl (ls rfl (ls rfl (ls rfl (ls rfl (ls rfl (ls rfl (ls rfl (ls rfl (ls rfl (ls rfl (ls rfl (ls rfl (ls rfl (os rfl (os rfl oz)))))))))))))))))), lg (ls rfl (ls rfl (ls rfl (ls rfl (ls rfl (ls rfl (ls rfl (ls rfl (ls rfl (ls rfl (ls rfl (ls rfl (ls rfl (ls rfl (ls rfl (ls rfl (os rfl (os rfl (os rfl oz))))))))))))))))))), lg lz, trivial⟩ ?_
        refine aw_cond _ (os rfl (os rfl (os rfl (os rfl oz)))) (fun hc => ?_) (fun hc => ?_)
        · skip
          replace hz_5 := ifb_t hz_5 hc
          clear hc
          refine aw_region (by decide) ?_
          refine rts _ rfl (opD_move (os rfl (os rfl oz))) ?_
          refine rts _ rfl (opD_move (ls rfl (os rfl (os rfl (os rfl oz))))) ?_
          refine rts _ rfl (opD_buildOwn (k := kI .i64) ([t_3.2] : (List Int)) Go.Proofs.Try.underlying27 sz3_uAb zt3_uAb (by decide) rfl (parts_cons (cells1 lz (one_pl rfl)) parts_nil) rfl rfl (by first | exact List.length_nil | (simp only [List.length_cons, List.length_nil, Nat.zero_add, Nat.reduceAdd] <;> rfl)) (by simp only [na, nb, nc, nd, nf, ng, nh, ni, nj, nk] <;> rfl)) ?_
          replace hz_5 := grd_some hz_5
          obtain ⟨hg_171, hz_5⟩ := hz_5
          refine rts _ rfl (opD_appendX Go.Proofs.Try.underlying27 el3_uAb (ls rfl (ls rfl lz)) lz rfl hg_171.1 hg_171.2 rfl (by simp only [na, nb, nc, nd, nf, ng, nh, ni, nj, nk] <;> rfl)) ?_
          refine rts _ rfl (opD_assign lz) ?_
          refine .nil ?_
          refine wk_yesN rfl (l := [(0, sl (kR (kI .u8)) none none p0), (5, ptr (s.boxes.length + 1) 0), (6, sl (kI .i64) (some (s.fr.length + 0)) none (t_3.1 ++ ([t_3.2] : (List Int)))), (7, pl (.int .i64 t_3.2))]) (bs' := [⟨24, (flat (kI .u64) p1)⟩, ⟨43, (flat kB x_1)⟩]) ⟨le_of_eq (eg (ls rfl (ls rfl (ls rfl (ls rfl (ls rfl oz)))))), le_of_eq (eg (ls rfl (ls rfl (ls rfl (ls rfl (ls rfl (os rfl oz))))))), le_of_eq (eg lz), le_of_eq (eg (ls rfl (ls rfl (ls rfl (ls rfl (ls rfl (os rfl (os rfl (os rfl oz))))))))), trivial⟩ (bnd_cons (sl_b (kb_R (kb_I _))) (bnd_cons (ptr_bnd _ (by first | omega | (simp only [List.length_append, List.length_cons, List.length_nil]; omega))) (bnd_cons (sl_ob (kb_I _) (by first | omega | (simp only [List.length_append, List.length_cons, List.length_nil, ext_fr_length, upd_fr_length]; omega))) (bnd_cons (pl_bnd _ _ _) bnd_nil)))) (Nat.le_of_ble_eq_true rfl) (by simp only [na, nb, nc, nd, nf, ng, nh, ni, nj, nk] <;> rfl) (bxle_same (bxle_same bxle_nil)) rfl (by simp only [na, nb, nc, nd, nf, ng, nh, ni, nj, nk] <;> rfl) (bl_cons (flatKB (kb_I _)) (bl_cons (flatKB kb_B) bl_nil)) ?_
          exact ⟨(t_3.1 ++ ([t_3.2] : (List Int))), ⟨le_of_eq (eg oz), le_of_eq (eg (os rfl oz)), le_of_eq (eg (os rfl (os rfl oz))), le_of_eq (eg (os rfl (os rfl (os rfl oz)))), trivial⟩, rfl, some_of hz_5⟩
        · skip
          replace hz_5 := ifb_f hz_5 hc
          clear hc
          refine aw_skip ?_
          refine wk_yesN rfl (l := [(0, sl (kR (kI .u8)) none none p0), (5, ptr (s.boxes.length + 1) 0), (6, sl (kI .i64) (some (s.fr.length + 0)) none t_3.1), (7, pl (.int .i64 t_3.2))]) (bs' := [⟨24, (flat (kI .u64) p1)⟩, ⟨43, (flat kB x_1)⟩]) ⟨le_of_eq (eg oz), le_of_eq (eg (os rfl oz)), le_of_eq (eg (os rfl (os rfl oz))), le_of_eq (eg (os rfl (os rfl (os rfl oz)))), trivial⟩ (bnd_cons (sl_b (kb_R (kb_I _))) (bnd_cons (ptr_bnd _ (by first | omega | (simp only [List.length_append, List.length_cons, List.length_nil]; omega))) (bnd_cons (sl_ob (kb_I _) (by first | omega | (simp only [List.length_append, List.length_cons, List.length_nil, ext_fr_length, upd_fr_length]; omega))) (bnd_cons (pl_bnd _ _ _) bnd_nil)))) (Nat.le_of_ble_eq_true rfl) (by simp only [na, nb, nc, nd, nf, ng, nh, ni, nj, nk] <;> rfl) (bxle_same (bxle_same bxle_nil)) rfl (by simp only [na, nb, nc, nd, nf, ng, nh, ni, nj, nk] <;> rfl) (bl_cons (flatKB (kb_I _)) (bl_cons (flatKB kb_B) bl_nil)) ?_
          exact ⟨t_3.1, ⟨le_of_eq (eg oz), le_of_eq (eg (os rfl oz)), le_of_eq (eg (os rfl (os rfl oz))), le_of_eq (eg (os rfl (os rfl (os rfl oz)))), trivial⟩, rfl, some_of hz_5⟩
      · rintro e st ⟨vz_5, hH, rfl, rfl⟩
        refine aw_keep _ hH ?_
        refine aw_keep [(0, _), (5, _), (6, _), (7, _)] ⟨lg oz, lg (os rfl oz), lg (os rfl (os rfl oz)), lg (os rfl (os rfl (os rfl oz))), trivial⟩ ?_
        refine aw_region (by decide) ?_
        refine rts _ rfl (opD_move (os rfl (os rfl (os rfl oz)))) ?_
        refine rts _ rfl (opD_add lz (ev_const _ _) rfl) ?_
        refine rts _ rfl (opD_assign lz) ?_
        refine .nil ?_
        obtain rfl := some_of hz_4
        replace hz_2 := ocs_l hz_2
        refine wk_yesN rfl (l := [(0, sl (kR (kI .u8)) none none p0), (5, ptr (s.boxes.length + 1) 0), (6, sl (kI .i64) (some (s.fr.length + 0)) none vz_5), (7, pl (.int .i64 (IntKind.i64.wrap (t_3.2 + 1))))]) (bs' := [⟨24, (flat (kI .u64) p1)⟩, ⟨43, (flat kB x_1)⟩]) ⟨le_of_eq (eg (ls rfl (ls rfl (ls rfl oz)))), le_of_eq (eg (ls rfl (ls rfl (ls rfl (os rfl oz))))), le_of_eq (eg (ls rfl (ls rfl (ls rfl (os rfl (os rfl oz)))))), le_of_eq (eg lz), trivial⟩ (bnd_cons (sl_b (kb_R (kb_I _))) (bnd_cons (ptr_bnd _ (by first | omega | (simp only [List.length_append, List.length_cons, List.length_nil]; omega))) (bnd_cons (sl_ob (kb_I _) (by first | omega | (simp only [List.length_append, List.length_cons, List.length_nil, ext_fr_length, upd_fr_length]; omega))) (bnd_cons (pl_bnd _ _ _) bnd_nil)))) (Nat.le_of_ble_eq_true rfl) (by simp only [na, nb, nc, nd, nf, ng, nh, ni, nj, nk] <;> rfl) (bxle_same (bxle_same bxle_nil)) rfl (by simp only [na, nb, nc, nd, nf, ng, nh, ni, nj, nk] <;> rfl) (bl_cons (flatKB (kb_I _)) (bl_cons (flatKB kb_B) bl_nil)) ?_
        exact ⟨m_z_4, Nat.lt_succ_self _, (vz_5, IntKind.i64.wrap (t_3.2 + 1)), ⟨le_of_eq (eg oz), le_of_eq (eg (os rfl oz)), le_of_eq (eg (os rfl (os rfl oz))), le_of_eq (eg (os rfl (os rfl (os rfl oz)))), trivial⟩, rfl, hz_2⟩
    · skip
      replace hz_4 := ifb_f hz_4 hc
      clear hc
      refine aw_exit ?_
      obtain rfl := some_of hz_4
      replace hz_2 := ocs_r hz_2
      refine wk_no ?_
      refine wk_yesN rfl (l := [(6, sl (kI .i64) none none t_3.1)]) (bs' := [⟨24, (flat (kI .u64) p1)⟩, ⟨43, (flat kB x_1)⟩]) ⟨(le_of_eq (eg (os rfl (os rfl oz)))).trans (sl_le _ (some (s.fr.length + 0)) none _), trivial⟩ (bnd_cons (sl_b (kb_I _)) bnd_nil) (Nat.le_of_ble_eq_true rfl) (by simp only [na, nb, nc, nd, nf, ng, nh, ni, nj, nk] <;> rfl) (bxle_same (bxle_same bxle_nil)) rfl (by simp only [na, nb, nc, nd, nf, ng, nh, ni, nj, nk] <;> rfl) (bl_cons (flatKB (kb_I _)) (bl_cons (flatKB kb_B) bl_nil)) ?_
      exact ⟨t_3.1, ⟨le_of_eq (eg oz), trivial⟩, rfl, some_of hz_2⟩
  · rintro e st ⟨vz_2, hH, rfl, rfl⟩
    refine aw_keep _ hH ?_
    refine aw_keep [(6, _)] ⟨lg oz, trivial⟩ ?_
    refine aw_seq ?_
    refine aw_region (by decide) ?_
    refine rts _ rfl (opD_move oz) ?_
    refine rts _ rfl (opD_assign lz) ?_
    refine .nil ?_
    refine aw_keep [(4, _)] ⟨lg lz, trivial⟩ ?_
    refine aw_ret ?_
    obtain rfl := some_of h0
    exact done_ext (.inr rfl) ((res_one rfl (it_tmp oz)).le (Pd.le_refl _)) (sl_b (kb_I _))

def F_rclean_b0 (fl : Nat) (p0 : (List (List Int))) (x_1 : ((List Bool))) (t_3 : Int) : Option ((Int) ⊕ ((Bool) ⊕ (Unit))) :=
  ifb ((decide (t_3 < (p0.length : Int))) && (decide (t_3 < 1024))) (ixb p0 t_3 fun x_5 => bnd (F_ropen fl x_5) fun x_6 => grd (Below t_3 1024) <| ixb x_1 ((t_3.toNat : Nat) : Int) fun x_7 => ifb (x_7 && (decide (x_6.2.2 ≠ 0))) (some (.inr (.inl false))) (some (.inl (IntKind.i64.wrap (t_3 + 1))))) (some (.inr (.inr ())))
def F_rclean (fl : Nat) (p0 : (List (List Int))) (p1 : (List Int)) : Option (Bool) :=
  grd (p1.length = 16) <| bnd (F_rof fl p1) fun x_1 => grd ((List.replicate 1024 (false : Bool)).length = 1024) <| grd (x_1.length = 1024) <| bnd (lp (F_rclean_b0 fl p0 x_1) fl 2) fun z_2 => ocs z_2 (fun qz_2_0 => some qz_2_0) fun z_2_0 => grd (p1.length = 16) <| bnd (F_rdirty fl p0 p1) fun x_8 => some (decide ((x_8.length : Int) = 0))
set_option maxRecDepth 100000 in
set_option maxHeartbeats 2000000 in
theorem c_rclean {fl : Nat} {p0 : (List (List Int))} {p1 : (List Int)} {R : Bool} (h0 : F_rclean fl p0 p1 = some R) : Pure Go.Proofs.Try.prog 11 [sl (kR (kI .u8)) none none p0, agg (flat (kI .u64) p1)] (pl (.bool R)) := by
  intro s
  unfold F_rclean at h0
  refine ac_of_aw s.boxes.length s.fr.length Go.Proofs.Try.func11 rfl (by simp [Go.Proofs.Try.ntmps11]) ?_
  refine aw_ext0 ?_
  refine aw_keep [(0, _), (1, _)] ⟨lg ez, lg (es ez), trivial⟩ ?_
  refine aw_seq ?_
  refine aw_region (by decide) ?_
  refine rts _ rfl (boxFN (k := kI .u64) (l := p1) rfl (os rfl oz) rfl (kb_I _) (by first | exact List.length_nil | (simp only [List.length_cons, List.length_nil, Nat.zero_add, Nat.reduceAdd] <;> rfl)) (by simp only [na, nb, nc, nd, nf, ng, nh, ni, nj, nk] <;> rfl)) ?_
  refine rts _ rfl (opD_assign (ev_const _ _)) ?_
  refine .nil ?_
  refine aw_keep [(0, _), (3, _)] ⟨lg (ls rfl (ls rfl oz)), lg (ls rfl lz), trivial⟩ ?_
  refine aw_seq ?_
  refine aw_region (by decide) ?_
  replace h0 := grd_some h0
  obtain ⟨hg_1, h0⟩ := h0
  refine rts _ rfl (loadFN ag24_uAb sz24_uAb (os rfl oz) (loc_getN rfl rfl) rfl hg_1) ?_
  replace h0 := bnd_some h0
  obtain ⟨x_1, hx_1, h0⟩ := h0
  refine rts _ rfl (opD_pure ht16_uAb (c_rof hx_1) ⟨le_of_eq lz, trivial⟩) ?_
  refine rts _ rfl (allocFN (k := kB) (x0 := false) (z := .bool false) (m := 1024) rfl (by kernel_rfl) rfl (by first | exact List.length_nil | (simp only [List.length_cons, List.length_nil, Nat.zero_add, Nat.reduceAdd] <;> rfl)) (by simp only [na, nb, nc, nd, nf, ng, nh, ni, nj, nk] <;> rfl)) ?_
  replace h0 := grd_some h0
  obtain ⟨hg_2, h0⟩ := h0
  replace h0 := grd_some h0
  obtain ⟨hg_3, h0⟩ := h0
  refine rts _ rfl (storeWF (k := kB) rfl sz43_uAb lz (ls rfl lz) rfl rfl hg_2 hg_3 (by decide) kb_B (by simp only [na, nb, nc, nd, nf, ng, nh, ni, nj, nk] <;> rfl)) ?_
  refine .nil ?_
  refine aw_keep [(0, _), (3, _), (5, _)] ⟨lg (lx (ls rfl (ls rfl (ls rfl oz)))), lg (lx (ls rfl (ls rfl (ls rfl (os rfl oz))))), lg (lx lz), trivial⟩ ?_
  refine aw_seq ?_
  refine aw_seq ?_
  refine aw_region (by decide) ?_
  refine rts _ rfl (opD_assign (ev_const _ _)) ?_
  refine .nil ?_
  refine aw_keep [(0, _), (3, _), (5, _), (6, _)] ⟨lg (ls rfl oz), lg (ls rfl (os rfl oz)), lg (ls rfl (os rfl (os rfl oz))), lg lz, trivial⟩ ?_
  replace h0 := bnd_some h0
  obtain ⟨z_2, hz_2, h0⟩ := h0
  refine aw_mid (fun e st => ∃ v : Unit, Holds e [(0, sl (kR (kI .u8)) none none p0), (3, ptr (s.boxes.length + 0) 0)] ∧ st = s.ext [⟨24, (flat (kI .u64) p1)⟩, ⟨43, (flat kB x_1)⟩] [] ∧ (.inr v) = z_2) ?_ ?_
  · skip
    refine aw_wkN rfl 2 0 rfl rfl ?_
    refine aw_block ?_
    refine aw_loop (fun n e st => ∃ v : Int, Holds e [(0, sl (kR (kI .u8)) none none p0), (3, ptr (s.boxes.length + 0) 0), (5, ptr (s.boxes.length + 1) 0), (6, pl (.int .i64 v))] ∧ st = s.ext [⟨24, (flat (kI .u64) p1)⟩, ⟨43, (flat kB x_1)⟩] [] ∧ lp (F_rclean_b0 fl p0 x_1) n v = some z_2) fl ⟨2, ⟨le_of_eq (eg oz), le_of_eq (eg (os rfl oz)), le_of_eq (eg (os rfl (os rfl oz))), le_of_eq (eg (os rfl (os rfl (os rfl oz)))), trivial⟩, rfl, hz_2⟩ ?_
    rintro n e st ⟨t_3, hH, rfl, hz_2⟩
    replace hz_2 := lp_some hz_2
    obtain ⟨m_z_4, z_4, rfl, hz_4, hz_2⟩ := hz_2
    unfold F_rclean_b0 at hz_4
    refine aw_keep _ hH ?_
    refine aw_wkN rfl 2 0 rfl rfl ?_
    refine aw_seq ?_
    refine aw_seq ?_
    refine aw_region (by decide) ?_
    refine rts _ rfl (opD_move (os rfl (os rfl (os rfl oz)))) ?_
    refine rts _ rfl (opD_move (ls rfl oz)) ?_
    refine rts _ rfl (opD_len_sl Go.Proofs.Try.underlying22 lz) ?_
    refine rts _ rfl (opD_lss (ls rfl (ls rfl lz)) lz) ?_
    refine rts _ rfl (opD_move lz) ?_
    refine rtg _ rfl lz (fun hg3_5_19 => opD_move (ls rfl (ls rfl (ls rfl (ls rfl (ls rfl (os rfl (os rfl (os rfl oz))))))))) ?_
    refine rtg _ rfl (ls rfl lz) (fun hg3_6_20 => opD_lss (lz.trans (pif_pos hg3_6_20)) (ev_const _ _)) ?_
    refine rts _ rfl (opD_and (ls rfl (ls rfl lz)) lz) ?_
    refine .nil ?_
    refine aw_keep [(0, _), (3, _), (5, _), (6, _), (19, _)] ⟨lg (ls rfl (ls rfl (ls rfl (ls rfl (ls rfl (ls rfl (ls rfl (ls rfl oz)))))))), lg (ls rfl (ls rfl (ls rfl (ls rfl (ls rfl (ls rfl (ls rfl (ls rfl (os rfl oz))))))))), lg (ls rfl (ls rfl (ls rfl (ls rfl (ls rfl (ls rfl (ls rfl (ls rfl (os rfl (os rfl oz)))))))))), lg (ls rfl (ls rfl (ls rfl (ls rfl (ls rfl (ls rfl (ls rfl (ls rfl (os rfl (os rfl (os rfl oz))))))))))), lg lz, trivial⟩ ?_
    refine aw_cond _ (os rfl (os rfl (os rfl (os rfl oz)))) (fun hc => ?_) (fun hc => ?_)
    · skip
      replace hz_4 := ifb_t hz_4 hc
      clear hc
      refine aw_skip ?_
      refine aw_keep [(0, _), (3, _), (5, _), (6, _)] ⟨lg oz, lg (os rfl oz), lg (os rfl (os rfl oz)), lg (os rfl (os rfl (os rfl oz))), trivial⟩ ?_
      refine aw_seq ?_
      refine aw_block ?_
      refine aw_seq ?_
      refine aw_region (by decide) ?_
      refine rts _ rfl (opD_move oz) ?_
      refine rts _ rfl (opD_move (ls rfl (os rfl (os rfl (os rfl oz))))) ?_
      replace hz_4 := ixb_some hz_4
      obtain ⟨x_5, hx_5, hbx_5, hz_4⟩ := hz_4
      refine rts _ rfl (opD_indexAddr_sl (i := t_3.toNat) Go.Proofs.Try.underlying22 sz26_uAb (ls rfl lz) lz hbx_5.2.2 hbx_5.2.1) ?_
      refine rts _ rfl (opD_load_el_one ag26_uAb lz hx_5 rfl) ?_
      replace hz_4 := bnd_some hz_4
      obtain ⟨x_6, hx_6, hz_4⟩ := hz_4
      refine rts _ rfl (opD_pure ht20_uAb (c_ropen hx_6) ⟨le_of_eq lz, trivial⟩) ?_
      refine rts _ rfl (opD_move lz) ?_
      refine rts _ rfl (opD_extract lz rfl) ?_
      refine rts _ rfl (opD_extract (ls rfl lz) rfl) ?_
      refine rts _ rfl (opD_extract (ls rfl (ls rfl lz)) rfl) ?_
      refine rts _ rfl (opD_assign (ls rfl (ls rfl lz))) ?_
      refine rts _ rfl (opD_assign (ls rfl (ls rfl lz))) ?_
      refine rts _ rfl (opD_assign (ls rfl (ls rfl lz))) ?_
      refine .nil ?_
      refine aw_keep [(0, _), (3, _), (5, _), (6, _), (9, _)] ⟨lg (ls rfl (ls rfl (ls rfl (ls rfl (ls rfl (ls rfl (ls rfl (ls rfl (ls rfl (ls rfl (ls rfl (ls rfl oz)))))))))))), lg (ls rfl (ls rfl (ls rfl (ls rfl (ls rfl (ls rfl (ls rfl (ls rfl (ls rfl (ls rfl (ls rfl (ls rfl (os rfl oz))))))))))))), lg (ls rfl (ls rfl (ls rfl (ls rfl (ls rfl (ls rfl (ls rfl (ls rfl (ls rfl (ls rfl (ls rfl (ls rfl (os rfl (os rfl oz)))))))))))))), lg (ls rfl (ls rfl (ls rfl (ls rfl (ls rfl (ls rfl (ls rfl (ls rfl (ls rfl (ls rfl (ls rfl (ls rfl (os rfl (os rfl (os rfl oz))))))))))))))), lg lz, trivial⟩ ?_
      refine aw_seq ?_
      refine aw_region (by decide) ?_
      refine rts _ rfl (opD_move (os rfl (os rfl (os rfl oz)))) ?_
      replace hz_4 := grd_some hz_4
      obtain ⟨hg_21, hz_4⟩ := hz_4
      refine rts _ rfl (opD_indexAddr_arr (i := t_3.toNat) Go.Proofs.Try.underlying43 sz4_uAb (ls rfl (os rfl (os rfl oz))) lz hg_21.eq hg_21.2) ?_
      replace hz_4 := ixb_some hz_4
      obtain ⟨x_7, hx_7, hbx_7, hz_4⟩ := hz_4
      refine rts _ rfl (opD_load_one ag4_uAb lz (loc_getN rfl rfl) (flat_at0 rfl (nat_ix hx_7) rfl)) ?_
      refine rts _ rfl (opD_move lz) ?_
      refine rtg _ rfl lz (fun hg6_4_22 => opD_move (ls rfl (ls rfl (ls rfl (ls rfl (os rfl (os rfl (os rfl (os rfl oz))))))))) ?_
      refine rtg _ rfl (ls rfl lz) (fun hg6_5_23 => opD_neq (lz.trans (pif_pos hg6_5_23)) (ev_const _ _)) ?_
      refine rts _ rfl (opD_and (ls rfl (ls rfl lz)) lz) ?_
      refine .nil ?_
      refine aw_keep [(0, _), (3, _), (5, _), (6, _), (37, _)] ⟨lg (ls rfl (ls rfl (ls rfl (ls rfl (ls rfl (ls rfl (ls rfl oz))))))), lg (ls rfl (ls rfl (ls rfl (ls rfl (ls rfl (ls rfl (ls rfl (os rfl oz)))))))), lg (ls rfl (ls rfl (ls rfl (ls rfl (ls rfl (ls rfl (ls rfl (os rfl (os rfl oz))))))))), lg (ls rfl (ls rfl (ls rfl (ls rfl (ls rfl (ls rfl (ls rfl (os rfl (os rfl (os rfl oz)))))))))), lg lz, trivial⟩ ?_
      refine aw_cond _ (os rfl (os rfl (os rfl (os rfl oz)))) (fun hc => ?_) (fun hc => ?_)
      · skip
        replace hz_4 := ifb_t hz_4 hc
        clear hc
        refine aw_seq ?_
        refine aw_region (by decide) ?_
        refine rts _ rfl (opD_assign (ev_const _ _)) ?_
        refine .nil ?_
        refine aw_keep [(4, _)] ⟨lg lz, trivial⟩ ?_
        refine aw_ret ?_
        obtain rfl := some_of hz_4
        replace hz_2 := ocs_r hz_2
        obtain rfl := some_of hz_2
        replace h0 := ocs_l h0
        refine wk_no ?_
        refine wk_no ?_
        obtain rfl := some_of h0
        exact done_ext (.inr rfl) ((res_one rfl (it_tmp oz)).le (Pd.le_refl _)) (pl_bnd _ _ _)
      · skip
        replace hz_4 := ifb_f hz_4 hc
        clear hc
        refine aw_skip ?_
        refine aw_keep [(0, _), (3, _), (5, _), (6, _)] ⟨lg oz, lg (os rfl oz), lg (os rfl (os rfl oz)), lg (os rfl (os rfl (os rfl oz))), trivial⟩ ?_
        refine aw_region (by decide) ?_
        refine rts _ rfl (opD_move (os rfl (os rfl (os rfl oz)))) ?_
        refine rts _ rfl (opD_add lz (ev_const _ _) rfl) ?_
        refine rts _ rfl (opD_assign lz) ?_
        refine .nil ?_
        obtain rfl := some_of hz_4
        replace hz_2 := ocs_l hz_2
        refine wk_yesN rfl (l := [(0, sl (kR (kI .u8)) none none p0), (3, ptr (s.boxes.length + 0) 0), (5, ptr (s.boxes.length + 1) 0), (6, pl (.int .i64 (IntKind.i64.wrap (t_3 + 1))))]) (bs' := [⟨24, (flat (kI .u64) p1)⟩, ⟨43, (flat kB x_1)⟩]) ⟨le_of_eq (eg (ls rfl (ls rfl (ls rfl oz)))), le_of_eq (eg (ls rfl (ls rfl (ls rfl (os rfl oz))))), le_of_eq (eg (ls rfl (ls rfl (ls rfl (os rfl (os rfl oz)))))), le_of_eq (eg lz), trivial⟩ (bnd_cons (sl_b (kb_R (kb_I _))) (bnd_cons (ptr_bnd _ (by first | omega | (simp only [List.length_append, List.length_cons, List.length_nil]; omega))) (bnd_cons (ptr_bnd _ (by first | omega | (simp only [List.length_append, List.length_cons, List.length_nil]; omega))) (bnd_cons (pl_bnd _ _ _) bnd_nil)))) (Nat.le_of_ble_eq_true rfl) (by simp only [na, nb, nc, nd, nf, ng, nh, ni, nj, nk] <;> rfl) (bxle_same (bxle_same bxle_nil)) rfl (by simp only [na, nb, nc, nd, nf, ng, nh, ni, nj, nk] <;> rfl) (bl_cons (flatKB (kb_I _)) (bl_cons (flatKB kb_B) bl_nil)) ?_
        exact ⟨m_z_4, Nat.lt_succ_self _, IntKind.i64.wrap (t_3 + 1), ⟨le_of_eq (eg oz), le_of_eq (eg (os rfl oz)), le_of_eq (eg (os rfl (os rfl oz))), le_of_eq (eg (os rfl (os rfl (os rfl oz)))), trivial⟩, rfl, hz_2⟩
    · skip
      replace hz_4 := ifb_f hz_4 hc
      clear hc
      refine aw_exit ?_
      obtain rfl := some_of hz_4
      replace hz_2 := ocs_r hz_2
      refine wk_no ?_
      refine wk_yesN rfl (l := [(0, sl (kR (kI .u8)) none none p0), (3, ptr (s.boxes.length + 0) 0)]) (bs' := [⟨24, (flat (kI .u64) p1)⟩, ⟨43, (flat kB x_1)⟩]) ⟨le_of_eq (eg oz), le_of_eq (eg (os rfl oz)), trivial⟩ (bnd_cons (sl_b (kb_R (kb_I _))) (bnd_cons (ptr_bnd _ (by first | omega | (simp only [List.length_append, List.length_cons, List.length_nil]; omega))) bnd_nil)) (Nat.le_of_ble_eq_true rfl) (by simp only [na, nb, nc, nd, nf, ng, nh, ni, nj, nk] <;> rfl) (bxle_same (bxle_same bxle_nil)) rfl (by simp only [na, nb, nc, nd, nf, ng, nh, ni, nj, nk] <;> rfl) (bl_cons (flatKB (kb_I _)) (bl_cons (flatKB kb_B) bl_nil)) ?_
      exact ⟨(), ⟨le_of_eq (eg oz), le_of_eq (eg (os rfl oz)), trivial⟩, rfl, some_of hz_2⟩
  · rintro e st ⟨vz_2, hH, rfl, rfl⟩
    refine aw_keep _ hH ?_
    replace h0 := ocs_r h0
    refine aw_keep [(0, _), (3, _)] ⟨lg oz, lg (os rfl oz), trivial⟩ ?_
    refine aw_seq ?_
    refine aw_region (by decide) ?_
    refine rts _ rfl (opD_move oz) ?_
    replace h0 := grd_some h0
    obtain ⟨hg_24, h0⟩ := h0
    refine rts _ rfl (loadFN ag24_uAb sz24_uAb (ls rfl (os rfl oz)) (loc_getN rfl rfl) rfl hg_24) ?_
    replace h0 := bnd_some h0
    obtain ⟨x_8, hx_8, h0⟩ := h0
    refine rts _ rfl (opD_pure ht7_uAb (c_rdirty hx_8) ⟨le_of_eq (ls rfl lz), le_of_eq lz, trivial⟩) ?_
    refine rts _ rfl (opD_len_sl Go.Proofs.Try.underlying27 lz) ?_
    refine rts _ rfl (opD_eql lz (ev_const _ _)) ?_
    refine rts _ rfl (opD_assign lz) ?_
    refine .nil ?_
    refine aw_keep [(4, _)] ⟨lg lz, trivial⟩ ?_
    refine aw_ret ?_
    obtain rfl := some_of h0
    exact done_ext (.inr rfl) ((res_one rfl (it_tmp oz)).le (Pd.le_refl _)) (pl_bnd _ _ _)

def F_rslack_b1 (p0 : (List (List Int))) (t_3 : Int × Int × Int) (x_8 : Int) (x_10 : Int) (t_11 : Int × Int × Int) : Option ((Int × Int × Int) ⊕ ((Int × Int))) :=
  ifb (decide (t_11.2.2 < 508)) (bnd (ifb (decide ((IntKind.i64.wrap (4 + (IntKind.i64.wrap ((IntKind.i64.wrap (256 * (IntKind.i64.wrap (x_8)))) + (IntKind.i64.wrap (x_10)))))) ≤ t_11.2.2)) (ixb p0 t_3.2.2 fun x_14 => ixb x_14 t_11.2.2 fun x_15 => ifb (decide (x_15 ≠ 0)) (some (IntKind.i64.wrap (t_11.1 + 1), IntKind.i64.wrap (t_11.2.1 + 1))) (some (IntKind.i64.wrap (t_11.1 + 1), t_11.2.1))) (some (t_11.1, t_11.2.1))) fun z_13 => some (.inl (z_13.1, z_13.2, IntKind.i64.wrap (t_11.2.2 + 1)))) (some (.inr (t_11.1, t_11.2.1)))
def F_rslack_b0 (fl : Nat) (p0 : (List (List Int))) (x_1 : ((List Bool))) (t_3 : Int × Int × Int) : Option ((Int × Int × Int) ⊕ ((Int × Int))) :=
  ifb ((decide (t_3.2.2 < (p0.length : Int))) && (decide (t_3.2.2 < 1024))) (bnd (grd (Below t_3.2.2 1024) <| ixb x_1 ((t_3.2.2.toNat : Nat) : Int) fun x_6 => grd (((!x_6) == false) = true → Below t_3.2.2 p0.length) <| ifb ((!x_6) || (decide (((p0.getD t_3.2.2.toNat default).length : Int) ≠ 512))) (some (t_3.1, t_3.2.1)) (ixb p0 t_3.2.2 fun x_7 => ixb x_7 2 fun x_8 => ixb p0 t_3.2.2 fun x_9 => ixb x_9 3 fun x_10 => lp (F_rslack_b1 p0 t_3 x_8 x_10) fl (t_3.1, t_3.2.1, 4))) fun z_5 => some (.inl (z_5.1, z_5.2, IntKind.i64.wrap (t_3.2.2 + 1)))) (some (.inr (t_3.1, t_3.2.1)))
def F_rslack (fl : Nat) (p0 : (List (List Int))) (p1 : (List Int)) : Option (Int × Int) :=
  grd (p1.length = 16) <| bnd (F_rof fl p1) fun x_1 => grd ((List.replicate 1024 (false : Bool)).length = 1024) <| grd (x_1.length = 1024) <| bnd (lp (F_rslack_b0 fl p0 x_1) fl (0, 0, 2)) fun z_2 => some (z_2.1, z_2.2)
set_option maxRecDepth 100000 in
set_option maxHeartbeats 2000000 in
theorem c_rslack {fl : Nat} {p0 : (List (List Int))} {p1 : (List Int)} {R : Int × Int} (h0 : F_rslack fl p0 p1 = some R) : Pure Go.Proofs.Try.prog 9 [sl (kR (kI .u8)) none none p0, agg (flat (kI .u64) p1)] (tup [pl (.int .i64 R.1), pl (.int .i64 R.2)]) := by
  intro s
  unfold F_rslack at h0
  refine ac_of_aw s.boxes.length s.fr.length Go.Proofs.Try.func9 rfl (by simp [Go.Proofs.Try.ntmps9]) ?_
  refine aw_ext0 ?_
  refine aw_keep [(0, _), (1, _)] ⟨lg ez, lg (es ez), trivial⟩ ?_
  refine aw_seq ?_
  refine aw_region (by decide) ?_
  refine rts _ rfl (boxFN (k := kI .u64) (l := p1) rfl (os rfl oz) rfl (kb_I _) (by first | exact List.length_nil | (simp only [List.length_cons, List.length_nil, Nat.zero_add, Nat.reduceAdd] <;> rfl)) (by simp only [na, nb, nc, nd, nf, ng, nh, ni, nj, nk] <;> rfl)) ?_
  refine rts _ rfl (opD_assign (ev_const _ _)) ?_
  refine rts _ rfl (opD_assign (ev_const _ _)) ?_
  refine .nil ?_
  refine aw_keep [(0, _), (3, _)] ⟨lg (ls rfl (ls rfl (ls rfl oz))), lg (ls rfl (ls rfl lz)), trivial⟩ ?_
  refine aw_seq ?_
  refine aw_region (by decide) ?_
  replace h0 := grd_some h0
  obtain ⟨hg_1, h0⟩ := h0
  refine rts _ rfl (loadFN ag24_uAb sz24_uAb (os rfl oz) (loc_getN rfl rfl) rfl hg_1) ?_
  replace h0 := bnd_some h0
  obtain ⟨x_1, hx_1, h0⟩ := h0
  refine rts _ rfl (opD_pure ht16_uAb (c_rof hx_1) ⟨le_of_eq lz, trivial⟩) ?_
  refine rts _ rfl (allocFN (k := kB) (x0 := false) (z := .bool false) (m := 1024) rfl (by kernel_rfl) rfl (by first | exact List.length_nil | (simp only [List.length_cons, List.length_nil, Nat.zero_add, Nat.reduceAdd] <;> rfl)) (by simp only [na, nb, nc, nd, nf, ng, nh, ni, nj, nk] <;> rfl)) ?_
  replace h0 := grd_some h0
  obtain ⟨hg_2, h0⟩ := h0
  replace h0 := grd_some h0
  obtain ⟨hg_3, h0⟩ := h0
  refine rts _ rfl (storeWF (k := kB) rfl sz43_uAb lz (ls rfl lz) rfl rfl hg_2 hg_3 (by decide) kb_B (by simp only [na, nb, nc, nd, nf, ng, nh, ni, nj, nk] <;> rfl)) ?_
  refine .nil ?_
  refine aw_keep [(0, _), (6, _)] ⟨lg (lx (ls rfl (ls rfl (ls rfl oz)))), lg (lx lz), trivial⟩ ?_
  refine aw_seq ?_
  refine aw_region (by decide) ?_
  refine rts _ rfl (opD_assign (ev_const _ _)) ?_
  refine rts _ rfl (opD_assign (ev_const _ _)) ?_
  refine .nil ?_
  refine aw_keep [(0, _), (6, _), (7, _), (8, _)] ⟨lg (ls rfl (ls rfl oz)), lg (ls rfl (ls rfl (os rfl oz))), lg (ls rfl lz), lg lz, trivial⟩ ?_
  refine aw_seq ?_
  refine aw_seq ?_
  refine aw_region (by decide) ?_
  refine rts _ rfl (opD_assign (ev_const _ _)) ?_
  refine .nil ?_
  refine aw_keep [(0, _), (6, _), (7, _), (8, _), (9, _)] ⟨lg (ls rfl oz), lg (ls rfl (os rfl oz)), lg (ls rfl (os rfl (os rfl oz))), lg (ls rfl (os rfl (os rfl (os rfl oz)))), lg lz, trivial⟩ ?_
  replace h0 := bnd_some h0
  obtain ⟨z_2, hz_2, h0⟩ := h0
  refine aw_mid (fun e st => ∃ v : Int × Int, Holds e [(7, pl (.int .i64 v.1)), (8, pl (.int .i64 v.2))] ∧ st = s.ext [⟨24, (flat (kI .u64) p1)⟩, ⟨43, (flat kB x_1)⟩] [] ∧ v = z_2) ?_ ?_
  · skip
    refine aw_wkN rfl 2 0 rfl rfl ?_
    refine aw_block ?_
    refine aw_loop (fun n e st => ∃ v : Int × Int × Int, Holds e [(0, sl (kR (kI .u8)) none none p0), (6, ptr (s.boxes.length + 1) 0), (7, pl (.int .i64 v.1)), (8, pl (.int .i64 v.2.1)), (9, pl (.int .i64 v.2.2))] ∧ st = s.ext [⟨24, (flat (kI .u64) p1)⟩, ⟨43, (flat kB x_1)⟩] [] ∧ lp (F_rslack_b0 fl p0 x_1) n v = some z_2) fl ⟨(0, 0, 2), ⟨le_of_eq (eg oz), le_of_eq (eg (os rfl oz)), le_of_eq (eg (os rfl (os rfl oz))), le_of_eq (eg (os rfl (os rfl (os rfl oz)))), le_of_eq (eg (os rfl (os rfl (os rfl (os rfl oz))))), trivial⟩, rfl, hz_2⟩ ?_
    rintro n e st ⟨t_3, hH, rfl, hz_2⟩
    replace hz_2 := lp_some hz_2
    obtain ⟨m_z_4, z_4, rfl, hz_4, hz_2⟩ := hz_2
    unfold F_rslack_b0 at hz_4
    refine aw_keep _ hH ?_
    refine aw_wkN rfl 2 0 rfl rfl ?_
    refine aw_seq ?_
    refine aw_seq ?_
    refine aw_region (by decide) ?_
    refine rts _ rfl (opD_move (os rfl (os rfl (os rfl (os rfl oz))))) ?_
    refine rts _ rfl (opD_move (ls rfl oz)) ?_
    refine rts _ rfl (opD_len_sl Go.Proofs.Try.underlying22 lz) ?_
    refine rts _ rfl (opD_lss (ls rfl (ls rfl lz)) lz) ?_
    refine rts _ rfl (opD_move lz) ?_
    refine rtg _ rfl lz (fun hg4_5_58 => opD_move (ls rfl (ls rfl (ls rfl (ls rfl (ls rfl (os rfl (os rfl (os rfl (os rfl oz)))))))))) ?_
    refine rtg _ rfl (ls rfl lz) (fun hg4_6_59 => opD_lss (lz.trans (pif_pos hg4_6_59)) (ev_const _ _)) ?_
    refine rts _ rfl (opD_and (ls rfl (ls rfl lz)) lz) ?_
    refine .nil ?_
    refine aw_keep [(0, _), (6, _), (7, _), (8, _), (9, _), (21, _)] ⟨lg (ls rfl (ls rfl (ls rfl (ls rfl (ls rfl (ls rfl (ls rfl (ls rfl oz)))))))), lg (ls rfl (ls rfl (ls rfl (ls rfl (ls rfl (ls rfl (ls rfl (ls rfl (os rfl oz))))))))), lg (ls rfl (ls rfl (ls rfl (ls rfl (ls rfl (ls rfl (ls rfl (ls rfl (os rfl (os rfl oz)))))))))), lg (ls rfl (ls rfl (ls rfl (ls rfl (ls rfl (ls rfl (ls rfl (ls rfl (os rfl (os rfl (os rfl oz))))))))))), lg (ls rfl (ls rfl (ls rfl (ls rfl (ls rfl (ls rfl (ls rfl (ls rfl (os rfl (os rfl (os rfl (os rfl oz)))))))))))), lg lz, trivial⟩ ?_
    refine aw_cond _ (os rfl (os rfl (os rfl (os rfl (os rfl oz))))) (fun hc => ?_) (fun hc => ?_)
    · skip
      replace hz_4 := ifb_t hz_4 hc
      clear hc
      refine aw_skip ?_
      refine aw_keep [(0, _), (6, _), (7, _), (8, _), (9, _)] ⟨lg oz, lg (os rfl oz), lg (os rfl (os rfl oz)), lg (os rfl (os rfl (os rfl oz))), lg (os rfl (os rfl (os rfl (os rfl oz)))), trivial⟩ ?_
      refine aw_seq ?_
      replace hz_4 := bnd_some hz_4
      obtain ⟨z_5, hz_5, hz_4⟩ := hz_4
      refine aw_mid (fun e st => ∃ v : Int × Int, Holds e [(0, sl (kR (kI .u8)) none none p0), (6, ptr (s.boxes.length + 1) 0), (7, pl (.int .i64 v.1)), (8, pl (.int .i64 v.2)), (9, pl (.int .i64 t_3.2.2))] ∧ st = s.ext [⟨24, (flat (kI .u64) p1)⟩, ⟨43, (flat kB x_1)⟩] [] ∧ v = z_5) ?_ ?_
      · skip
        refine aw_wkN rfl 2 0 rfl rfl ?_
        refine aw_block ?_
        refine aw_seq ?_
        refine aw_seq ?_
        refine aw_region (by decide) ?_
        refine rts _ rfl (opD_move (os rfl (os rfl (os rfl (os rfl oz))))) ?_
        replace hz_5 := grd_some hz_5
        obtain ⟨hg_68, hz_5⟩ := hz_5
        refine rts _ rfl (opD_indexAddr_arr (i := t_3.2.2.toNat) Go.Proofs.Try.underlying43 sz4_uAb (ls rfl (os rfl oz)) lz hg_68.eq hg_68.2) ?_
        replace hz_5 := ixb_some hz_5
        obtain ⟨x_6, hx_6, hbx_6, hz_5⟩ := hz_5
        refine rts _ rfl (opD_load_one ag4_uAb lz (loc_getN rfl rfl) (flat_at0 rfl (nat_ix hx_6) rfl)) ?_
        refine rts _ rfl (opD_not lz) ?_
        refine rts _ rfl (opD_move lz) ?_
        refine rtg _ rfl lz (fun hg6_5_69 => opD_move (ls rfl (ls rfl (ls rfl (ls rfl (ls rfl oz)))))) ?_
        refine rtg _ rfl (ls rfl lz) (fun hg6_6_70 => opD_move (ls rfl (ls rfl (ls rfl (ls rfl (ls rfl (ls rfl (os rfl (os rfl (os rfl (os rfl oz))))))))))) ?_
        replace hz_5 := grd_some hz_5
        obtain ⟨hg_72, hz_5⟩ := hz_5
        refine rtg _ rfl (ls rfl (ls rfl lz)) (fun hg6_7_71 => opD_indexAddr_sl (i := t_3.2.2.toNat) Go.Proofs.Try.underlying22 sz26_uAb ((ls rfl lz).trans (pif_pos hg6_7_71)) (lz.trans (pif_pos hg6_7_71)) (hg_72 hg6_7_71).eq (hg_72 hg6_7_71).2) ?_
        refine rtg _ rfl (ls rfl (ls rfl (ls rfl lz))) (fun hg6_8_73 => opD_load_el_one ag26_uAb (lz.trans (pif_pos hg6_8_73)) (at_getD default (hg_72 hg6_8_73).2) rfl) ?_
        refine rtg _ rfl (ls rfl (ls rfl (ls rfl (ls rfl lz)))) (fun hg6_9_74 => opD_len_sl Go.Proofs.Try.underlying26 (lz.trans (pif_pos hg6_9_74))) ?_
        refine rtg _ rfl (ls rfl (ls rfl (ls rfl (ls rfl (ls rfl lz))))) (fun hg6_10_75 => opD_neq (lz.trans (pif_pos hg6_10_75)) (ev_const _ _)) ?_
        refine rts _ rfl (opD_or (ls rfl (ls rfl (ls rfl (ls rfl (ls rfl (ls rfl lz)))))) lz) ?_
        refine .nil ?_
        refine aw_keep [(0, _), (6, _), (7, _), (8, _), (9, _), (35, _)] ⟨lg (ls rfl (ls rfl (ls rfl (ls rfl (ls rfl (ls rfl (ls rfl (ls rfl (ls rfl (ls rfl (ls rfl (ls rfl oz)))))))))))), lg (ls rfl (ls rfl (ls rfl (ls rfl (ls rfl (ls rfl (ls rfl (ls rfl (ls rfl (ls rfl (ls rfl (ls rfl (os rfl oz))))))))))))), lg (ls rfl (ls rfl (ls rfl (ls rfl (ls rfl (ls rfl (ls rfl (ls rfl (ls rfl (ls rfl (ls rfl (ls rfl (os rfl (os rfl oz)))))))))))))), lg (ls rfl (ls rfl (ls rfl (ls rfl (ls rfl (ls rfl (ls rfl (ls rfl (ls rfl (ls rfl (ls rfl (ls rfl (os rfl (os rfl (os rfl oz))))))))))))))), lg (ls rfl (ls rfl (ls rfl (ls rfl (ls rfl (ls rfl (ls rfl (ls rfl (ls rfl (ls rfl (ls rfl (ls rfl (os rfl (os rfl (os rfl (os rfl oz)))))))))))))))), lg lz, trivial⟩ ?_
        refine aw_cond _ (os rfl (os rfl (os rfl (os rfl (os rfl oz))))) (fun hc => ?_) (fun hc => ?_)
        · skip
          replace hz_5 := ifb_t hz_5 hc
          clear hc
          refine aw_exit ?_
          refine wk_yesN rfl (l := [(0, sl (kR (kI .u8)) none none p0), (6, ptr (s.boxes.length + 1) 0), (7, pl (.int .i64 t_3.1)), (8, pl (.int .i64 t_3.2.1)), (9, pl (.int .i64 t_3.2.2))]) (bs' := [⟨24, (flat (kI .u64) p1)⟩, ⟨43, (flat kB x_1)⟩]) ⟨le_of_eq (eg oz), le_of_eq (eg (os rfl oz)), le_of_eq (eg (os rfl (os rfl oz))), le_of_eq (eg (os rfl (os rfl (os rfl oz)))), le_of_eq (eg (os rfl (os rfl (os rfl (os rfl oz))))), trivial⟩ (bnd_cons (sl_b (kb_R (kb_I _))) (bnd_cons (ptr_bnd _ (by first | omega | (simp only [List.length_append, List.length_cons, List.length_nil]; omega))) (bnd_cons (pl_bnd _ _ _) (bnd_cons (pl_bnd _ _ _) (bnd_cons (pl_bnd _ _ _) bnd_nil))))) (Nat.le_of_ble_eq_true rfl) (by simp only [na, nb, nc, nd, nf, ng, nh, ni, nj, nk] <;> rfl) (bxle_same (bxle_same bxle_nil)) rfl (by simp only [na, nb, nc, nd, nf, ng, nh, ni, nj, nk] <;> rfl) (bl_cons (flatKB (kb_I _)) (bl_cons (flatKB kb_B) bl_nil)) ?_
          exact ⟨(t_3.1, t_3.2.1), ⟨le_of_eq (eg oz), le_of_eq (eg (os rfl oz)), le_of_eq (eg (os rfl (os rfl oz))), le_of_eq (eg (os rfl (os rfl (os rfl oz)))), le_of_eq (eg (os rfl (os rfl (os rfl (os rfl oz))))), trivial⟩, rfl, some_of hz_5⟩
        · skip
          replace hz_5 := ifb_f hz_5 hc
          clear hc
          refine aw_skip ?_
          refine aw_keep [(0, _), (6, _), (7, _), (8, _), (9, _)] ⟨lg oz, lg (os rfl oz), lg (os rfl (os rfl oz)), lg (os rfl (os rfl (os rfl oz))), lg (os rfl (os rfl (os rfl (os rfl oz)))), trivial⟩ ?_
          refine aw_seq ?_
          refine aw_flat mixed_uAb (by decide +kernel) ?_
          refine zts _ rfl (opD_move oz) ?_
          refine zts _ rfl (opD_move (ls rfl (os rfl (os rfl (os rfl (os rfl oz)))))) ?_
          replace hz_5 := ixb_some hz_5
          obtain ⟨x_7, hx_7, hbx_7, hz_5⟩ := hz_5
          refine zts _ rfl (opD_indexAddr_sl (i := t_3.2.2.toNat) Go.Proofs.Try.underlying22 sz26_uAb (ls rfl lz) lz hbx_7.2.2 hbx_7.2.1) ?_
          refine zts _ rfl (opD_load_el_one ag26_uAb lz hx_7 rfl) ?_
          replace hz_5 := ixb_some hz_5
          obtain ⟨x_8, hx_8, hbx_8, hz_5⟩ := hz_5
          refine zts _ rfl (opD_indexAddr_sl (i := (2 : Int).toNat) Go.Proofs.Try.underlying26 sz5_uAb lz (ev_const _ _) hbx_8.2.2 hbx_8.2.1) ?_
          refine zts _ rfl (opD_load_el_one ag5_uAb lz hx_8 rfl) ?_
          refine zts _ rfl (opD_conv_int Go.Proofs.Try.underlying5 Go.Proofs.Try.underlying3 lz rfl) ?_
          refine zts _ rfl (opD_mul (ev_const _ _) lz rfl) ?_
          refine zts _ rfl (opD_move (ls rfl (ls rfl (ls rfl (ls rfl (ls rfl (ls rfl (ls rfl (ls rfl oz))))))))) ?_
          refine zts _ rfl (opD_move (ls rfl (ls rfl (ls rfl (ls rfl (ls rfl (ls rfl (ls rfl (ls rfl (ls rfl (os rfl (os rfl (os rfl (os rfl oz)))))))))))))) ?_
          replace hz_5 := ixb_some hz_5
          obtain ⟨x_9, hx_9, hbx_9, hz_5⟩ := hz_5
          refine zts _ rfl (opD_indexAddr_sl (i := t_3.2.2.toNat) Go.Proofs.Try.underlying22 sz26_uAb (ls rfl lz) lz hbx_9.2.2 hbx_9.2.1) ?_
          refine zts _ rfl (opD_load_el_one ag26_uAb lz hx_9 rfl) ?_
          replace hz_5 := ixb_some hz_5
          obtain ⟨x_10, hx_10, hbx_10, hz_5⟩ := hz_5
          refine zts _ rfl (opD_indexAddr_sl (i := (3 : Int).toNat) Go.Proofs.Try.underlying26 sz5_uAb lz (ev_const _ _) hbx_10.2.2 hbx_10.2.1) ?_
          refine zts _ rfl (opD_load_el_one ag5_uAb lz hx_10 rfl) ?_
          refine zts _ rfl (opD_conv_int Go.Proofs.Try.underlying5 Go.Proofs.Try.underlying3 lz rfl) ?_
          refine zts _ rfl (opD_add (ls rfl (ls rfl (ls rfl (ls rfl (ls rfl (ls rfl (ls rfl lz))))))) lz rfl) ?_
          refine zts _ rfl (opD_assign lz) ?_
          refine .nil ?_
          refine aw_keep [(0, _), (6, _), (7, _), (8, _), (9, _), (10, _)] ⟨lg (ls rfl (ls rfl (ls rfl (ls rfl (ls rfl (ls rfl (ls rfl (ls rfl (ls rfl (ls rfl (ls rfl (ls rfl (ls rfl (ls rfl (ls rfl (ls rfl (ls rfl oz))))))))))))))))), lg (ls rfl (ls rfl (ls rfl (ls rfl (ls rfl (ls rfl (ls rfl (ls rfl (ls rfl (ls rfl (ls rfl (ls rfl (ls rfl (ls rfl (ls rfl (ls rfl (ls rfl (os rfl oz)))))))))))))))))), lg (ls rfl (ls rfl (ls rfl (ls rfl (ls rfl (ls rfl (ls rfl (ls rfl (ls rfl (ls rfl (ls rfl (ls rfl (ls rfl (ls rfl (ls rfl (ls rfl (ls rfl (os rfl (os rfl oz))))))))))))))))))), lg (ls rfl (ls rfl (ls rfl (ls rfl (ls rfl (ls rfl (ls rfl (ls rfl (ls rfl (ls rfl (ls rfl (ls rfl (ls rfl (ls rfl (ls rfl (ls rfl (ls rfl (os rfl (os rfl (os rfl oz)))))))))))))))))))), lg (ls rfl (ls rfl (ls rfl (ls rfl (ls rfl (ls rfl (ls rfl (ls rfl (ls rfl (ls rfl (ls rfl (ls rfl (ls rfl (ls rfl (ls rfl (ls rfl (ls rfl (os rfl (os rfl (os rfl (os rfl oz))))))))))))))))))))), lg lz, trivial⟩ ?_
          refine aw_seq ?_
          refine aw_region (by decide) ?_
          refine rts _ rfl (opD_assign (ev_const _ _)) ?_
          refine .nil ?_
          refine aw_keep [(0, _), (6, _), (7, _), (8, _), (9, _), (10, _), (11, _)] ⟨lg (ls rfl oz), lg (ls rfl (os rfl oz)), lg (ls rfl (os rfl (os rfl oz))), lg (ls rfl (os rfl (os rfl (os rfl oz)))), lg (ls rfl (os rfl (os rfl (os rfl (os rfl oz))))), lg (ls rfl (os rfl (os rfl (os rfl (os rfl (os rfl oz)))))), lg lz, trivial⟩ ?_
          refine aw_block ?_
          refine aw_loop (fun n e st => ∃ v : Int × Int × Int, Holds e [(0, sl (kR (kI .u8)) none none p0), (6, ptr (s.boxes.length + 1) 0), (7, pl (.int .i64 v.1)), (8, pl (.int .i64 v.2.1)), (9, pl (.int .i64 t_3.2.2)), (10, pl (.int .i64 (IntKind.i64.wrap ((IntKind.i64.wrap (256 * (IntKind.i64.wrap (x_8)))) + (IntKind.i64.wrap (x_10)))))), (11, pl (.int .i64 v.2.2))] ∧ st = s.ext [⟨24, (flat (kI .u64) p1)⟩, ⟨43, (flat kB x_1)⟩] [] ∧ lp (F_rslack_b1 p0 t_3 x_8 x_10) n v = some z_5) fl ⟨(t_3.1, t_3.2.1, 4), ⟨le_of_eq (eg oz), le_of_eq (eg (os rfl oz)), le_of_eq (eg (os rfl (os rfl oz))), le_of_eq (eg (os rfl (os rfl (os rfl oz)))), le_of_eq (eg (os rfl (os rfl (os rfl (os rfl oz))))), le_of_eq (eg (os rfl (os rfl (os rfl (os rfl (os rfl oz)))))), le_of_eq (eg (os rfl (os rfl (os rfl (os rfl (os rfl (os rfl oz))))))), trivial⟩, rfl, hz_5⟩ ?_
          rintro n e st ⟨t_11, hH, rfl, hz_5⟩
          replace hz_5 := lp_some hz_5
          obtain ⟨m_z_12, z_12, rfl, hz_12, hz_5⟩ := hz_5
          unfold F_rslack_b1 at hz_12
          refine aw_keep _ hH ?_
          refine aw_wkN rfl 2 0 rfl rfl ?_
          refine aw_seq ?_
          refine aw_seq ?_
          refine aw_region (by decide) ?_
          refine rts _ rfl (opD_move (os rfl (os rfl (os rfl (os rfl (os rfl (os rfl oz))))))) ?_
          refine rts _ rfl (opD_lss lz (ev_const _ _)) ?_
          refine .nil ?_
          refine aw_keep [(0, _), (6, _), (7, _), (8, _), (9, _), (10, _), (11, _), (53, _)] ⟨lg (ls rfl (ls rfl oz)), lg (ls rfl (ls rfl (os rfl oz))), lg (ls rfl (ls rfl (os rfl (os rfl oz)))), lg (ls rfl (ls rfl (os rfl (os rfl (os rfl oz))))), lg (ls rfl (ls rfl (os rfl (os rfl (os rfl (os rfl oz)))))), lg (ls rfl (ls rfl (os rfl (os rfl (os rfl (os rfl (os rfl oz))))))), lg (ls rfl (ls rfl (os rfl (os rfl (os rfl (os rfl (os rfl (os rfl oz)))))))), lg lz, trivial⟩ ?_
          refine aw_cond _ (os rfl (os rfl (os rfl (os rfl (os rfl (os rfl (os rfl oz))))))) (fun hc => ?_) (fun hc => ?_)
          · skip
            replace hz_12 := ifb_t hz_12 hc
            clear hc
            refine aw_skip ?_
            refine aw_keep [(0, _), (6, _), (7, _), (8, _), (9, _), (10, _), (11, _)] ⟨lg oz, lg (os rfl oz), lg (os rfl (os rfl oz)), lg (os rfl (os rfl (os rfl oz))), lg (os rfl (os rfl (os rfl (os rfl oz)))), lg (os rfl (os rfl (os rfl (os rfl (os rfl oz))))), lg (os rfl (os rfl (os rfl (os rfl (os rfl (os rfl oz)))))), trivial⟩ ?_
            refine aw_seq ?_
            replace hz_12 := bnd_some hz_12
            obtain ⟨z_13, hz_13, hz_12⟩ := hz_12
            refine aw_mid (fun e st => ∃ v : Int × Int, Holds e [(0, sl (kR (kI .u8)) none none p0), (6, ptr (s.boxes.length + 1) 0), (7, pl (.int .i64 v.1)), (8, pl (.int .i64 v.2)), (9, pl (.int .i64 t_3.2.2)), (10, pl (.int .i64 (IntKind.i64.wrap ((IntKind.i64.wrap (256 * (IntKind.i64.wrap (x_8)))) + (IntKind.i64.wrap (x_10)))))), (11, pl (.int .i64 t_11.2.2))] ∧ st = s.ext [⟨24, (flat (kI .u64) p1)⟩, ⟨43, (flat kB x_1)⟩] [] ∧ v = z_13) ?_ ?_
            · skip
              refine aw_wkN rfl 2 0 rfl rfl ?_
              refine aw_block ?_
              refine aw_seq ?_
              refine aw_region (by decide) ?_
              refine rts _ rfl (opD_move (os rfl (os rfl (os rfl (os rfl (os rfl (os rfl oz))))))) ?_
              refine rts _ rfl (opD_move (ls rfl (os rfl (os rfl (os rfl (os rfl (os rfl oz))))))) ?_
              refine rts _ rfl (opD_add (ev_const _ _) lz rfl) ?_
              refine rts _ rfl (opD_geq (ls rfl (ls rfl lz)) lz) ?_
              refine .nil ?_
              refine aw_keep [(0, _), (6, _), (7, _), (8, _), (9, _), (10, _), (11, _), (59, _)] ⟨lg (ls rfl (ls rfl (ls rfl (ls rfl oz)))), lg (ls rfl (ls rfl (ls rfl (ls rfl (os rfl oz))))), lg (ls rfl (ls rfl (ls rfl (ls rfl (os rfl (os rfl oz)))))), lg (ls rfl (ls rfl (ls rfl (ls rfl (os rfl (os rfl (os rfl oz))))))), lg (ls rfl (ls rfl (ls rfl (ls rfl (os rfl (os rfl (os rfl (os rfl oz)))))))), lg (ls rfl (ls rfl (ls rfl (ls rfl (os rfl (os rfl (os rfl (os rfl (os rfl oz))))))))), lg (ls rfl (ls rfl (ls rfl (ls rfl (os rfl (os rfl (os rfl (os rfl (os rfl (os rfl oz)))))))))), lg lz, trivial⟩ ?_
              refine aw_cond _ (os rfl (os rfl (os rfl (os rfl (os rfl (os rfl (os rfl oz))))))) (fun hc => ?_) (fun hc => ?_)
              · skip
                replace hz_13 := ifb_t hz_13 hc
                clear hc
                refine aw_seq ?_
                refine aw_region (by decide) ?_
                refine rts _ rfl (opD_move (os rfl (os rfl oz))) ?_
                refine rts _ rfl (opD_add lz (ev_const _ _) rfl) ?_
                refine rts _ rfl (opD_assign lz) ?_
                refine .nil ?_
                refine aw_keep [(0, _), (6, _), (7, _), (8, _), (9, _), (10, _), (11, _)] ⟨lg (ls rfl (ls rfl (ls rfl oz))), lg (ls rfl (ls rfl (ls rfl (os rfl oz)))), lg lz, lg (ls rfl (ls rfl (ls rfl (os rfl (os rfl (os rfl oz)))))), lg (ls rfl (ls rfl (ls rfl (os rfl (os rfl (os rfl (os rfl oz))))))), lg (ls rfl (ls rfl (ls rfl (os rfl (os rfl (os rfl (os rfl (os rfl oz)))))))), lg (ls rfl (ls rfl (ls rfl (os rfl (os rfl (os rfl (os rfl (os rfl (os rfl oz))))))))), trivial⟩ ?_
                refine aw_seq ?_
                refine aw_region (by decide) ?_
                refine rts _ rfl (opD_move oz) ?_
                refine rts _ rfl (opD_move (ls rfl (os rfl (os rfl (os rfl (os rfl oz)))))) ?_
                replace hz_13 := ixb_some hz_13
                obtain ⟨x_14, hx_14, hbx_14, hz_13⟩ := hz_13
                refine rts _ rfl (opD_indexAddr_sl (i := t_3.2.2.toNat) Go.Proofs.Try.underlying22 sz26_uAb (ls rfl lz) lz hbx_14.2.2 hbx_14.2.1) ?_
                refine rts _ rfl (opD_load_el_one ag26_uAb lz hx_14 rfl) ?_
                refine rts _ rfl (opD_move (ls rfl (ls rfl (ls rfl (ls rfl (os rfl (os rfl (os rfl (os rfl (os rfl (os rfl oz))))))))))) ?_
                replace hz_13 := ixb_some hz_13
                obtain ⟨x_15, hx_15, hbx_15, hz_13⟩ := hz_13
                refine rts _ rfl (opD_indexAddr_sl (i := t_11.2.2.toNat) Go.Proofs.Try.underlying26 sz5_uAb (ls rfl lz) lz hbx_15.2.2 hbx_15.2.1) ?_
                refine rts _ rfl (opD_load_el_one ag5_uAb lz hx_15 rfl) ?_
                refine rts _ rfl (opD_neq lz (ev_const _ _)) ?_
                refine .nil ?_
                refine aw_keep [(0, _), (6, _), (7, _), (8, _), (9, _), (10, _), (11, _), (69, _)] ⟨lg (ls rfl (ls rfl (ls rfl (ls rfl (ls rfl (ls rfl (ls rfl (ls rfl oz)))))))), lg (ls rfl (ls rfl (ls rfl (ls rfl (ls rfl (ls rfl (ls rfl (ls rfl (os rfl oz))))))))), lg (ls rfl (ls rfl (ls rfl (ls rfl (ls rfl (ls rfl (ls rfl (ls rfl (os rfl (os rfl oz)))))))))), lg (ls rfl (ls rfl (ls rfl (ls rfl (ls rfl (ls rfl (ls rfl (ls rfl (os rfl (os rfl (os rfl oz))))))))))), lg (ls rfl (ls rfl (ls rfl (ls rfl (ls rfl (ls rfl (ls rfl (ls rfl (os rfl (os rfl (os rfl (os rfl oz)))))))))))), lg (ls rfl (ls rfl (ls rfl (ls rfl (ls rfl (ls rfl (ls rfl (ls rfl (os rfl (os rfl (os rfl (os rfl (os rfl oz))))))))))))), lg (ls rfl (ls rfl (ls rfl (ls rfl (ls rfl (ls rfl (ls rfl (ls rfl (os rfl (os rfl (os rfl (os rfl (os rfl (os rfl oz)))))))))))))), lg lz, trivial⟩ ?_
                refine aw_cond _ (os rfl (os rfl (os rfl (os rfl (os rfl (os rfl (os rfl oz))))))) (fun hc => ?_) (fun hc => ?_)
                · skip
                  replace hz_13 := ifb_t hz_13 hc
                  clear hc
                  refine aw_region (by decide) ?_
                  refine rts _ rfl (opD_move (os rfl (os rfl (os rfl oz)))) ?_
                  refine rts _ rfl (opD_add lz (ev_const _ _) rfl) ?_
                  refine rts _ rfl (opD_assign lz) ?_
                  refine .nil ?_
                  refine wk_yesN rfl (l := [(0, sl (kR (kI .u8)) none none p0), (6, ptr (s.boxes.length + 1) 0), (7, pl (.int .i64 (IntKind.i64.wrap (t_11.1 + 1)))), (8, pl (.int .i64 (IntKind.i64.wrap (t_11.2.1 + 1)))), (9, pl (.int .i64 t_3.2.2)), (10, pl (.int .i64 (IntKind.i64.wrap ((IntKind.i64.wrap (256 * (IntKind.i64.wrap (x_8)))) + (IntKind.i64.wrap (x_10)))))), (11, pl (.int .i64 t_11.2.2))]) (bs' := [⟨24, (flat (kI .u64) p1)⟩, ⟨43, (flat kB x_1)⟩]) ⟨le_of_eq (eg (ls rfl (ls rfl (ls rfl oz)))), le_of_eq (eg (ls rfl (ls rfl (ls rfl (os rfl oz))))), le_of_eq (eg (ls rfl (ls rfl (ls rfl (os rfl (os rfl oz)))))), le_of_eq (eg lz), le_of_eq (eg (ls rfl (ls rfl (ls rfl (os rfl (os rfl (os rfl (os rfl oz)))))))), le_of_eq (eg (ls rfl (ls rfl (ls rfl (os rfl (os rfl (os rfl (os rfl (os rfl oz))))))))), le_of_eq (eg (ls rfl (ls rfl (ls rfl (os rfl (os rfl (os rfl (os rfl (os rfl (os rfl oz)))))))))), trivial⟩ (bnd_cons (sl_b (kb_R (kb_I _))) (bnd_cons (ptr_bnd _ (by first | omega | (simp only [List.length_append, List.length_cons, List.length_nil]; omega))) (bnd_cons (pl_bnd _ _ _) (bnd_cons (pl_bnd _ _ _) (bnd_cons (pl_bnd _ _ _) (bnd_cons (pl_bnd _ _ _) (bnd_cons (pl_bnd _ _ _) bnd_nil))))))) (Nat.le_of_ble_eq_true rfl) (by simp only [na, nb, nc, nd, nf, ng, nh, ni, nj, nk] <;> rfl) (bxle_same (bxle_same bxle_nil)) rfl (by simp only [na, nb, nc, nd, nf, ng, nh, ni, nj, nk] <;> rfl) (bl_cons (flatKB (kb_I _)) (bl_cons (flatKB kb_B) bl_nil)) ?_
                  exact ⟨(IntKind.i64.wrap (t_11.1 + 1), IntKind.i64.wrap (t_11.2.1 + 1)), ⟨le_of_eq (eg oz), le_of_eq (eg (os rfl oz)), le_of_eq (eg (os rfl (os rfl oz))), le_of_eq (eg (os rfl (os rfl (os rfl oz)))), le_of_eq (eg (os rfl (os rfl (os rfl (os rfl oz))))), le_of_eq (eg (os rfl (os rfl (os rfl (os rfl (os rfl oz)))))), le_of_eq (eg (os rfl (os rfl (os rfl (os rfl (os rfl (os rfl oz))))))), trivial⟩, rfl, some_of hz_13⟩
                · skip
                  replace hz_13 := ifb_f hz_13 hc
                  clear hc
                  refine aw_skip ?_
                  refine wk_yesN rfl (l := [(0, sl (kR (kI .u8)) none none p0), (6, ptr (s.boxes.length + 1) 0), (7, pl (.int .i64 (IntKind.i64.wrap (t_11.1 + 1)))), (8, pl (.int .i64 t_11.2.1)), (9, pl (.int .i64 t_3.2.2)), (10, pl (.int .i64 (IntKind.i64.wrap ((IntKind.i64.wrap (256 * (IntKind.i64.wrap (x_8)))) + (IntKind.i64.wrap (x_10)))))), (11, pl (.int .i64 t_11.2.2))]) (bs' := [⟨24, (flat (kI .u64) p1)⟩, ⟨43, (flat kB x_1)⟩]) ⟨le_of_eq (eg oz), le_of_eq (eg (os rfl oz)), le_of_eq (eg (os rfl (os rfl oz))), le_of_eq (eg (os rfl (os rfl (os rfl oz)))), le_of_eq (eg (os rfl (os rfl (os rfl (os rfl oz))))), le_of_eq (eg (os rfl (os rfl (os rfl (os rfl (os rfl oz)))))), le_of_eq (eg (os rfl (os rfl (os rfl (os rfl (os rfl (os rfl oz))))))), trivial⟩ (bnd_cons (sl_b (kb_R (kb_I _))) (bnd_cons (ptr_bnd _ (by first | omega | (simp only [List.length_append, List.length_cons, List.length_nil]; omega))) (bnd_cons (pl_bnd _ _ _) (bnd_cons (pl_bnd _ _ _) (bnd_cons (pl_bnd _ _ _) (bnd_cons (pl_bnd _ _ _) (bnd_cons (pl_bnd _ _ _) bnd_nil))))))) (Nat.le_of_ble_eq_true rfl) (by simp only [na, nb, nc, nd, nf, ng, nh, ni, nj, nk] <;> rfl) (bxle_same (bxle_same bxle_nil)) rfl (by simp only [na, nb, nc, nd, nf, ng, nh, ni, nj, nk] <;> rfl) (bl_cons (flatKB (kb_I _)) (bl_cons (flatKB kb_B) bl_nil)) ?_
                  exact ⟨(IntKind.i64.wrap (t_11.1 + 1), t_11.2.1), ⟨le_of_eq (eg oz), le_of_eq (eg (os rfl oz)), le_of_eq (eg (os rfl (os rfl oz))), le_of_eq (eg (os rfl (os rfl (os rfl oz)))), le_of_eq (eg (os rfl (os rfl (os rfl (os rfl oz))))), le_of_eq (eg (os rfl (os rfl (os rfl (os rfl (os rfl oz)))))), le_of_eq (eg (os rfl (os rfl (os rfl (os rfl (os rfl (os rfl oz))))))), trivial⟩, rfl, some_of hz_13⟩
              · skip
                replace hz_13 := ifb_f hz_13 hc
                clear hc
                refine aw_skip ?_
                refine wk_yesN rfl (l := [(0, sl (kR (kI .u8)) none none p0), (6, ptr (s.boxes.length + 1) 0), (7, pl (.int .i64 t_11.1)), (8, pl (.int .i64 t_11.2.1)), (9, pl (.int .i64 t_3.2.2)), (10, pl (.int .i64 (IntKind.i64.wrap ((IntKind.i64.wrap (256 * (IntKind.i64.wrap (x_8)))) + (IntKind.i64.wrap (x_10)))))), (11, pl (.int .i64 t_11.2.2))]) (bs' := [⟨24, (flat (kI .u64) p1)⟩, ⟨43, (flat kB x_1)⟩]) ⟨le_of_eq (eg oz), le_of_eq (eg (os rfl oz)), le_of_eq (eg (os rfl (os rfl oz))), le_of_eq (eg (os rfl (os rfl (os rfl oz)))), le_of_eq (eg (os rfl (os rfl (os rfl (os rfl oz))))), le_of_eq (eg (os rfl (os rfl (os rfl (os rfl (os rfl oz)))))), le_of_eq (eg (os rfl (os rfl (os rfl (os rfl (os rfl (os rfl oz))))))), trivial⟩ (bnd_cons (sl_b (kb_R (kb_I _))) (bnd_cons (ptr_bnd _ (by first | omega | (simp only [List.length_append, List.length_cons, List.length_nil]; omega))) (bnd_cons (pl_bnd _ _ _) (bnd_cons (pl_bnd _ _ _) (bnd_cons (pl_bnd _ _ _) (bnd_cons (pl_bnd _ _ _) (bnd_cons (pl_bnd _ _ _) bnd_nil))))))) (Nat.le_of_ble_eq_true rfl) (by simp only [na, nb, nc, nd, nf, ng, nh, ni, nj, nk] <;> rfl) (bxle_same (bxle_same bxle_nil)) rfl (by simp only [na, nb, nc, nd, nf, ng, nh, ni, nj, nk] <;> rfl) (bl_cons (flatKB (kb_I _)) (bl_cons (flatKB kb_B) bl_nil)) ?_
                exact ⟨(t_11.1, t_11.2.1), ⟨le_of_eq (eg oz), le_of_eq (eg (os rfl oz)), le_of_eq (eg (os rfl (os rfl oz))), le_of_eq (eg (os rfl (os rfl (os rfl oz)))), le_of_eq (eg (os rfl (os rfl (os rfl (os rfl oz))))), le_of_eq (eg (os rfl (os rfl (os rfl (os rfl (os rfl oz)))))), le_of_eq (eg (os rfl (os rfl (os rfl (os rfl (os rfl (os rfl oz))))))), trivial⟩, rfl, some_of hz_13⟩
            · rintro e st ⟨vz_13, hH, rfl, rfl⟩
              refine aw_keep _ hH ?_
              refine aw_keep [(0, _), (6, _), (7, _), (8, _), (9, _), (10, _), (11, _)] ⟨lg oz, lg (os rfl oz), lg (os rfl (os rfl oz)), lg (os rfl (os rfl (os rfl oz))), lg (os rfl (os rfl (os rfl (os rfl oz)))), lg (os rfl (os rfl (os rfl (os rfl (os rfl oz))))), lg (os rfl (os rfl (os rfl (os rfl (os rfl (os rfl oz)))))), trivial⟩ ?_
              refine aw_region (by decide) ?_
              refine rts _ rfl (opD_move (os rfl (os rfl (os rfl (os rfl (os rfl (os rfl oz))))))) ?_
              refine rts _ rfl (opD_add lz (ev_const _ _) rfl) ?_
              refine rts _ rfl (opD_assign lz) ?_
              refine .nil ?_
              obtain rfl := some_of hz_12
              replace hz_5 := ocs_l hz_5
              refine wk_yesN rfl (l := [(0, sl (kR (kI .u8)) none none p0), (6, ptr (s.boxes.length + 1) 0), (7, pl (.int .i64 vz_13.1)), (8, pl (.int .i64 vz_13.2)), (9, pl (.int .i64 t_3.2.2)), (10, pl (.int .i64 (IntKind.i64.wrap ((IntKind.i64.wrap (256 * (IntKind.i64.wrap (x_8)))) + (IntKind.i64.wrap (x_10)))))), (11, pl (.int .i64 (IntKind.i64.wrap (t_11.2.2 + 1))))]) (bs' := [⟨24, (flat (kI .u64) p1)⟩, ⟨43, (flat kB x_1)⟩]) ⟨le_of_eq (eg (ls rfl (ls rfl (ls rfl oz)))), le_of_eq (eg (ls rfl (ls rfl (ls rfl (os rfl oz))))), le_of_eq (eg (ls rfl (ls rfl (ls rfl (os rfl (os rfl oz)))))), le_of_eq (eg (ls rfl (ls rfl (ls rfl (os rfl (os rfl (os rfl oz))))))), le_of_eq (eg (ls rfl (ls rfl (ls rfl (os rfl (os rfl (os rfl (os rfl oz)))))))), le_of_eq (eg (ls rfl (ls rfl (ls rfl (os rfl (os rfl (os rfl (os rfl (os rfl oz))))))))), le_of_eq (eg lz), trivial⟩ (bnd_cons (sl_b (kb_R (kb_I _))) (bnd_cons (ptr_bnd _ (by first | omega | (simp only [List.length_append, List.length_cons, List.length_nil]; omega))) (bnd_cons (pl_bnd _ _ _) (bnd_cons (pl_bnd _ _ _) (bnd_cons (pl_bnd _ _ _) (bnd_cons (pl_bnd _ _ _) (bnd_cons (pl_bnd _ _ _) bnd_nil))))))) (Nat.le_of_ble_eq_true rfl) (by simp only [na, nb, nc, nd, nf, ng, nh, ni, nj, nk] <;> rfl) (bxle_same (bxle_same bxle_nil)) rfl (by simp only [na, nb, nc, nd, nf, ng, nh, ni, nj, nk] <;> rfl) (bl_cons (flatKB (kb_I _)) (bl_cons (flatKB kb_B) bl_nil)) ?_
              exact ⟨m_z_12, Nat.lt_succ_self _, (vz_13.1, vz_13.2, IntKind.i64.wrap (t_11.2.2 + 1)), ⟨le_of_eq (eg oz), le_of_eq (eg (os rfl oz)), le_of_eq (eg (os rfl (os rfl oz))), le_of_eq (eg (os rfl (os rfl (os rfl oz)))), le_of_eq (eg (os rfl (os rfl (os rfl (os rfl oz))))), le_of_eq (eg (os rfl (os rfl (os rfl (os rfl (os rfl oz)))))), le_of_eq (eg (os rfl (os rfl (os rfl (os rfl (os rfl (os rfl oz))))))), trivial⟩, rfl, hz_5⟩
          · skip
            replace hz_12 := ifb_f hz_12 hc
            clear hc
            refine aw_exit ?_
            obtain rfl := some_of hz_12
            replace hz_5 := ocs_r hz_5
            refine wk_no ?_
            refine wk_yesN rfl (l := [(0, sl (kR (kI .u8)) none none p0), (6, ptr (s.boxes.length + 1) 0), (7, pl (.int .i64 t_11.1)), (8, pl (.int .i64 t_11.2.1)), (9, pl (.int .i64 t_3.2.2))]) (bs' := [⟨24, (flat (kI .u64) p1)⟩, ⟨43, (flat kB x_1)⟩]) ⟨le_of_eq (eg oz), le_of_eq (eg (os rfl oz)), le_of_eq (eg (os rfl (os rfl oz))), le_of_eq (eg (os rfl (os rfl (os rfl oz)))), le_of_eq (eg (os rfl (os rfl (os rfl (os rfl oz))))), trivial⟩ (bnd_cons (sl_b (kb_R (kb_I _))) (bnd_cons (ptr_bnd _ (by first | omega | (simp only [List.length_append, List.length_cons, List.length_nil]; omega))) (bnd_cons (pl_bnd _ _ _) (bnd_cons (pl_bnd _ _ _) (bnd_cons (pl_bnd _ _ _) bnd_nil))))) (Nat.le_of_ble_eq_true rfl) (by simp only [na, nb, nc, nd, nf, ng, nh, ni, nj, nk] <;> rfl) (bxle_same (bxle_same bxle_nil)) rfl (by simp only [na, nb, nc, nd, nf, ng, nh, ni, nj, nk] <;> rfl) (bl_cons (flatKB (kb_I _)) (bl_cons (flatKB kb_B) bl_nil)) ?_
            exact ⟨(t_11.1, t_11.2.1), ⟨le_of_eq (eg oz), le_of_eq (eg (os rfl oz)), le_of_eq (eg (os rfl (os rfl oz))), le_of_eq (eg (os rfl (os rfl (os rfl oz)))), le_of_eq (eg (os rfl (os rfl (os rfl (os rfl oz))))), trivial⟩, rfl, some_of hz_5⟩
      · rintro e st ⟨vz_5, hH, rfl, rfl⟩
        refine aw_keep _ hH ?_
        refine aw_keep [(0, _), (6, _), (7, _), (8, _), (9, _)] ⟨lg oz, lg (os rfl oz), lg (os rfl (os rfl oz)), lg (os rfl (os rfl (os rfl oz))), lg (os rfl (os rfl (os rfl (os rfl oz)))), trivial⟩ ?_
        refine aw_region (by decide) ?_
        refine rts _ rfl (opD_move (os rfl (os rfl (os rfl (os rfl oz))))) ?_
        refine rts _ rfl (opD_add lz (ev_const _ _) rfl) ?_
        refine rts _ rfl (opD_assign lz) ?_
        refine .nil ?_
        obtain rfl := some_of hz_4
        replace hz_2 := ocs_l hz_2
        refine wk_yesN rfl (l := [(0, sl (kR (kI .u8)) none none p0), (6, ptr (s.boxes.length + 1) 0), (7, pl (.int .i64 vz_5.1)), (8, pl (.int .i64 vz_5.2)), (9, pl (.int .i64 (IntKind.i64.wrap (t_3.2.2 + 1))))]) (bs' := [⟨24, (flat (kI .u64) p1)⟩, ⟨43, (flat kB x_1)⟩]) ⟨le_of_eq (eg (ls rfl (ls rfl (ls rfl oz)))), le_of_eq (eg (ls rfl (ls rfl (ls rfl (os rfl oz))))), le_of_eq (eg (ls rfl (ls rfl (ls rfl (os rfl (os rfl oz)))))), le_of_eq (eg (ls rfl (ls rfl (ls rfl (os rfl (os rfl (os rfl oz))))))), le_of_eq (eg lz), trivial⟩ (bnd_cons (sl_b (kb_R (kb_I _))) (bnd_cons (ptr_bnd _ (by first | omega | (simp only [List.length_append, List.length_cons, List.length_nil]; omega))) (bnd_cons (pl_bnd _ _ _) (bnd_cons (pl_bnd _ _ _) (bnd_cons (pl_bnd _ _ _) bnd_nil))))) (Nat.le_of_ble_eq_true rfl) (by simp only [na, nb, nc, nd, nf, ng, nh, ni, nj, nk] <;> rfl) (bxle_same (bxle_same bxle_nil)) rfl (by simp only [na, nb, nc, nd, nf, ng, nh, ni, nj, nk] <;> rfl) (bl_cons (flatKB (kb_I _)) (bl_cons (flatKB kb_B) bl_nil)) ?_
        exact ⟨m_z_4, Nat.lt_succ_self _, (vz_5.1, vz_5.2, IntKind.i64.wrap (t_3.2.2 + 1)), ⟨le_of_eq (eg oz), le_of_eq (eg (os rfl oz)), le_of_eq (eg (os rfl (os rfl oz))), le_of_eq (eg (os rfl (os rfl (os rfl oz)))), le_of_eq (eg (os rfl (os rfl (os rfl (os rfl oz))))), trivial⟩, rfl, hz_2⟩
    · skip
      replace hz_4 := ifb_f hz_4 hc
      clear hc
      refine aw_exit ?_
      obtain rfl := some_of hz_4
      replace hz_2 := ocs_r hz_2
      refine wk_no ?_
      refine wk_yesN rfl (l := [(7, pl (.int .i64 t_3.1)), (8, pl (.int .i64 t_3.2.1))]) (bs' := [⟨24, (flat (kI .u64) p1)⟩, ⟨43, (flat kB x_1)⟩]) ⟨le_of_eq (eg (os rfl (os rfl oz))), le_of_eq (eg (os rfl (os rfl (os rfl oz)))), trivial⟩ (bnd_cons (pl_bnd _ _ _) (bnd_cons (pl_bnd _ _ _) bnd_nil)) (Nat.le_of_ble_eq_true rfl) (by simp only [na, nb, nc, nd, nf, ng, nh, ni, nj, nk] <;> rfl) (bxle_same (bxle_same bxle_nil)) rfl (by simp only [na, nb, nc, nd, nf, ng, nh, ni, nj, nk] <;> rfl) (bl_cons (flatKB (kb_I _)) (bl_cons (flatKB kb_B) bl_nil)) ?_
      exact ⟨(t_3.1, t_3.2.1), ⟨le_of_eq (eg oz), le_of_eq (eg (os rfl oz)), trivial⟩, rfl, some_of hz_2⟩
  · rintro e st ⟨vz_2, hH, rfl, rfl⟩
    refine aw_keep _ hH ?_
    refine aw_keep [(7, _), (8, _)] ⟨lg oz, lg (os rfl oz), trivial⟩ ?_
    refine aw_seq ?_
    refine aw_region (by decide) ?_
    refine rts _ rfl (opD_move oz) ?_
    refine rts _ rfl (opD_move (ls rfl (os rfl oz))) ?_
    refine rts _ rfl (opD_assign (ls rfl lz)) ?_
    refine rts _ rfl (opD_assign (ls rfl lz)) ?_
    refine .nil ?_
    refine aw_keep [(4, _), (5, _)] ⟨lg (ls rfl lz), lg lz, trivial⟩ ?_
    refine aw_ret ?_
    obtain rfl := some_of h0
    exact done_ext (.inr rfl) ((res_list (rs := [_, _]) (ps := [_, _]) rfl rfl ⟨it_tmp oz, it_tmp (os rfl oz), trivial⟩).le (tup_le ⟨(Pd.le_refl _), (Pd.le_refl _), trivial⟩)) (tup_bnd (bnd_cons (pl_bnd _ _ _) (bnd_cons (pl_bnd _ _ _) bnd_nil)))

def F_sure22 (fl : Nat) : Option (Bool) :=
  bnd (F_sdirty fl ([[], [], (List.replicate 512 (0 : Int)), ([1] : (List Int))] : (List (List Int))) ([0, 0, 0, 0, 0, 0, 0, 0, 0, 0, 0, 0, 0, 0, 0, 0] : List Int)) fun x_1 => bnd (F_bbelow fl 4) fun x_2 => bnd (F_sslack fl ([[], [], (List.replicate 512 (0 : Int)), ([1] : (List Int))] : (List (List Int))) x_2) fun x_3 => grd (((decide ((x_1.length : Int) = 1)) == true) = true → Below 0 x_1.length) <| bnd (gif (((decide ((x_1.length : Int) = 1)) && (decide ((x_1.getD (0 : Int).toNat default) = 3))) == true) (F_sclean fl ([[], [], (List.replicate 512 (0 : Int)), ([1] : (List Int))] : (List (List Int))) ([0, 0, 0, 0, 0, 0, 0, 0, 0, 0, 0, 0, 0, 0, 0, 0] : List Int))) fun x_4 => grd (((((decide ((x_1.length : Int) = 1)) && (decide ((x_1.getD (0 : Int).toNat default) = 3))) && (!x_4)) == true) = true → UpTo 3 ([[], [], (List.replicate 512 (0 : Int)), ([1] : (List Int))] : (List (List Int))).length) <| bnd (gif ((((decide ((x_1.length : Int) = 1)) && (decide ((x_1.getD (0 : Int).toNat default) = 3))) && (!x_4)) == true) (F_sclean fl (([[], [], (List.replicate 512 (0 : Int)), ([1] : (List Int))] : (List (List Int))).take ((3 : Int).toNat)) ([0, 0, 0, 0, 0, 0, 0, 0, 0, 0, 0, 0, 0, 0, 0, 0] : List Int))) fun x_5 => bnd (gif (((((decide ((x_1.length : Int) = 1)) && (decide ((x_1.getD (0 : Int).toNat default) = 3))) && (!x_4)) && x_5) == true) (F_bbelow fl 4)) fun x_6 => bnd (gif (((((decide ((x_1.length : Int) = 1)) && (decide ((x_1.getD (0 : Int).toNat default) = 3))) && (!x_4)) && x_5) == true) (F_sclean fl ([[], [], (List.replicate 512 (0 : Int)), ([1] : (List Int))] : (List (List Int))) x_6)) fun x_7 => some (((((((decide ((x_1.length : Int) = 1)) && (decide ((x_1.getD (0 : Int).toNat default) = 3))) && (!x_4)) && x_5) && (!x_7)) && (decide (x_3.1 = 504))) && (decide (x_3.2 = 0)))
set_option maxRecDepth 100000 in
set_option maxHeartbeats 2000000 in
theorem c_sure22 {fl : Nat} {R : Bool} (h0 : F_sure22 fl = some R) : Pure Go.Proofs.Try.prog 5 [] (pl (.bool R)) := by
  intro s
  unfold F_sure22 at h0
  refine ac_of_aw s.boxes.length s.fr.length Go.Proofs.Try.func5 rfl (by simp [Go.Proofs.Try.ntmps5]) ?_
  refine aw_ext0 ?_
  refine aw_keep [] trivial ?_
  refine aw_seq ?_
  refine aw_region (by decide) ?_
  refine rts _ rfl (opD_assign (ev_const _ _)) ?_
  refine .nil ?_
  refine aw_keep [] trivial ?_
  refine aw_seq ?_
  refine aw_region (by decide) ?_
  refine rts _ rfl (opD_makeS (k := kI .u8) (x0 := 0) (n := 512) (z := .int .u8 0) Go.Proofs.Try.underlying26 el5_uAb (by kernel_rfl) rfl rfl (ev_const _ _) (ev_const _ _) rfl rfl (by decide) (by decide)) ?_
  refine rts _ rfl (opD_buildOwn (k := kI .u8) ([1] : (List Int)) Go.Proofs.Try.underlying26 sz5_uAb zt5_uAb (by decide) rfl (parts_cons (cells1 (ev_const _ _) (one_pl rfl)) parts_nil) rfl rfl (by first | exact List.length_nil | (simp only [List.length_cons, List.length_nil, Nat.zero_add, Nat.reduceAdd] <;> rfl)) (by simp only [na, nb, nc, nd, nf, ng, nh, ni, nj, nk] <;> rfl)) ?_
  refine rts _ rfl (opD_buildOwn (k := kR (kI .u8)) ([[], [], (List.replicate 512 (0 : Int)), ([1] : (List Int))] : (List (List Int))) Go.Proofs.Try.underlying22 sz26_uAb zt26_uAb (by decide) rfl (parts_cons (cellsN (k := (kI .u8)) (ev_const _ _)) (parts_cons (cellsN (k := (kI .u8)) (ev_const _ _)) (parts_cons (cellsS (ls rfl lz)) (parts_cons (cellsS lz) parts_nil)))) rfl rfl (by first | exact List.length_nil | (simp only [List.length_cons, List.length_nil, Nat.zero_add, Nat.reduceAdd] <;> rfl)) (by simp only [na, nb, nc, nd, nf, ng, nh, ni, nj, nk] <;> rfl)) ?_
  refine rts _ rfl (opD_assign lz) ?_
  refine .nil ?_
  refine aw_keep [(1, _)] ⟨lg lz, trivial⟩ ?_
  refine aw_seq ?_
  refine aw_region (by decide) ?_
  refine rts _ rfl (opD_move oz) ?_
  refine rts _ rfl (opD_ple (q := agg (flat (kI .u64) ([0, 0, 0, 0, 0, 0, 0, 0, 0, 0, 0, 0, 0, 0, 0, 0] : List Int))) rfl (opD_build_array (rs := [pl (.int .u64 0), pl (.int .u64 0), pl (.int .u64 0), pl (.int .u64 0), pl (.int .u64 0), pl (.int .u64 0), pl (.int .u64 0), pl (.int .u64 0), pl (.int .u64 0), pl (.int .u64 0), pl (.int .u64 0), pl (.int .u64 0), pl (.int .u64 0), pl (.int .u64 0), pl (.int .u64 0), pl (.int .u64 0)]) Go.Proofs.Try.underlying40 sz23_uAb zt40_uAb parts_nil rfl)) ?_
  replace h0 := bnd_some h0
  obtain ⟨x_1, hx_1, h0⟩ := h0
  refine rts _ rfl (opD_pure ht6_uAb (c_sdirty hx_1) ⟨(le_of_eq (ls rfl lz)).trans (sl_any _ _ _ _), le_of_eq lz, trivial⟩) ?_
  refine rts _ rfl (opD_assign lz) ?_
  refine .nil ?_
  refine aw_keep [(1, _), (2, _)] ⟨lg (ls rfl (ls rfl (ls rfl (ls rfl oz)))), lg lz, trivial⟩ ?_
  refine aw_seq ?_
  refine aw_region (by decide) ?_
  refine rts _ rfl (opD_move oz) ?_
  replace h0 := bnd_some h0
  obtain ⟨x_2, hx_2, h0⟩ := h0
  refine rts _ rfl (opD_pure ht14_uAb (c_bbelow hx_2) ⟨le_of_eq (ev_const _ _), trivial⟩) ?_
  replace h0 := bnd_some h0
  obtain ⟨x_3, hx_3, h0⟩ := h0
  refine rts _ rfl (opD_pure ht8_uAb (c_sslack hx_3) ⟨(le_of_eq (ls rfl lz)).trans (sl_any _ _ _ _), le_of_eq lz, trivial⟩) ?_
  refine rts _ rfl (opD_move lz) ?_
  refine rts _ rfl (opD_extract lz rfl) ?_
  refine rts _ rfl (opD_extract (ls rfl lz) rfl) ?_
  refine rts _ rfl (opD_assign (ls rfl lz)) ?_
  refine rts _ rfl (opD_assign (ls rfl lz)) ?_
  refine .nil ?_
  refine aw_keep [(1, _), (2, _), (3, _), (4, _)] ⟨lg (ls rfl (ls rfl (ls rfl (ls rfl (ls rfl (ls rfl (ls rfl (ls rfl oz)))))))), lg (ls rfl (ls rfl (ls rfl (ls rfl (ls rfl (ls rfl (ls rfl (ls rfl (os rfl oz))))))))), lg (ls rfl lz), lg lz, trivial⟩ ?_
  refine aw_seq ?_
  refine aw_region (by decide) ?_
  refine rts _ rfl (opD_move (os rfl oz)) ?_
  refine rts _ rfl (opD_len_sl Go.Proofs.Try.underlying27 lz) ?_
  refine rts _ rfl (opD_eql lz (ev_const _ _)) ?_
  refine rts _ rfl (opD_move lz) ?_
  refine rtg _ rfl lz (fun hg4_4_1 => opD_move (ls rfl (ls rfl (ls rfl (ls rfl (os rfl oz)))))) ?_
  replace h0 := grd_some h0
  obtain ⟨hg_3, h0⟩ := h0
  refine rtg _ rfl (ls rfl lz) (fun hg4_5_2 => opD_indexAddr_sl (i := (0 : Int).toNat) Go.Proofs.Try.underlying27 sz3_uAb (lz.trans (pif_pos hg4_5_2)) (ev_const _ _) (hg_3 hg4_5_2).eq (hg_3 hg4_5_2).2) ?_
  refine rtg _ rfl (ls rfl (ls rfl lz)) (fun hg4_6_4 => opD_load_el_one ag3_uAb (lz.trans (pif_pos hg4_6_4)) (at_getD default (hg_3 hg4_6_4).2) rfl) ?_
  refine rtg _ rfl (ls rfl (ls rfl (ls rfl lz))) (fun hg4_7_5 => opD_eql (lz.trans (pif_pos hg4_7_5)) (ev_const _ _)) ?_
  refine rts _ rfl (opD_and (ls rfl (ls rfl (ls rfl (ls rfl lz)))) lz) ?_
  refine rts _ rfl (opD_move lz) ?_
  refine rtg _ rfl lz (fun hg4_10_6 => opD_move (ls rfl (ls rfl (ls rfl (ls rfl (ls rfl (ls rfl (ls rfl (ls rfl (ls rfl (ls rfl oz))))))))))) ?_
  refine rtg _ rfl (ls rfl lz) (fun hg4_11_7 => opD_ple (q := agg (flat (kI .u64) ([0, 0, 0, 0, 0, 0, 0, 0, 0, 0, 0, 0, 0, 0, 0, 0] : List Int))) rfl (opD_build_array (rs := [pl (.int .u64 0), pl (.int .u64 0), pl (.int .u64 0), pl (.int .u64 0), pl (.int .u64 0), pl (.int .u64 0), pl (.int .u64 0), pl (.int .u64 0), pl (.int .u64 0), pl (.int .u64 0), pl (.int .u64 0), pl (.int .u64 0), pl (.int .u64 0), pl (.int .u64 0), pl (.int .u64 0), pl (.int .u64 0)]) Go.Proofs.Try.underlying40 sz23_uAb zt40_uAb parts_nil rfl)) ?_
  replace h0 := bnd_some h0
  obtain ⟨x_4, hx_4, h0⟩ := h0
  refine rtg _ rfl (ls rfl (ls rfl lz)) (fun hg4_12_8 => opD_pure ht10_uAb (c_sclean (gif_some hx_4 hg4_12_8)) ⟨(le_of_eq ((ls rfl lz).trans (pif_pos hg4_12_8))).trans (sl_any _ _ _ _), le_of_eq (lz.trans (pif_pos hg4_12_8)), trivial⟩) ?_
  refine rtg _ rfl (ls rfl (ls rfl (ls rfl lz))) (fun hg4_13_9 => opD_not (lz.trans (pif_pos hg4_13_9))) ?_
  refine rts _ rfl (opD_and (ls rfl (ls rfl (ls rfl (ls rfl lz)))) lz) ?_
  refine rts _ rfl (opD_move lz) ?_
  refine rtg _ rfl lz (fun hg4_16_10 => opD_move (ls rfl (ls rfl (ls rfl (ls rfl (ls rfl (ls rfl (ls rfl (ls rfl (ls rfl (ls rfl (ls rfl (ls rfl (ls rfl (ls rfl (ls rfl (ls rfl oz))))))))))))))))) ?_
  replace h0 := grd_some h0
  obtain ⟨hg_12, h0⟩ := h0
  refine rtg _ rfl (ls rfl lz) (fun hg4_17_11 => opD_slice_to ((3 : Int).toNat) Go.Proofs.Try.underlying22 sz26_uAb (lz.trans (pif_pos hg4_17_11)) (ev_const _ _) (hg_12 hg4_17_11).eq (hg_12 hg4_17_11).2) ?_
  refine rtg _ rfl (ls rfl (ls rfl lz)) (fun hg4_18_13 => opD_ple (q := agg (flat (kI .u64) ([0, 0, 0, 0, 0, 0, 0, 0, 0, 0, 0, 0, 0, 0, 0, 0] : List Int))) rfl (opD_build_array (rs := [pl (.int .u64 0), pl (.int .u64 0), pl (.int .u64 0), pl (.int .u64 0), pl (.int .u64 0), pl (.int .u64 0), pl (.int .u64 0), pl (.int .u64 0), pl (.int .u64 0), pl (.int .u64 0), pl (.int .u64 0), pl (.int .u64 0), pl (.int .u64 0), pl (.int .u64 0), pl (.int .u64 0), pl (.int .u64 0)]) Go.Proofs.Try.underlying40 sz23_uAb zt40_uAb parts_nil rfl)) ?_
  replace h0 := bnd_some h0
  obtain ⟨x_5, hx_5, h0⟩ := h0
  refine rtg _ rfl (ls rfl (ls rfl (ls rfl lz))) (fun hg4_19_14 => opD_pure ht10_uAb (c_sclean (gif_some hx_5 hg4_19_14)) ⟨le_of_eq ((ls rfl lz).trans (pif_pos hg4_19_14)), le_of_eq (lz.trans (pif_pos hg4_19_14)), trivial⟩) ?_
  refine rts _ rfl (opD_and (ls rfl (ls rfl (ls rfl (ls rfl lz)))) lz) ?_
  refine rts _ rfl (opD_move lz) ?_
  refine rtg _ rfl lz (fun hg4_22_15 => opD_move (ls rfl (ls rfl (ls rfl (ls rfl (ls rfl (ls rfl (ls rfl (ls rfl (ls rfl (ls rfl (ls rfl (ls rfl (ls rfl (ls rfl (ls rfl (ls rfl (ls rfl (ls rfl (ls rfl (ls rfl (ls rfl (ls rfl oz))))))))))))))))))))))) ?_
  replace h0 := bnd_some h0
  obtain ⟨x_6, hx_6, h0⟩ := h0
  refine rtg _ rfl (ls rfl lz) (fun hg4_23_16 => opD_pure ht14_uAb (c_bbelow (gif_some hx_6 hg4_23_16)) ⟨le_of_eq (ev_const _ _), trivial⟩) ?_
  replace h0 := bnd_some h0
  obtain ⟨x_7, hx_7, h0⟩ := h0
  refine rtg _ rfl (ls rfl (ls rfl lz)) (fun hg4_24_17 => opD_pure ht10_uAb (c_sclean (gif_some hx_7 hg4_24_17)) ⟨(le_of_eq ((ls rfl lz).trans (pif_pos hg4_24_17))).trans (sl_any _ _ _ _), le_of_eq (lz.trans (pif_pos hg4_24_17)), trivial⟩) ?_
  refine rtg _ rfl (ls rfl (ls rfl (ls rfl lz))) (fun hg4_25_18 => opD_not (lz.trans (pif_pos hg4_25_18))) ?_
  refine rts _ rfl (opD_and (ls rfl (ls rfl (ls rfl (ls rfl lz)))) lz) ?_
  refine rts _ rfl (opD_move lz) ?_
  refine rtg _ rfl lz (fun hg4_28_19 => opD_move (ls rfl (ls rfl (ls rfl (ls rfl (ls rfl (ls rfl (ls rfl (ls rfl (ls rfl (ls rfl (ls rfl (ls rfl (ls rfl (ls rfl (ls rfl (ls rfl (ls rfl (ls rfl (ls rfl (ls rfl (ls rfl (ls rfl (ls rfl (ls rfl (ls rfl (ls rfl (ls rfl (ls rfl (os rfl (os rfl oz))))))))))))))))))))))))))))))) ?_
  refine rtg _ rfl (ls rfl lz) (fun hg4_29_20 => opD_eql (lz.trans (pif_pos hg4_29_20)) (ev_const _ _)) ?_
  refine rts _ rfl (opD_and (ls rfl (ls rfl lz)) lz) ?_
  refine rts _ rfl (opD_move lz) ?_
  refine rtg _ rfl lz (fun hg4_32_21 => opD_move (ls rfl (ls rfl (ls rfl (ls rfl (ls rfl (ls rfl (ls rfl (ls rfl (ls rfl (ls rfl (ls rfl (ls rfl (ls rfl (ls rfl (ls rfl (ls rfl (ls rfl (ls rfl (ls rfl (ls rfl (ls rfl (ls rfl (ls rfl (ls rfl (ls rfl (ls rfl (ls rfl (ls rfl (ls rfl (ls rfl (ls rfl (ls rfl (os rfl (os rfl (os rfl oz)))))))))))))))))))))))))))))))))))) ?_
  refine rtg _ rfl (ls rfl lz) (fun hg4_33_22 => opD_eql (lz.trans (pif_pos hg4_33_22)) (ev_const _ _)) ?_
  refine rts _ rfl (opD_and (ls rfl (ls rfl lz)) lz) ?_
  refine rts _ rfl (opD_assign lz) ?_
  refine .nil ?_
  refine aw_keep [(0, _)] ⟨lg lz, trivial⟩ ?_
  refine aw_ret ?_
  obtain rfl := some_of h0
  exact done_ext (.inr rfl) ((res_one rfl (it_tmp oz)).le (Pd.le_refl _)) (pl_bnd _ _ _)

def F_sTells_b0 (fl : Nat) (p0 : (List (List Int))) (t_3 : Int) : Option ((Int) ⊕ ((Bool) ⊕ (Unit))) :=
  ifb (decide (t_3 < (p0.length : Int))) (ixb p0 t_3 fun x_5 => ifb (decide (600 < (x_5.length : Int))) (bnd (F_sure22 fl) fun x_6 => some (.inr (.inl x_6))) (some (.inl (IntKind.i64.wrap (t_3 + 1))))) (some (.inr (.inr ())))
def F_sTells_b1 (x_7 : ((List Int))) (x_8 : ((List Int))) (t_10 : Int) : Option ((Int) ⊕ ((Bool) ⊕ (Unit))) :=
  ifb (decide (t_10 < (x_7.length : Int))) (ixb x_7 t_10 fun x_12 => ixb x_8 t_10 fun x_13 => ifb (decide (x_12 ≠ x_13)) (some (.inr (.inl false))) (some (.inl (IntKind.i64.wrap (t_10 + 1))))) (some (.inr (.inr ())))
def F_sTells (fl : Nat) (p0 : (List (List Int))) (p1 : (List Int)) : Option (Bool) :=
  ifb (decide (60 < (p0.length : Int))) (bnd (F_sure22 fl) fun x_1 => some x_1) (bnd (lp (F_sTells_b0 fl p0) fl 0) fun z_2 => ocs z_2 (fun qz_2_0 => some qz_2_0) fun z_2_0 => grd (p1.length = 16) <| bnd (F_sdirty fl p0 p1) fun x_7 => grd (p1.length = 16) <| bnd (F_rdirty fl p0 p1) fun x_8 => ifb (decide ((x_7.length : Int) ≠ (x_8.length : Int))) (some false) (bnd (lp (F_sTells_b1 x_7 x_8) fl 0) fun z_9 => ocs z_9 (fun qz_9_0 => some qz_9_0) fun z_9_0 => grd (p1.length = 16) <| bnd (F_sslack fl p0 p1) fun x_14 => grd (p1.length = 16) <| bnd (F_rslack fl p0 p1) fun x_15 => grd (p1.length = 16) <| bnd (F_sclean fl p0 p1) fun x_16 => grd (p1.length = 16) <| bnd (F_rclean fl p0 p1) fun x_17 => bnd (gif ((((x_16 == x_17) && (decide (x_14.1 = x_15.1))) && (decide (x_14.2 = x_15.2))) == true) (F_sure22 fl)) fun x_18 => some ((((x_16 == x_17) && (decide (x_14.1 = x_15.1))) && (decide (x_14.2 = x_15.2))) && x_18)))
set_option maxRecDepth 100000 in
set_option maxHeartbeats 2000000 in
theorem c_sTells {fl : Nat} {p0 : (List (List Int))} {p1 : (List Int)} {R : Bool} (h0 : F_sTells fl p0 p1 = some R) : Pure Go.Proofs.Try.prog 3 [sl (kR (kI .u8)) none none p0, agg (flat (kI .u64) p1)] (pl (.bool R)) := by
  intro s
  unfold F_sTells at h0
  refine ac_of_aw s.boxes.length s.fr.length Go.Proofs.Try.func3 rfl (by simp [Go.Proofs.Try.ntmps3]) ?_
  refine aw_ext0 ?_
  refine aw_keep [(0, _), (1, _)] ⟨lg ez, lg (es ez), trivial⟩ ?_
  refine aw_seq ?_
  refine aw_region (by decide) ?_
  refine rts _ rfl (boxFN (k := kI .u64) (l := p1) rfl (os rfl oz) rfl (kb_I _) (by first | exact List.length_nil | (simp only [List.length_cons, List.length_nil, Nat.zero_add, Nat.reduceAdd] <;> rfl)) (by simp only [na, nb, nc, nd, nf, ng, nh, ni, nj, nk] <;> rfl)) ?_
  refine rts _ rfl (opD_assign (ev_const _ _)) ?_
  refine .nil ?_
  refine aw_keep [(0, _), (3, _)] ⟨lg (ls rfl (ls rfl oz)), lg (ls rfl lz), trivial⟩ ?_
  refine aw_seq ?_
  refine aw_seq ?_
  refine aw_region (by decide) ?_
  refine rts _ rfl (opD_move oz) ?_
  refine rts _ rfl (opD_len_sl Go.Proofs.Try.underlying22 lz) ?_
  refine rts _ rfl (opD_gtr lz (ev_const _ _)) ?_
  refine .nil ?_
  refine aw_keep [(0, _), (3, _), (15, _)] ⟨lg (ls rfl (ls rfl (ls rfl oz))), lg (ls rfl (ls rfl (ls rfl (os rfl oz)))), lg lz, trivial⟩ ?_
  refine aw_cond _ (os rfl (os rfl oz)) (fun hc => ?_) (fun hc => ?_)
  · skip
    replace h0 := ifb_t h0 hc
    clear hc
    refine aw_seq ?_
    refine aw_region (by decide) ?_
    replace h0 := bnd_some h0
    obtain ⟨x_1, hx_1, h0⟩ := h0
    refine rts _ rfl (opD_pure ht5_uAb (c_sure22 hx_1) trivial) ?_
    refine rts _ rfl (opD_assign lz) ?_
    refine .nil ?_
    refine aw_keep [(4, _)] ⟨lg lz, trivial⟩ ?_
    refine aw_ret ?_
    obtain rfl := some_of h0
    exact done_ext (.inr rfl) ((res_one rfl (it_tmp oz)).le (Pd.le_refl _)) (pl_bnd _ _ _)
  · skip
    replace h0 := ifb_f h0 hc
    clear hc
    refine aw_skip ?_
    refine aw_keep [(0, _), (3, _)] ⟨lg oz, lg (os rfl oz), trivial⟩ ?_
    refine aw_seq ?_
    refine aw_seq ?_
    refine aw_region (by decide) ?_
    refine rts _ rfl (opD_assign (ev_const _ _)) ?_
    refine .nil ?_
    refine aw_keep [(0, _), (3, _), (5, _)] ⟨lg (ls rfl oz), lg (ls rfl (os rfl oz)), lg lz, trivial⟩ ?_
    replace h0 := bnd_some h0
    obtain ⟨z_2, hz_2, h0⟩ := h0
    refine aw_mid (fun e st => ∃ v : Unit, Holds e [(0, sl (kR (kI .u8)) none none p0), (3, ptr (s.boxes.length + 0) 0)] ∧ st = s.ext [⟨24, (flat (kI .u64) p1)⟩] [] ∧ (.inr v) = z_2) ?_ ?_
    · skip
      refine aw_wkN rfl 1 0 rfl rfl ?_
      refine aw_block ?_
      refine aw_loop (fun n e st => ∃ v : Int, Holds e [(0, sl (kR (kI .u8)) none none p0), (3, ptr (s.boxes.length + 0) 0), (5, pl (.int .i64 v))] ∧ st = s.ext [⟨24, (flat (kI .u64) p1)⟩] [] ∧ lp (F_sTells_b0 fl p0) n v = some z_2) fl ⟨0, ⟨le_of_eq (eg oz), le_of_eq (eg (os rfl oz)), le_of_eq (eg (os rfl (os rfl oz))), trivial⟩, rfl, hz_2⟩ ?_
      rintro n e st ⟨t_3, hH, rfl, hz_2⟩
      replace hz_2 := lp_some hz_2
      obtain ⟨m_z_4, z_4, rfl, hz_4, hz_2⟩ := hz_2
      unfold F_sTells_b0 at hz_4
      refine aw_keep _ hH ?_
      refine aw_wkN rfl 1 0 rfl rfl ?_
      refine aw_seq ?_
      refine aw_seq ?_
      refine aw_region (by decide) ?_
      refine rts _ rfl (opD_move (os rfl (os rfl oz))) ?_
      refine rts _ rfl (opD_move (ls rfl oz)) ?_
      refine rts _ rfl (opD_len_sl Go.Proofs.Try.underlying22 lz) ?_
      refine rts _ rfl (opD_lss (ls rfl (ls rfl lz)) lz) ?_
      refine .nil ?_
      refine aw_keep [(0, _), (3, _), (5, _), (20, _)] ⟨lg (ls rfl (ls rfl (ls rfl (ls rfl oz)))), lg (ls rfl (ls rfl (ls rfl (ls rfl (os rfl oz))))), lg (ls rfl (ls rfl (ls rfl (ls rfl (os rfl (os rfl oz)))))), lg lz, trivial⟩ ?_
      refine aw_cond _ (os rfl (os rfl (os rfl oz))) (fun hc => ?_) (fun hc => ?_)
      · skip
        replace hz_4 := ifb_t hz_4 hc
        clear hc
        refine aw_skip ?_
        refine aw_keep [(0, _), (3, _), (5, _)] ⟨lg oz, lg (os rfl oz), lg (os rfl (os rfl oz)), trivial⟩ ?_
        refine aw_seq ?_
        refine aw_block ?_
        refine aw_seq ?_
        refine aw_region (by decide) ?_
        refine rts _ rfl (opD_move oz) ?_
        refine rts _ rfl (opD_move (ls rfl (os rfl (os rfl oz)))) ?_
        replace hz_4 := ixb_some hz_4
        obtain ⟨x_5, hx_5, hbx_5, hz_4⟩ := hz_4
        refine rts _ rfl (opD_indexAddr_sl (i := t_3.toNat) Go.Proofs.Try.underlying22 sz26_uAb (ls rfl lz) lz hbx_5.2.2 hbx_5.2.1) ?_
        refine rts _ rfl (opD_load_el_one ag26_uAb lz hx_5 rfl) ?_
        refine rts _ rfl (opD_len_sl Go.Proofs.Try.underlying26 lz) ?_
        refine rts _ rfl (opD_gtr lz (ev_const _ _)) ?_
        refine .nil ?_
        refine aw_keep [(0, _), (3, _), (5, _), (28, _)] ⟨lg (ls rfl (ls rfl (ls rfl (ls rfl (ls rfl (ls rfl oz)))))), lg (ls rfl (ls rfl (ls rfl (ls rfl (ls rfl (ls rfl (os rfl oz))))))), lg (ls rfl (ls rfl (ls rfl (ls rfl (ls rfl (ls rfl (os rfl (os rfl oz)))))))), lg lz, trivial⟩ ?_
        refine aw_cond _ (os rfl (os rfl (os rfl oz))) (fun hc => ?_) (fun hc => ?_)
        · skip
          replace hz_4 := ifb_t hz_4 hc
          clear hc
          refine aw_seq ?_
          refine aw_region (by decide) ?_
          replace hz_4 := bnd_some hz_4
          obtain ⟨x_6, hx_6, hz_4⟩ := hz_4
          refine rts _ rfl (opD_pure ht5_uAb (c_sure22 hx_6) trivial) ?_
          refine rts _ rfl (opD_assign lz) ?_
          refine .nil ?_
          refine aw_keep [(4, _)] ⟨lg lz, trivial⟩ ?_
          refine aw_ret ?_
          obtain rfl := some_of hz_4
          replace hz_2 := ocs_r hz_2
          obtain rfl := some_of hz_2
          replace h0 := ocs_l h0
          refine wk_no ?_
          refine wk_no ?_
          obtain rfl := some_of h0
          exact done_ext (.inr rfl) ((res_one rfl (it_tmp oz)).le (Pd.le_refl _)) (pl_bnd _ _ _)
        · skip
          replace hz_4 := ifb_f hz_4 hc
          clear hc
          refine aw_skip ?_
          refine aw_keep [(0, _), (3, _), (5, _)] ⟨lg oz, lg (os rfl oz), lg (os rfl (os rfl oz)), trivial⟩ ?_
          refine aw_region (by decide) ?_
          refine rts _ rfl (opD_move (os rfl (os rfl oz))) ?_
          refine rts _ rfl (opD_add lz (ev_const _ _) rfl) ?_
          refine rts _ rfl (opD_assign lz) ?_
          refine .nil ?_
          obtain rfl := some_of hz_4
          replace hz_2 := ocs_l hz_2
          refine wk_yesN rfl (l := [(0, sl (kR (kI .u8)) none none p0), (3, ptr (s.boxes.length + 0) 0), (5, pl (.int .i64 (IntKind.i64.wrap (t_3 + 1))))]) (bs' := [⟨24, (flat (kI .u64) p1)⟩]) ⟨le_of_eq (eg (ls rfl (ls rfl (ls rfl oz)))), le_of_eq (eg (ls rfl (ls rfl (ls rfl (os rfl oz))))), le_of_eq (eg lz), trivial⟩ (bnd_cons (sl_b (kb_R (kb_I _))) (bnd_cons (ptr_bnd _ (by first | omega | (simp only [List.length_append, List.length_cons, List.length_nil]; omega))) (bnd_cons (pl_bnd _ _ _) bnd_nil))) (Nat.le_of_ble_eq_true rfl) (by simp only [na, nb, nc, nd, nf, ng, nh, ni, nj, nk] <;> rfl) (bxle_same bxle_nil) rfl (by simp only [na, nb, nc, nd, nf, ng, nh, ni, nj, nk] <;> rfl) (bl_cons (flatKB (kb_I _)) bl_nil) ?_
          exact ⟨m_z_4, Nat.lt_succ_self _, IntKind.i64.wrap (t_3 + 1), ⟨le_of_eq (eg oz), le_of_eq (eg (os rfl oz)), le_of_eq (eg (os rfl (os rfl oz))), trivial⟩, rfl, hz_2⟩
      · skip
        replace hz_4 := ifb_f hz_4 hc
        clear hc
        refine aw_exit ?_
        obtain rfl := some_of hz_4
        replace hz_2 := ocs_r hz_2
        refine wk_no ?_
        refine wk_yesN rfl (l := [(0, sl (kR (kI .u8)) none none p0), (3, ptr (s.boxes.length + 0) 0)]) (bs' := [⟨24, (flat (kI .u64) p1)⟩]) ⟨le_of_eq (eg oz), le_of_eq (eg (os rfl oz)), trivial⟩ (bnd_cons (sl_b (kb_R (kb_I _))) (bnd_cons (ptr_bnd _ (by first | omega | (simp only [List.length_append, List.length_cons, List.length_nil]; omega))) bnd_nil)) (Nat.le_of_ble_eq_true rfl) (by simp only [na, nb, nc, nd, nf, ng, nh, ni, nj, nk] <;> rfl) (bxle_same bxle_nil) rfl (by simp only [na, nb, nc, nd, nf, ng, nh, ni, nj, nk] <;> rfl) (bl_cons (flatKB (kb_I _)) bl_nil) ?_
        exact ⟨(), ⟨le_of_eq (eg oz), le_of_eq (eg (os rfl oz)), trivial⟩, rfl, some_of hz_2⟩
    · rintro e st ⟨vz_2, hH, rfl, rfl⟩
      refine aw_keep _ hH ?_
      replace h0 := ocs_r h0
      refine aw_keep [(0, _), (3, _)] ⟨lg oz, lg (os rfl oz), trivial⟩ ?_
      refine aw_seq ?_
      refine aw_flat mixed_uAb (by decide +kernel) ?_
      refine zts _ rfl (opD_move oz) ?_
      replace h0 := grd_some h0
      obtain ⟨hg_3, h0⟩ := h0
      refine zts _ rfl (loadFN ag24_uAb sz24_uAb (ls rfl (os rfl oz)) (loc_getN rfl rfl) rfl hg_3) ?_
      replace h0 := bnd_some h0
      obtain ⟨x_7, hx_7, h0⟩ := h0
      refine zts _ rfl (opD_pure ht6_uAb (c_sdirty hx_7) ⟨le_of_eq (ls rfl lz), le_of_eq lz, trivial⟩) ?_
      refine zts _ rfl (opD_move (ls rfl (ls rfl (ls rfl oz)))) ?_
      replace h0 := grd_some h0
      obtain ⟨hg_4, h0⟩ := h0
      refine zts _ rfl (loadFN ag24_uAb sz24_uAb (ls rfl (ls rfl (ls rfl (ls rfl (os rfl oz))))) (loc_getN rfl rfl) rfl hg_4) ?_
      replace h0 := bnd_some h0
      obtain ⟨x_8, hx_8, h0⟩ := h0
      refine zts _ rfl (opD_pure ht7_uAb (c_rdirty hx_8) ⟨le_of_eq (ls rfl lz), le_of_eq lz, trivial⟩) ?_
      refine zts _ rfl (opD_assign (ls rfl (ls rfl (ls rfl lz)))) ?_
      refine zts _ rfl (opD_assign (ls rfl lz)) ?_
      refine .nil ?_
      refine aw_keep [(0, _), (3, _), (6, _), (7, _)] ⟨lg (ls rfl (ls rfl (ls rfl (ls rfl (ls rfl (ls rfl (ls rfl (ls rfl oz)))))))), lg (ls rfl (ls rfl (ls rfl (ls rfl (ls rfl (ls rfl (ls rfl (ls rfl (os rfl oz))))))))), lg (ls rfl lz), lg lz, trivial⟩ ?_
      refine aw_seq ?_
      refine aw_seq ?_
      refine aw_region (by decide) ?_
      refine rts _ rfl (opD_move (os rfl (os rfl oz))) ?_
      refine rts _ rfl (opD_len_sl Go.Proofs.Try.underlying27 lz) ?_
      refine rts _ rfl (opD_move (ls rfl (ls rfl (os rfl (os rfl (os rfl oz)))))) ?_
      refine rts _ rfl (opD_len_sl Go.Proofs.Try.underlying27 lz) ?_
      refine rts _ rfl (opD_neq (ls rfl (ls rfl lz)) lz) ?_
      refine .nil ?_
      refine aw_keep [(0, _), (3, _), (6, _), (7, _), (40, _)] ⟨lg (ls rfl (ls rfl (ls rfl (ls rfl (ls rfl oz))))), lg (ls rfl (ls rfl (ls rfl (ls rfl (ls rfl (os rfl oz)))))), lg (ls rfl (ls rfl (ls rfl (ls rfl (ls rfl (os rfl (os rfl oz))))))), lg (ls rfl (ls rfl (ls rfl (ls rfl (ls rfl (os rfl (os rfl (os rfl oz)))))))), lg lz, trivial⟩ ?_
      refine aw_cond _ (os rfl (os rfl (os rfl (os rfl oz)))) (fun hc => ?_) (fun hc => ?_)
      · skip
        replace h0 := ifb_t h0 hc
        clear hc
        refine aw_seq ?_
        refine aw_region (by decide) ?_
        refine rts _ rfl (opD_assign (ev_const _ _)) ?_
        refine .nil ?_
        refine aw_keep [(4, _)] ⟨lg lz, trivial⟩ ?_
        refine aw_ret ?_
        obtain rfl := some_of h0
        exact done_ext (.inr rfl) ((res_one rfl (it_tmp oz)).le (Pd.le_refl _)) (pl_bnd _ _ _)
      · skip
        replace h0 := ifb_f h0 hc
        clear hc
        refine aw_skip ?_
        refine aw_keep [(0, _), (3, _), (6, _), (7, _)] ⟨lg oz, lg (os rfl oz), lg (os rfl (os rfl oz)), lg (os rfl (os rfl (os rfl oz))), trivial⟩ ?_
        refine aw_seq ?_
        refine aw_seq ?_
        refine aw_region (by decide) ?_
        refine rts _ rfl (opD_assign (ev_const _ _)) ?_
        refine .nil ?_
        refine aw_keep [(0, _), (3, _), (6, _), (7, _), (8, _)] ⟨lg (ls rfl oz), lg (ls rfl (os rfl oz)), lg (ls rfl (os rfl (os rfl oz))), lg (ls rfl (os rfl (os rfl (os rfl oz)))), lg lz, trivial⟩ ?_
        replace h0 := bnd_some h0
        obtain ⟨z_9, hz_9, h0⟩ := h0
        refine aw_mid (fun e st => ∃ v : Unit, Holds e [(0, sl (kR (kI .u8)) none none p0), (3, ptr (s.boxes.length + 0) 0)] ∧ st = s.ext [⟨24, (flat (kI .u64) p1)⟩] [] ∧ (.inr v) = z_9) ?_ ?_
        · skip
          refine aw_wkN rfl 1 0 rfl rfl ?_
          refine aw_block ?_
          refine aw_loop (fun n e st => ∃ v : Int, Holds e [(0, sl (kR (kI .u8)) none none p0), (3, ptr (s.boxes.length + 0) 0), (6, sl (kI .i64) none none x_7), (7, sl (kI .i64) none none x_8), (8, pl (.int .i64 v))] ∧ st = s.ext [⟨24, (flat (kI .u64) p1)⟩] [] ∧ lp (F_sTells_b1 x_7 x_8) n v = some z_9) fl ⟨0, ⟨le_of_eq (eg oz), le_of_eq (eg (os rfl oz)), le_of_eq (eg (os rfl (os rfl oz))), le_of_eq (eg (os rfl (os rfl (os rfl oz)))), le_of_eq (eg (os rfl (os rfl (os rfl (os rfl oz))))), trivial⟩, rfl, hz_9⟩ ?_
          rintro n e st ⟨t_10, hH, rfl, hz_9⟩
          replace hz_9 := lp_some hz_9
          obtain ⟨m_z_11, z_11, rfl, hz_11, hz_9⟩ := hz_9
          unfold F_sTells_b1 at hz_11
          refine aw_keep _ hH ?_
          refine aw_wkN rfl 1 0 rfl rfl ?_
          refine aw_seq ?_
          refine aw_seq ?_
          refine aw_region (by decide) ?_
          refine rts _ rfl (opD_move (os rfl (os rfl (os rfl (os rfl oz))))) ?_
          refine rts _ rfl (opD_move (ls rfl (os rfl (os rfl oz)))) ?_
          refine rts _ rfl (opD_len_sl Go.Proofs.Try.underlying27 lz) ?_
          refine rts _ rfl (opD_lss (ls rfl (ls rfl lz)) lz) ?_
          refine .nil ?_
          refine aw_keep [(0, _), (3, _), (6, _), (7, _), (8, _), (44, _)] ⟨lg (ls rfl (ls rfl (ls rfl (ls rfl oz)))), lg (ls rfl (ls rfl (ls rfl (ls rfl (os rfl oz))))), lg (ls rfl (ls rfl (ls rfl (ls rfl (os rfl (os rfl oz)))))), lg (ls rfl (ls rfl (ls rfl (ls rfl (os rfl (os rfl (os rfl oz))))))), lg (ls rfl (ls rfl (ls rfl (ls rfl (os rfl (os rfl (os rfl (os rfl oz)))))))), lg lz, trivial⟩ ?_
          refine aw_cond _ (os rfl (os rfl (os rfl (os rfl (os rfl oz))))) (fun hc => ?_) (fun hc => ?_)
          · skip
            replace hz_11 := ifb_t hz_11 hc
            clear hc
            refine aw_skip ?_
            refine aw_keep [(0, _), (3, _), (6, _), (7, _), (8, _)] ⟨lg oz, lg (os rfl oz), lg (os rfl (os rfl oz)), lg (os rfl (os rfl (os rfl oz))), lg (os rfl (os rfl (os rfl (os rfl oz)))), trivial⟩ ?_
            refine aw_seq ?_
            refine aw_block ?_
            refine aw_seq ?_
            refine aw_flat mixed_uAb (by decide +kernel) ?_
            refine zts _ rfl (opD_move (os rfl (os rfl oz))) ?_
            refine zts _ rfl (opD_move (ls rfl (os rfl (os rfl (os rfl (os rfl oz)))))) ?_
            replace hz_11 := ixb_some hz_11
            obtain ⟨x_12, hx_12, hbx_12, hz_11⟩ := hz_11
            refine zts _ rfl (opD_indexAddr_sl (i := t_10.toNat) Go.Proofs.Try.underlying27 sz3_uAb (ls rfl lz) lz hbx_12.2.2 hbx_12.2.1) ?_
            refine zts _ rfl (opD_load_el_one ag3_uAb lz hx_12 rfl) ?_
            refine zts _ rfl (opD_move (ls rfl (ls rfl (ls rfl (ls rfl (os rfl (os rfl (os rfl oz)))))))) ?_
            refine zts _ rfl (opD_move (ls rfl (ls rfl (ls rfl (ls rfl (ls rfl (os rfl (os rfl (os rfl (os rfl oz)))))))))) ?_
            replace hz_11 := ixb_some hz_11
            obtain ⟨x_13, hx_13, hbx_13, hz_11⟩ := hz_11
            refine zts _ rfl (opD_indexAddr_sl (i := t_10.toNat) Go.Proofs.Try.underlying27 sz3_uAb (ls rfl lz) lz hbx_13.2.2 hbx_13.2.1) ?_
            refine zts _ rfl (opD_load_el_one ag3_uAb lz hx_13 rfl) ?_
            refine zts _ rfl (opD_neq (ls rfl (ls rfl (ls rfl (ls rfl lz)))) lz) ?_
            refine .nil ?_
            refine aw_keep [(0, _), (3, _), (6, _), (7, _), (8, _), (55, _)] ⟨lg (ls rfl (ls rfl (ls rfl (ls rfl (ls rfl (ls rfl (ls rfl (ls rfl (ls rfl oz))))))))), lg (ls rfl (ls rfl (ls rfl (ls rfl (ls rfl (ls rfl (ls rfl (ls rfl (ls rfl (os rfl oz)))))))))), lg (ls rfl (ls rfl (ls rfl (ls rfl (ls rfl (ls rfl (ls rfl (ls rfl (ls rfl (os rfl (os rfl oz))))))))))), lg (ls rfl (ls rfl (ls rfl (ls rfl (ls rfl (ls rfl (ls rfl (ls rfl (ls rfl (os rfl (os rfl (os rfl oz)))))))))))), lg (ls rfl (ls rfl (ls rfl (ls rfl (ls rfl (ls rfl (ls rfl (ls rfl (ls rfl (os rfl (os rfl (os rfl (os rfl oz))))))))))))), lg lz, trivial⟩ ?_
            refine aw_cond _ (os rfl (os rfl (os rfl (os rfl (os rfl oz))))) (fun hc => ?_) (fun hc => ?_)
            · skip
              replace hz_11 := ifb_t hz_11 hc
              clear hc
              refine aw_seq ?_
              refine aw_region (by decide) ?_
              refine rts _ rfl (opD_assign (ev_const _ _)) ?_
              refine .nil ?_
              refine aw_keep [(4, _)] ⟨lg lz, trivial⟩ ?_
              refine aw_ret ?_
              obtain rfl := some_of hz_11
              replace hz_9 := ocs_r hz_9
              obtain rfl := some_of hz_9
              replace h0 := ocs_l h0
              refine wk_no ?_
              refine wk_no ?_
              obtain rfl := some_of h0
              exact done_ext (.inr rfl) ((res_one rfl (it_tmp oz)).le (Pd.le_refl _)) (pl_bnd _ _ _)
            · skip
              replace hz_11 := ifb_f hz_11 hc
              clear hc
              refine aw_skip ?_
              refine aw_keep [(0, _), (3, _), (6, _), (7, _), (8, _)] ⟨lg oz, lg (os rfl oz), lg (os rfl (os rfl oz)), lg (os rfl (os rfl (os rfl oz))), lg (os rfl (os rfl (os rfl (os rfl oz)))), trivial⟩ ?_
              refine aw_region (by decide) ?_
              refine rts _ rfl (opD_move (os rfl (os rfl (os rfl (os rfl oz))))) ?_
              refine rts _ rfl (opD_add lz (ev_const _ _) rfl) ?_
              refine rts _ rfl (opD_assign lz) ?_
              refine .nil ?_
              obtain rfl := some_of hz_11
              replace hz_9 := ocs_l hz_9
              refine wk_yesN rfl (l := [(0, sl (kR (kI .u8)) none none p0), (3, ptr (s.boxes.length + 0) 0), (6, sl (kI .i64) none none x_7), (7, sl (kI .i64) none none x_8), (8, pl (.int .i64 (IntKind.i64.wrap (t_10 + 1))))]) (bs' := [⟨24, (flat (kI .u64) p1)⟩]) ⟨le_of_eq (eg (ls rfl (ls rfl (ls rfl oz)))), le_of_eq (eg (ls rfl (ls rfl (ls rfl (os rfl oz))))), le_of_eq (eg (ls rfl (ls rfl (ls rfl (os rfl (os rfl oz)))))), le_of_eq (eg (ls rfl (ls rfl (ls rfl (os rfl (os rfl (os rfl oz))))))), le_of_eq (eg lz), trivial⟩ (bnd_cons (sl_b (kb_R (kb_I _))) (bnd_cons (ptr_bnd _ (by first | omega | (simp only [List.length_append, List.length_cons, List.length_nil]; omega))) (bnd_cons (sl_b (kb_I _)) (bnd_cons (sl_b (kb_I _)) (bnd_cons (pl_bnd _ _ _) bnd_nil))))) (Nat.le_of_ble_eq_true rfl) (by simp only [na, nb, nc, nd, nf, ng, nh, ni, nj, nk] <;> rfl) (bxle_same bxle_nil) rfl (by simp only [na, nb, nc, nd, nf, ng, nh, ni, nj, nk] <;> rfl) (bl_cons (flatKB (kb_I _)) bl_nil) ?_
              exact ⟨m_z_11, Nat.lt_succ_self _, IntKind.i64.wrap (t_10 + 1), ⟨le_of_eq (eg oz), le_of_eq (eg (os rfl oz)), le_of_eq (eg (os rfl (os rfl oz))), le_of_eq (eg (os rfl (os rfl (os rfl oz)))), le_of_eq (eg (os rfl (os rfl (os rfl (os rfl oz))))), trivial⟩, rfl, hz_9⟩
          · skip
            replace hz_11 := ifb_f hz_11 hc
            clear hc
            refine aw_exit ?_
            obtain rfl := some_of hz_11
            replace hz_9 := ocs_r hz_9
            refine wk_no ?_
            refine wk_yesN rfl (l := [(0, sl (kR (kI .u8)) none none p0), (3, ptr (s.boxes.length + 0) 0)]) (bs' := [⟨24, (flat (kI .u64) p1)⟩]) ⟨le_of_eq (eg oz), le_of_eq (eg (os rfl oz)), trivial⟩ (bnd_cons (sl_b (kb_R (kb_I _))) (bnd_cons (ptr_bnd _ (by first | omega | (simp only [List.length_append, List.length_cons, List.length_nil]; omega))) bnd_nil)) (Nat.le_of_ble_eq_true rfl) (by simp only [na, nb, nc, nd, nf, ng, nh, ni, nj, nk] <;> rfl) (bxle_same bxle_nil) rfl (by simp only [na, nb, nc, nd, nf, ng, nh, ni, nj, nk] <;> rfl) (bl_cons (flatKB (kb_I _)) bl_nil) ?_
            exact ⟨(), ⟨le_of_eq (eg oz), le_of_eq (eg (os rfl oz)), trivial⟩, rfl, some_of hz_9⟩
        · rintro e st ⟨vz_9, hH, rfl, rfl⟩
          refine aw_keep _ hH ?_
          replace h0 := ocs_r h0
          refine aw_keep [(0, _), (3, _)] ⟨lg oz, lg (os rfl oz), trivial⟩ ?_
          refine aw_seq ?_
          refine aw_region (by decide) ?_
          refine rts _ rfl (opD_move oz) ?_
          replace h0 := grd_some h0
          obtain ⟨hg_5, h0⟩ := h0
          refine rts _ rfl (loadFN ag24_uAb sz24_uAb (ls rfl (os rfl oz)) (loc_getN rfl rfl) rfl hg_5) ?_
          replace h0 := bnd_some h0
          obtain ⟨x_14, hx_14, h0⟩ := h0
          refine rts _ rfl (opD_pure ht8_uAb (c_sslack hx_14) ⟨le_of_eq (ls rfl lz), le_of_eq lz, trivial⟩) ?_
          refine rts _ rfl (opD_move lz) ?_
          refine rts _ rfl (opD_extract lz rfl) ?_
          refine rts _ rfl (opD_extract (ls rfl lz) rfl) ?_
          refine rts _ rfl (opD_assign (ls rfl lz)) ?_
          refine rts _ rfl (opD_assign (ls rfl lz)) ?_
          refine .nil ?_
          refine aw_keep [(0, _), (3, _), (9, _), (10, _)] ⟨lg (ls rfl (ls rfl (ls rfl (ls rfl (ls rfl (ls rfl (ls rfl (ls rfl oz)))))))), lg (ls rfl (ls rfl (ls rfl (ls rfl (ls rfl (ls rfl (ls rfl (ls rfl (os rfl oz))))))))), lg (ls rfl lz), lg lz, trivial⟩ ?_
          refine aw_seq ?_
          refine aw_region (by decide) ?_
          refine rts _ rfl (opD_move oz) ?_
          replace h0 := grd_some h0
          obtain ⟨hg_6, h0⟩ := h0
          refine rts _ rfl (loadFN ag24_uAb sz24_uAb (ls rfl (os rfl oz)) (loc_getN rfl rfl) rfl hg_6) ?_
          replace h0 := bnd_some h0
          obtain ⟨x_15, hx_15, h0⟩ := h0
          refine rts _ rfl (opD_pure ht9_uAb (c_rslack hx_15) ⟨le_of_eq (ls rfl lz), le_of_eq lz, trivial⟩) ?_
          refine rts _ rfl (opD_move lz) ?_
          refine rts _ rfl (opD_extract lz rfl) ?_
          refine rts _ rfl (opD_extract (ls rfl lz) rfl) ?_
          refine rts _ rfl (opD_assign (ls rfl lz)) ?_
          refine rts _ rfl (opD_assign (ls rfl lz)) ?_
          refine .nil ?_
          refine aw_keep [(0, _), (3, _), (9, _), (10, _), (11, _), (12, _)] ⟨lg (ls rfl (ls rfl (ls rfl (ls rfl (ls rfl (ls rfl (ls rfl (ls rfl oz)))))))), lg (ls rfl (ls rfl (ls rfl (ls rfl (ls rfl (ls rfl (ls rfl (ls rfl (os rfl oz))))))))), lg (ls rfl (ls rfl (ls rfl (ls rfl (ls rfl (ls rfl (ls rfl (ls rfl (os rfl (os rfl oz)))))))))), lg (ls rfl (ls rfl (ls rfl (ls rfl (ls rfl (ls rfl (ls rfl (ls rfl (os rfl (os rfl (os rfl oz))))))))))), lg (ls rfl lz), lg lz, trivial⟩ ?_
          refine aw_seq ?_
          refine aw_flat mixed_uAb (by decide +kernel) ?_
          refine zts _ rfl (opD_move oz) ?_
          replace h0 := grd_some h0
          obtain ⟨hg_16, h0⟩ := h0
          refine zts _ rfl (loadFN ag24_uAb sz24_uAb (ls rfl (os rfl oz)) (loc_getN rfl rfl) rfl hg_16) ?_
          replace h0 := bnd_some h0
          obtain ⟨x_16, hx_16, h0⟩ := h0
          refine zts _ rfl (opD_pure ht10_uAb (c_sclean hx_16) ⟨le_of_eq (ls rfl lz), le_of_eq lz, trivial⟩) ?_
          refine zts _ rfl (opD_move (ls rfl (ls rfl (ls rfl oz)))) ?_
          replace h0 := grd_some h0
          obtain ⟨hg_17, h0⟩ := h0
          refine zts _ rfl (loadFN ag24_uAb sz24_uAb (ls rfl (ls rfl (ls rfl (ls rfl (os rfl oz))))) (loc_getN rfl rfl) rfl hg_17) ?_
          replace h0 := bnd_some h0
          obtain ⟨x_17, hx_17, h0⟩ := h0
          refine zts _ rfl (opD_pure ht11_uAb (c_rclean hx_17) ⟨le_of_eq (ls rfl lz), le_of_eq lz, trivial⟩) ?_
          refine zts _ rfl (opD_beql Go.Proofs.Try.underlying4 (ls rfl (ls rfl (ls rfl lz))) lz) ?_
          refine zts _ rfl (opD_move lz) ?_
          refine ztg _ rfl lz (fun hg18_8_18 => opD_move (ls rfl (ls rfl (ls rfl (ls rfl (ls rfl (ls rfl (ls rfl (ls rfl (os rfl (os rfl oz))))))))))) ?_
          refine ztg _ rfl (ls rfl lz) (fun hg18_9_19 => opD_move (ls rfl (ls rfl (ls rfl (ls rfl (ls rfl (ls rfl (ls rfl (ls rfl (ls rfl (os rfl (os rfl (os rfl (os rfl oz)))))))))))))) ?_
          refine ztg _ rfl (ls rfl (ls rfl lz)) (fun hg18_10_20 => opD_eql ((ls rfl lz).trans (pif_pos hg18_10_20)) (lz.trans (pif_pos hg18_10_20))) ?_
          refine zts _ rfl (opD_and (ls rfl (ls rfl (ls rfl lz))) lz) ?_
          refine zts _ rfl (opD_move lz) ?_
          refine ztg _ rfl lz (fun hg18_13_21 => opD_move (ls rfl (ls rfl (ls rfl (ls rfl (ls rfl (ls rfl (ls rfl (ls rfl (ls rfl (ls rfl (ls rfl (ls rfl (ls rfl (os rfl (os rfl (os rfl oz))))))))))))))))) ?_
          refine ztg _ rfl (ls rfl lz) (fun hg18_14_22 => opD_move (ls rfl (ls rfl (ls rfl (ls rfl (ls rfl (ls rfl (ls rfl (ls rfl (ls rfl (ls rfl (ls rfl (ls rfl (ls rfl (ls rfl (os rfl (os rfl (os rfl (os rfl (os rfl oz)))))))))))))))))))) ?_
          refine ztg _ rfl (ls rfl (ls rfl lz)) (fun hg18_15_23 => opD_eql ((ls rfl lz).trans (pif_pos hg18_15_23)) (lz.trans (pif_pos hg18_15_23))) ?_
          refine zts _ rfl (opD_and (ls rfl (ls rfl (ls rfl lz))) lz) ?_
          refine zts _ rfl (opD_move lz) ?_
          replace h0 := bnd_some h0
          obtain ⟨x_18, hx_18, h0⟩ := h0
          refine ztg _ rfl lz (fun hg18_18_24 => opD_pure ht5_uAb (c_sure22 (gif_some hx_18 hg18_18_24)) trivial) ?_
          refine zts _ rfl (opD_and (ls rfl lz) lz) ?_
          refine zts _ rfl (opD_assign lz) ?_
          refine .nil ?_
          refine aw_keep [(4, _)] ⟨lg lz, trivial⟩ ?_
          refine aw_ret ?_
          obtain rfl := some_of h0
          exact done_ext (.inr rfl) ((res_one rfl (it_tmp oz)).le (Pd.le_refl _)) (pl_bnd _ _ _)
end Go.Proofs.Ytmnhfpcbfdgbcaa.Eng.A
