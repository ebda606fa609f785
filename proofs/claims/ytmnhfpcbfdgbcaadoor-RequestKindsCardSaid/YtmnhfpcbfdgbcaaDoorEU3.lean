/- EU3: what functions do, walked; used by the laws of this seat. -/
import Derived.Test.YtmnhfpcbfdgbcaaDoorEU2
namespace Go.Proofs.YtmnhfpcbfdgbcaaDoor.Eng.A
set_option linter.unusedVariables false
set_option linter.unusedSimpArgs false
open Go.RowKit Go.Proofs.YtmnhfpcbfdgbcaaDoor.Plain Go.Proofs.YtmnhfpcbfdgbcaaDoor.Eng Go.Proofs.YtmnhfpcbfdgbcaaDoor.Eng.Pk Go.Proofs.YtmnhfpcbfdgbcaaDoor.Eng.Rd

theorem sz9_u4b : sizeT Go.Proofs.Tryd.prog 9 = some 1 := by kernel_rfl
theorem zt9_u4b : zeroT Go.Proofs.Tryd.prog 9 = some [.string ⟨#[]⟩] := by kernel_rfl
theorem ag9_u4b : aggT Go.Proofs.Tryd.prog 9 = some false := by kernel_rfl
theorem ht70_u4b : hasText Go.Proofs.Tryd.prog 70 = true := by kernel_rfl
theorem fo114_0_u4b : fieldOff Go.Proofs.Tryd.prog 114 0 = some 0 := by kernel_rfl
theorem ag5_u4b : aggT Go.Proofs.Tryd.prog 5 = some false := by kernel_rfl
theorem fo114_1_u4b : fieldOff Go.Proofs.Tryd.prog 114 1 = some 1 := by kernel_rfl
theorem ag22_u4b : aggT Go.Proofs.Tryd.prog 22 = some false := by kernel_rfl
theorem fo114_2_u4b : fieldOff Go.Proofs.Tryd.prog 114 2 = some 2 := by kernel_rfl
theorem fo114_4_u4b : fieldOff Go.Proofs.Tryd.prog 114 4 = some 5 := by kernel_rfl
theorem fo114_3_u4b : fieldOff Go.Proofs.Tryd.prog 114 3 = some 3 := by kernel_rfl
theorem fo112_0_u4b : fieldOff Go.Proofs.Tryd.prog 112 0 = some 0 := by kernel_rfl
theorem ag3_u4b : aggT Go.Proofs.Tryd.prog 3 = some false := by kernel_rfl
theorem fo112_1_u4b : fieldOff Go.Proofs.Tryd.prog 112 1 = some 1 := by kernel_rfl
theorem fo114_5_u4b : fieldOff Go.Proofs.Tryd.prog 114 5 = some 6 := by kernel_rfl
theorem fo114_6_u4b : fieldOff Go.Proofs.Tryd.prog 114 6 = some 7 := by kernel_rfl
theorem fo114_7_u4b : fieldOff Go.Proofs.Tryd.prog 114 7 = some 8 := by kernel_rfl
theorem fo114_8_u4b : fieldOff Go.Proofs.Tryd.prog 114 8 = some 9 := by kernel_rfl
theorem ht112_u4b : hasText Go.Proofs.Tryd.prog 112 = true := by kernel_rfl
theorem fo114_9_u4b : fieldOff Go.Proofs.Tryd.prog 114 9 = some 10 := by kernel_rfl
theorem ag4_u4b : aggT Go.Proofs.Tryd.prog 4 = some false := by kernel_rfl
theorem ag114_u4b : aggT Go.Proofs.Tryd.prog 114 = some true := by kernel_rfl
theorem sz114_u4b : sizeT Go.Proofs.Tryd.prog 114 = some 11 := by kernel_rfl
theorem ht72_u4b : hasText Go.Proofs.Tryd.prog 72 = true := by kernel_rfl
theorem sz5_u4b : sizeT Go.Proofs.Tryd.prog 5 = some 1 := by kernel_rfl
theorem zt5_u4b : zeroT Go.Proofs.Tryd.prog 5 = some [.int .u8 0] := by kernel_rfl
theorem ht29_u4b : hasText Go.Proofs.Tryd.prog 29 = true := by kernel_rfl
theorem el5_u4b : elT Go.Proofs.Tryd.prog 5 = some (1, 1) := by kernel_rfl
theorem mixed_u4b : Go.Proofs.Tryd.prog.follows .mixedOrders = true := by kernel_rfl
theorem ht30_u4b : hasText Go.Proofs.Tryd.prog 30 = true := by kernel_rfl
theorem zt114_u4b : zeroT Go.Proofs.Tryd.prog 114 = some [.int .u8 0, .int .u64 0, .int .u64 0, .int .i64 0, .int .u64 0, .int .u64 0, .string ⟨#[]⟩, .string ⟨#[]⟩, .int .u8 0, .int .u64 0, .bool false] := by kernel_rfl
theorem pt41_u4b : placesT Go.Proofs.Tryd.prog 41 2 = some [(0, 1), (1, 1)] := by kernel_rfl
theorem zt41_u4b : zeroT Go.Proofs.Tryd.prog 41 = some [.slice none 0 0, .bool false] := by kernel_rfl
theorem ht31_u4b : hasText Go.Proofs.Tryd.prog 31 = true := by kernel_rfl
theorem sz41_u4b : sizeT Go.Proofs.Tryd.prog 41 = some 2 := by kernel_rfl
theorem pt114_u4b : placesT Go.Proofs.Tryd.prog 114 10 = some [(0, 1), (1, 1), (2, 1), (3, 2), (5, 1), (6, 1), (7, 1), (8, 1), (9, 1), (10, 1)] := by kernel_rfl
theorem fo41_1_u4b : fieldOff Go.Proofs.Tryd.prog 41 1 = some 1 := by kernel_rfl
theorem ag41_u4b : aggT Go.Proofs.Tryd.prog 41 = some true := by kernel_rfl
theorem ht32_u4b : hasText Go.Proofs.Tryd.prog 32 = true := by kernel_rfl
theorem ht33_u4b : hasText Go.Proofs.Tryd.prog 33 = true := by kernel_rfl
theorem sz22_u4b : sizeT Go.Proofs.Tryd.prog 22 = some 1 := by kernel_rfl
theorem sz4_u4b : sizeT Go.Proofs.Tryd.prog 4 = some 1 := by kernel_rfl
theorem sz3_u4b : sizeT Go.Proofs.Tryd.prog 3 = some 1 := by kernel_rfl
theorem ht65_u4b : hasText Go.Proofs.Tryd.prog 65 = true := by kernel_rfl
theorem zt118_u4b : zeroT Go.Proofs.Tryd.prog 118 = some [.int .u8 0, .int .u64 0, .int .u64 0, .int .i64 0, .int .u64 0, .int .u64 0, .string ⟨#[]⟩, .string ⟨#[]⟩, .int .u8 0, .int .u64 0, .bool false] := by kernel_rfl
theorem ag112_u4b : aggT Go.Proofs.Tryd.prog 112 = some true := by kernel_rfl
theorem sz112_u4b : sizeT Go.Proofs.Tryd.prog 112 = some 2 := by kernel_rfl
theorem pt118_u4b : placesT Go.Proofs.Tryd.prog 118 10 = some [(0, 1), (1, 1), (2, 1), (3, 2), (5, 1), (6, 1), (7, 1), (8, 1), (9, 1), (10, 1)] := by kernel_rfl
theorem sz118_u4b : sizeT Go.Proofs.Tryd.prog 118 = some 11 := by kernel_rfl
theorem ag118_u4b : aggT Go.Proofs.Tryd.prog 118 = some true := by kernel_rfl

def F_qform2 (p0 : Int) : Option (ByteArray) :=
  ifb (decide (12 < p0)) (some ⟨#[]⟩) (ixb ([⟨#[]⟩, ⟨#[115, 102]⟩, ⟨#[104, 99, 107]⟩, ⟨#[104, 99, 107, 118]⟩, ⟨#[104, 99, 107]⟩, ⟨#[104, 99, 107]⟩, ⟨#[104, 99, 107, 109, 102]⟩, ⟨#[104]⟩, ⟨#[104]⟩, ⟨#[115, 99, 116, 107, 114]⟩, ⟨#[115, 99]⟩, ⟨#[115]⟩, ⟨#[115, 99, 109]⟩] : (List ByteArray)) p0 fun x_1 => some x_1)
set_option maxRecDepth 100000 in
set_option maxHeartbeats 2000000 in
theorem c_qform2 {p0 : Int} {R : ByteArray} (h0 : F_qform2 p0 = some R) : Pure Go.Proofs.Tryd.prog 70 [pl (.int .u8 p0)] (pl (.string R)) := by
  intro s
  unfold F_qform2 at h0
  refine ac_of_aw s.boxes.length s.fr.length Go.Proofs.Tryd.func70 rfl (by simp [Go.Proofs.Tryd.ntmps70]) ?_
  refine aw_ext0 ?_
  refine aw_keep [(0, _)] ⟨lg ez, trivial⟩ ?_
  refine aw_seq ?_
  refine aw_region (by decide) ?_
  refine rts _ rfl (opD_assign (ev_const _ _)) ?_
  refine .nil ?_
  refine aw_keep [(0, _)] ⟨lg (ls rfl oz), trivial⟩ ?_
  refine aw_seq ?_
  refine aw_region (by decide) ?_
  refine rts _ rfl (opD_buildOwn (k := kS) ([⟨#[]⟩, ⟨#[115, 102]⟩, ⟨#[104, 99, 107]⟩, ⟨#[104, 99, 107, 118]⟩, ⟨#[104, 99, 107]⟩, ⟨#[104, 99, 107]⟩, ⟨#[104, 99, 107, 109, 102]⟩, ⟨#[104]⟩, ⟨#[104]⟩, ⟨#[115, 99, 116, 107, 114]⟩, ⟨#[115, 99]⟩, ⟨#[115]⟩, ⟨#[115, 99, 109]⟩] : (List ByteArray)) Go.Proofs.Tryd.underlying193 sz9_u4b zt9_u4b (by decide) rfl (parts_cons (cells1 (ev_const _ _) (one_pl rfl)) (parts_cons (cells1 (ev_const _ _) (one_pl rfl)) (parts_cons (cells1 (ev_const _ _) (one_pl rfl)) (parts_cons (cells1 (ev_const _ _) (one_pl rfl)) (parts_cons (cells1 (ev_const _ _) (one_pl rfl)) (parts_cons (cells1 (ev_const _ _) (one_pl rfl)) (parts_cons (cells1 (ev_const _ _) (one_pl rfl)) (parts_cons (cells1 (ev_const _ _) (one_pl rfl)) (parts_cons (cells1 (ev_const _ _) (one_pl rfl)) (parts_cons (cells1 (ev_const _ _) (one_pl rfl)) (parts_cons (cells1 (ev_const _ _) (one_pl rfl)) (parts_cons (cells1 (ev_const _ _) (one_pl rfl)) (parts_cons (cells1 (ev_const _ _) (one_pl rfl)) parts_nil))))))))))))) rfl rfl (by first | exact List.length_nil | (simp only [List.length_cons, List.length_nil, Nat.zero_add, Nat.reduceAdd] <;> rfl)) (by simp only [na, nb, nc, nd, nf, ng, nh, ni, nj, nk] <;> rfl)) ?_
  refine rts _ rfl (opD_assign lz) ?_
  refine .nil ?_
  refine aw_keep [(0, _), (3, _)] ⟨lg (ls rfl (ls rfl oz)), lg lz, trivial⟩ ?_
  refine aw_seq ?_
  refine aw_seq ?_
  refine aw_region (by decide) ?_
  refine rts _ rfl (opD_move oz) ?_
  refine rts _ rfl (opD_gtr lz (ev_const _ _)) ?_
  refine .nil ?_
  refine aw_keep [(0, _), (3, _), (6, _)] ⟨lg (ls rfl (ls rfl oz)), lg (ls rfl (ls rfl (os rfl oz))), lg lz, trivial⟩ ?_
  refine aw_cond _ (os rfl (os rfl oz)) (fun hc => ?_) (fun hc => ?_)
  · skip
    replace h0 := ifb_t h0 hc
    clear hc
    refine aw_seq ?_
    refine aw_region (by decide) ?_
    refine rts _ rfl (opD_assign (ev_const _ _)) ?_
    refine .nil ?_
    refine aw_keep [(2, _)] ⟨lg lz, trivial⟩ ?_
    refine aw_ret ?_
    obtain rfl := some_of h0
    exact done_ext (.inr rfl) ((res_one rfl (it_tmp oz)).le (Pd.le_refl _)) (pl_bnd _ _ _)
  · skip
    replace h0 := ifb_f h0 hc
    clear hc
    refine aw_skip ?_
    refine aw_keep [(0, _), (3, _)] ⟨lg oz, lg (os rfl oz), trivial⟩ ?_
    refine aw_seq ?_
    refine aw_region (by decide) ?_
    refine rts _ rfl (opD_move (os rfl oz)) ?_
    refine rts _ rfl (opD_move (ls rfl oz)) ?_
    replace h0 := ixb_some h0
    obtain ⟨x_1, hx_1, hbx_1, h0⟩ := h0
    refine rts _ rfl (opD_indexAddr_sl (i := p0.toNat) Go.Proofs.Tryd.underlying193 sz9_u4b (ls rfl lz) lz hbx_1.2.2 hbx_1.2.1) ?_
    refine rts _ rfl (opD_load_el_one ag9_u4b lz hx_1 rfl) ?_
    refine rts _ rfl (opD_assign lz) ?_
    refine .nil ?_
    refine aw_keep [(2, _)] ⟨lg lz, trivial⟩ ?_
    refine aw_ret ?_
    obtain rfl := some_of h0
    exact done_ext (.inr rfl) ((res_one rfl (it_tmp oz)).le (Pd.le_refl _)) (pl_bnd _ _ _)

def F_qhas2_b0 (p1 : Int) (x_1 : (ByteArray)) (t_3 : Int) : Option ((Int) ⊕ ((Bool) ⊕ (Unit))) :=
  ifb (decide (t_3 < (x_1.size : Int))) (grd (Below t_3 x_1.size) <| ifb (decide ((byteAt x_1 t_3) = p1)) (some (.inr (.inl true))) (some (.inl (IntKind.i64.wrap (t_3 + 1))))) (some (.inr (.inr ())))
def F_qhas2 (fl : Nat) (p0 : Int) (p1 : Int) : Option (Bool) :=
  bnd (F_qform2 p0) fun x_1 => bnd (lp (F_qhas2_b0 p1 x_1) fl 0) fun z_2 => ocs z_2 (fun qz_2_0 => some qz_2_0) fun z_2_0 => some false
set_option maxRecDepth 100000 in
set_option maxHeartbeats 2000000 in
theorem c_qhas2 {fl : Nat} {p0 : Int} {p1 : Int} {R : Bool} (h0 : F_qhas2 fl p0 p1 = some R) : Pure Go.Proofs.Tryd.prog 112 [pl (.int .u8 p0), pl (.int .u8 p1)] (pl (.bool R)) := by
  intro s
  unfold F_qhas2 at h0
  refine ac_of_aw s.boxes.length s.fr.length Go.Proofs.Tryd.func112 rfl (by simp [Go.Proofs.Tryd.ntmps112]) ?_
  refine aw_ext0 ?_
  refine aw_keep [(0, _), (1, _)] ⟨lg ez, lg (es ez), trivial⟩ ?_
  refine aw_seq ?_
  refine aw_region (by decide) ?_
  refine rts _ rfl (opD_assign (ev_const _ _)) ?_
  refine .nil ?_
  refine aw_keep [(0, _), (1, _)] ⟨lg (ls rfl oz), lg (ls rfl (os rfl oz)), trivial⟩ ?_
  refine aw_seq ?_
  refine aw_region (by decide) ?_
  refine rts _ rfl (opD_move oz) ?_
  replace h0 := bnd_some h0
  obtain ⟨x_1, hx_1, h0⟩ := h0
  refine rts _ rfl (opD_pure ht70_u4b (c_qform2 hx_1) ⟨le_of_eq lz, trivial⟩) ?_
  refine rts _ rfl (opD_assign lz) ?_
  refine .nil ?_
  refine aw_keep [(1, _), (5, _)] ⟨lg (ls rfl (ls rfl (ls rfl (os rfl oz)))), lg lz, trivial⟩ ?_
  refine aw_seq ?_
  refine aw_seq ?_
  refine aw_region (by decide) ?_
  refine rts _ rfl (opD_assign (ev_const _ _)) ?_
  refine .nil ?_
  refine aw_keep [(1, _), (5, _), (6, _)] ⟨lg (ls rfl oz), lg (ls rfl (os rfl oz)), lg lz, trivial⟩ ?_
  replace h0 := bnd_some h0
  obtain ⟨z_2, hz_2, h0⟩ := h0
  refine aw_mid (fun e st => ∃ v : Unit, Holds e [] ∧ st = s.ext [] [] ∧ (.inr v) = z_2) ?_ ?_
  · skip
    refine aw_wkN rfl 0 0 rfl rfl ?_
    refine aw_block ?_
    refine aw_loop (fun n e st => ∃ v : Int, Holds e [(1, pl (.int .u8 p1)), (5, pl (.string x_1)), (6, pl (.int .i64 v))] ∧ st = s.ext [] [] ∧ lp (F_qhas2_b0 p1 x_1) n v = some z_2) fl ⟨0, ⟨le_of_eq (eg oz), le_of_eq (eg (os rfl oz)), le_of_eq (eg (os rfl (os rfl oz))), trivial⟩, rfl, hz_2⟩ ?_
    rintro n e st ⟨t_3, hH, rfl, hz_2⟩
    replace hz_2 := lp_some hz_2
    obtain ⟨m_z_4, z_4, rfl, hz_4, hz_2⟩ := hz_2
    unfold F_qhas2_b0 at hz_4
    refine aw_keep _ hH ?_
    refine aw_wkN rfl 0 0 rfl rfl ?_
    refine aw_seq ?_
    refine aw_seq ?_
    refine aw_region (by decide) ?_
    refine rts _ rfl (opD_move (os rfl (os rfl oz))) ?_
    refine rts _ rfl (opD_move (ls rfl (os rfl oz))) ?_
    refine rts _ rfl (opD_len_str Go.Proofs.Tryd.underlying9 lz) ?_
    refine rts _ rfl (opD_lss (ls rfl (ls rfl lz)) lz) ?_
    refine .nil ?_
    refine aw_keep [(1, _), (5, _), (6, _), (12, _)] ⟨lg (ls rfl (ls rfl (ls rfl (ls rfl oz)))), lg (ls rfl (ls rfl (ls rfl (ls rfl (os rfl oz))))), lg (ls rfl (ls rfl (ls rfl (ls rfl (os rfl (os rfl oz)))))), lg lz, trivial⟩ ?_
    refine aw_cond _ (os rfl (os rfl (os rfl oz))) (fun hc => ?_) (fun hc => ?_)
    · skip
      replace hz_4 := ifb_t hz_4 hc
      clear hc
      refine aw_skip ?_
      refine aw_keep [(1, _), (5, _), (6, _)] ⟨lg oz, lg (os rfl oz), lg (os rfl (os rfl oz)), trivial⟩ ?_
      refine aw_seq ?_
      refine aw_block ?_
      refine aw_seq ?_
      refine aw_region (by decide) ?_
      refine rts _ rfl (opD_move (os rfl oz)) ?_
      refine rts _ rfl (opD_move (ls rfl (os rfl (os rfl oz)))) ?_
      replace hz_4 := grd_some hz_4
      obtain ⟨hg_4, hz_4⟩ := hz_4
      refine rts _ rfl (opD_index_str Go.Proofs.Tryd.underlying9 (ls rfl lz) lz hg_4) ?_
      refine rts _ rfl (opD_move (ls rfl (ls rfl (ls rfl oz)))) ?_
      refine rts _ rfl (opD_eql (ls rfl lz) lz) ?_
      refine .nil ?_
      refine aw_keep [(1, _), (5, _), (6, _), (19, _)] ⟨lg (ls rfl (ls rfl (ls rfl (ls rfl (ls rfl oz))))), lg (ls rfl (ls rfl (ls rfl (ls rfl (ls rfl (os rfl oz)))))), lg (ls rfl (ls rfl (ls rfl (ls rfl (ls rfl (os rfl (os rfl oz))))))), lg lz, trivial⟩ ?_
      refine aw_cond _ (os rfl (os rfl (os rfl oz))) (fun hc => ?_) (fun hc => ?_)
      · skip
        replace hz_4 := ifb_t hz_4 hc
        clear hc
        refine aw_seq ?_
        refine aw_region (by decide) ?_
        refine rts _ rfl (opD_assign (ev_const _ _)) ?_
        refine .nil ?_
        refine aw_keep [(4, _)] ⟨lg lz, trivial⟩ ?_
        refine aw_ret ?_
        obtain rfl := some_of hz_4
        replace hz_2 := ocs_r hz_2
        obtain rfl := some_of hz_2
        replace h0 := ocs_l h0
        refine wk_no ?_
        refine wk_no ?_
        obtain rfl := some_of h0
        exact done_ext (.inr rfl) ((res_one rfl (it_tmp oz)).le (Pd.le_refl _)) (pl_bnd _ _ _)
      · skip
        replace hz_4 := ifb_f hz_4 hc
        clear hc
        refine aw_skip ?_
        refine aw_keep [(1, _), (5, _), (6, _)] ⟨lg oz, lg (os rfl oz), lg (os rfl (os rfl oz)), trivial⟩ ?_
        refine aw_region (by decide) ?_
        refine rts _ rfl (opD_move (os rfl (os rfl oz))) ?_
        refine rts _ rfl (opD_add lz (ev_const _ _) rfl) ?_
        refine rts _ rfl (opD_assign lz) ?_
        refine .nil ?_
        obtain rfl := some_of hz_4
        replace hz_2 := ocs_l hz_2
        refine wk_yesN rfl (l := [(1, pl (.int .u8 p1)), (5, pl (.string x_1)), (6, pl (.int .i64 (IntKind.i64.wrap (t_3 + 1))))]) (bs' := []) ⟨le_of_eq (eg (ls rfl (ls rfl (ls rfl oz)))), le_of_eq (eg (ls rfl (ls rfl (ls rfl (os rfl oz))))), le_of_eq (eg lz), trivial⟩ (bnd_cons (pl_bnd _ _ _) (bnd_cons (pl_bnd _ _ _) (bnd_cons (pl_bnd _ _ _) bnd_nil))) (Nat.le_of_ble_eq_true rfl) (by simp only [na, nb, nc, nd, nf, ng, nh, ni, nj, nk] <;> rfl) bxle_nil rfl (by simp only [na, nb, nc, nd, nf, ng, nh, ni, nj, nk] <;> rfl) bl_nil ?_
        exact ⟨m_z_4, Nat.lt_succ_self _, IntKind.i64.wrap (t_3 + 1), ⟨le_of_eq (eg oz), le_of_eq (eg (os rfl oz)), le_of_eq (eg (os rfl (os rfl oz))), trivial⟩, rfl, hz_2⟩
    · skip
      replace hz_4 := ifb_f hz_4 hc
      clear hc
      refine aw_exit ?_
      obtain rfl := some_of hz_4
      replace hz_2 := ocs_r hz_2
      refine wk_no ?_
      refine wk_yesN rfl (l := []) (bs' := []) trivial bnd_nil (Nat.le_of_ble_eq_true rfl) (by simp only [na, nb, nc, nd, nf, ng, nh, ni, nj, nk] <;> rfl) bxle_nil rfl (by simp only [na, nb, nc, nd, nf, ng, nh, ni, nj, nk] <;> rfl) bl_nil ?_
      exact ⟨(), trivial, rfl, some_of hz_2⟩
  · rintro e st ⟨vz_2, hH, rfl, rfl⟩
    refine aw_keep _ hH ?_
    replace h0 := ocs_r h0
    refine aw_keep [] trivial ?_
    refine aw_seq ?_
    refine aw_region (by decide) ?_
    refine rts _ rfl (opD_assign (ev_const _ _)) ?_
    refine .nil ?_
    refine aw_keep [(4, _)] ⟨lg lz, trivial⟩ ?_
    refine aw_ret ?_
    obtain rfl := some_of h0
    exact done_ext (.inr rfl) ((res_one rfl (it_tmp oz)).le (Pd.le_refl _)) (pl_bnd _ _ _)

def F_qmay2 (fl : Nat) (p0 : Rq) : Option (Bool) :=
  bnd (F_qform2 p0.Kind) fun x_1 => ifb (((((((((((decide (x_1 = ⟨#[]⟩)) || (decide (4611686018427387904 < p0.Space))) || (decide (4611686018427387904 < p0.Handle))) || (decide (4611686018427387904 < p0.To))) || (decide (p0.Ref.Slot < 0))) || (decide (63 < p0.Ref.Slot))) || (decide (4611686018427387904 < p0.Ref.Gen))) || (decide (39 < (p0.Key.size : Int)))) || (decide (2048 < (p0.Value.size : Int)))) || (decide (63 < p0.Rights))) || (decide (65536 < p0.Most))) (some false) (bnd (F_qhas2 fl p0.Kind 115) fun x_2 => bnd (gif (((!x_2) && (decide (p0.Space ≠ 0))) == false) (F_qhas2 fl p0.Kind 104)) fun x_3 => bnd (gif ((((!x_2) && (decide (p0.Space ≠ 0))) || ((!x_3) && (decide (p0.Handle ≠ 0)))) == false) (F_qhas2 fl p0.Kind 116)) fun x_4 => bnd (gif (((((!x_2) && (decide (p0.Space ≠ 0))) || ((!x_3) && (decide (p0.Handle ≠ 0)))) || ((!x_4) && (decide (p0.To ≠ 0)))) == false) (F_qhas2 fl p0.Kind 99)) fun x_5 => ifb (((((!x_2) && (decide (p0.Space ≠ 0))) || ((!x_3) && (decide (p0.Handle ≠ 0)))) || ((!x_4) && (decide (p0.To ≠ 0)))) || ((!x_5) && ((decide (p0.Ref.Slot ≠ 0)) || (decide (p0.Ref.Gen ≠ 0))))) (some false) (bnd (F_qhas2 fl p0.Kind 107) fun x_6 => bnd (gif ((x_6 || (decide (p0.Key = ⟨#[]⟩))) == true) (F_qhas2 fl p0.Kind 118)) fun x_7 => bnd (gif (((x_6 || (decide (p0.Key = ⟨#[]⟩))) && (x_7 || (decide (p0.Value = ⟨#[]⟩)))) == true) (F_qhas2 fl p0.Kind 114)) fun x_8 => bnd (gif ((((x_6 || (decide (p0.Key = ⟨#[]⟩))) && (x_7 || (decide (p0.Value = ⟨#[]⟩)))) && (x_8 || (decide (p0.Rights = 0)))) == true) (F_qhas2 fl p0.Kind 109)) fun x_9 => bnd (gif (((((x_6 || (decide (p0.Key = ⟨#[]⟩))) && (x_7 || (decide (p0.Value = ⟨#[]⟩)))) && (x_8 || (decide (p0.Rights = 0)))) && (x_9 || (decide (p0.Most = 0)))) == true) (F_qhas2 fl p0.Kind 102)) fun x_10 => some (((((x_6 || (decide (p0.Key = ⟨#[]⟩))) && (x_7 || (decide (p0.Value = ⟨#[]⟩)))) && (x_8 || (decide (p0.Rights = 0)))) && (x_9 || (decide (p0.Most = 0)))) && (x_10 || (!p0.Flag)))))
set_option maxRecDepth 100000 in
set_option maxHeartbeats 2000000 in
theorem c_qmay2 {fl : Nat} {p0 : Rq} {R : Bool} (h0 : F_qmay2 fl p0 = some R) : Pure Go.Proofs.Tryd.prog 72 [agg [pl (.int .u8 p0.Kind), pl (.int .u64 p0.Space), pl (.int .u64 p0.Handle), pl (.int .i64 p0.Ref.Slot), pl (.int .u64 p0.Ref.Gen), pl (.int .u64 p0.To), pl (.string p0.Key), pl (.string p0.Value), pl (.int .u8 p0.Rights), pl (.int .u64 p0.Most), pl (.bool p0.Flag)]] (pl (.bool R)) := by
  intro s
  unfold F_qmay2 at h0
  refine ac_of_aw s.boxes.length s.fr.length Go.Proofs.Tryd.func72 rfl (by simp [Go.Proofs.Tryd.ntmps72]) ?_
  refine aw_ext0 ?_
  refine aw_keep [(0, _)] ⟨lg ez, trivial⟩ ?_
  refine aw_seq ?_
  refine aw_region (by decide) ?_
  refine rts _ rfl (boxAN rfl oz (bnd_cons (pl_bnd _ _ _) (bnd_cons (pl_bnd _ _ _) (bnd_cons (pl_bnd _ _ _) (bnd_cons (pl_bnd _ _ _) (bnd_cons (pl_bnd _ _ _) (bnd_cons (pl_bnd _ _ _) (bnd_cons (pl_bnd _ _ _) (bnd_cons (pl_bnd _ _ _) (bnd_cons (pl_bnd _ _ _) (bnd_cons (pl_bnd _ _ _) (bnd_cons (pl_bnd _ _ _) bnd_nil))))))))))) (by first | exact List.length_nil | (simp only [List.length_cons, List.length_nil, Nat.zero_add, Nat.reduceAdd] <;> rfl)) (by simp only [na, nb, nc, nd, nf, ng, nh, ni, nj, nk] <;> rfl)) ?_
  refine rts _ rfl (opD_assign (ev_const _ _)) ?_
  refine .nil ?_
  refine aw_keep [(1, _)] ⟨lg (ls rfl lz), trivial⟩ ?_
  refine aw_seq ?_
  refine aw_region (by decide) ?_
  refine rts _ rfl (opD_fieldAddr fo114_0_u4b oz) ?_
  refine rts _ rfl (opD_load_one ag5_u4b lz (loc_getN rfl rfl) rfl) ?_
  refine rts _ rfl (opD_assign lz) ?_
  refine .nil ?_
  refine aw_keep [(1, _), (3, _)] ⟨lg (ls rfl (ls rfl (ls rfl oz))), lg lz, trivial⟩ ?_
  refine aw_seq ?_
  refine aw_seq ?_
  refine aw_region (by decide) ?_
  refine rts _ rfl (opD_move (os rfl oz)) ?_
  replace h0 := bnd_some h0
  obtain ⟨x_1, hx_1, h0⟩ := h0
  refine rts _ rfl (opD_pure ht70_u4b (c_qform2 hx_1) ⟨le_of_eq lz, trivial⟩) ?_
  refine rts _ rfl (opD_seql lz (ev_const _ _)) ?_
  refine rts _ rfl (opD_move lz) ?_
  refine rtg _ rfl lz (fun hg2_4_1 => opD_fieldAddr fo114_1_u4b (ls rfl (ls rfl (ls rfl (ls rfl oz))))) ?_
  refine rtg _ rfl (ls rfl lz) (fun hg2_5_2 => opD_load_one ag22_u4b (lz.trans (pif_pos hg2_5_2)) (loc_getN rfl rfl) rfl) ?_
  refine rtg _ rfl (ls rfl (ls rfl lz)) (fun hg2_6_3 => opD_gtr (lz.trans (pif_pos hg2_6_3)) (ev_const _ _)) ?_
  refine rts _ rfl (opD_or (ls rfl (ls rfl (ls rfl lz))) lz) ?_
  refine rts _ rfl (opD_move lz) ?_
  refine rtg _ rfl lz (fun hg2_9_4 => opD_fieldAddr fo114_2_u4b (ls rfl (ls rfl (ls rfl (ls rfl (ls rfl (ls rfl (ls rfl (ls rfl (ls rfl oz)))))))))) ?_
  refine rtg _ rfl (ls rfl lz) (fun hg2_10_5 => opD_load_one ag22_u4b (lz.trans (pif_pos hg2_10_5)) (loc_getN rfl rfl) rfl) ?_
  refine rtg _ rfl (ls rfl (ls rfl lz)) (fun hg2_11_6 => opD_gtr (lz.trans (pif_pos hg2_11_6)) (ev_const _ _)) ?_
  refine rts _ rfl (opD_or (ls rfl (ls rfl (ls rfl lz))) lz) ?_
  refine rts _ rfl (opD_move lz) ?_
  refine rtg _ rfl lz (fun hg2_14_7 => opD_fieldAddr fo114_4_u4b (ls rfl (ls rfl (ls rfl (ls rfl (ls rfl (ls rfl (ls rfl (ls rfl (ls rfl (ls rfl (ls rfl (ls rfl (ls rfl (ls rfl oz))))))))))))))) ?_
  refine rtg _ rfl (ls rfl lz) (fun hg2_15_8 => opD_load_one ag22_u4b (lz.trans (pif_pos hg2_15_8)) (loc_getN rfl rfl) rfl) ?_
  refine rtg _ rfl (ls rfl (ls rfl lz)) (fun hg2_16_9 => opD_gtr (lz.trans (pif_pos hg2_16_9)) (ev_const _ _)) ?_
  refine rts _ rfl (opD_or (ls rfl (ls rfl (ls rfl lz))) lz) ?_
  refine rts _ rfl (opD_move lz) ?_
  refine rtg _ rfl lz (fun hg2_19_10 => opD_fieldAddr fo114_3_u4b (ls rfl (ls rfl (ls rfl (ls rfl (ls rfl (ls rfl (ls rfl (ls rfl (ls rfl (ls rfl (ls rfl (ls rfl (ls rfl (ls rfl (ls rfl (ls rfl (ls rfl (ls rfl (ls rfl oz)))))))))))))))))))) ?_
  refine rtg _ rfl (ls rfl lz) (fun hg2_20_11 => opD_fieldAddr fo112_0_u4b (lz.trans (pif_pos hg2_20_11))) ?_
  refine rtg _ rfl (ls rfl (ls rfl lz)) (fun hg2_21_12 => opD_load_one ag3_u4b (lz.trans (pif_pos hg2_21_12)) (loc_getN rfl rfl) rfl) ?_
  refine rtg _ rfl (ls rfl (ls rfl (ls rfl lz))) (fun hg2_22_13 => opD_lss (lz.trans (pif_pos hg2_22_13)) (ev_const _ _)) ?_
  refine rts _ rfl (opD_or (ls rfl (ls rfl (ls rfl (ls rfl lz)))) lz) ?_
  refine rts _ rfl (opD_move lz) ?_
  refine rtg _ rfl lz (fun hg2_25_14 => opD_fieldAddr fo114_3_u4b (ls rfl (ls rfl (ls rfl (ls rfl (ls rfl (ls rfl (ls rfl (ls rfl (ls rfl (ls rfl (ls rfl (ls rfl (ls rfl (ls rfl (ls rfl (ls rfl (ls rfl (ls rfl (ls rfl (ls rfl (ls rfl (ls rfl (ls rfl (ls rfl (ls rfl oz)))))))))))))))))))))))))) ?_
  refine rtg _ rfl (ls rfl lz) (fun hg2_26_15 => opD_fieldAddr fo112_0_u4b (lz.trans (pif_pos hg2_26_15))) ?_
  refine rtg _ rfl (ls rfl (ls rfl lz)) (fun hg2_27_16 => opD_load_one ag3_u4b (lz.trans (pif_pos hg2_27_16)) (loc_getN rfl rfl) rfl) ?_
  refine rtg _ rfl (ls rfl (ls rfl (ls rfl lz))) (fun hg2_28_17 => opD_gtr (lz.trans (pif_pos hg2_28_17)) (ev_const _ _)) ?_
  refine rts _ rfl (opD_or (ls rfl (ls rfl (ls rfl (ls rfl lz)))) lz) ?_
  refine rts _ rfl (opD_move lz) ?_
  refine rtg _ rfl lz (fun hg2_31_18 => opD_fieldAddr fo114_3_u4b (ls rfl (ls rfl (ls rfl (ls rfl (ls rfl (ls rfl (ls rfl (ls rfl (ls rfl (ls rfl (ls rfl (ls rfl (ls rfl (ls rfl (ls rfl (ls rfl (ls rfl (ls rfl (ls rfl (ls rfl (ls rfl (ls rfl (ls rfl (ls rfl (ls rfl (ls rfl (ls rfl (ls rfl (ls rfl (ls rfl (ls rfl oz)))))))))))))))))))))))))))))))) ?_
  refine rtg _ rfl (ls rfl lz) (fun hg2_32_19 => opD_fieldAddr fo112_1_u4b (lz.trans (pif_pos hg2_32_19))) ?_
  refine rtg _ rfl (ls rfl (ls rfl lz)) (fun hg2_33_20 => opD_load_one ag22_u4b (lz.trans (pif_pos hg2_33_20)) (loc_getN rfl rfl) rfl) ?_
  refine rtg _ rfl (ls rfl (ls rfl (ls rfl lz))) (fun hg2_34_21 => opD_gtr (lz.trans (pif_pos hg2_34_21)) (ev_const _ _)) ?_
  refine rts _ rfl (opD_or (ls rfl (ls rfl (ls rfl (ls rfl lz)))) lz) ?_
  refine rts _ rfl (opD_move lz) ?_
  refine rtg _ rfl lz (fun hg2_37_22 => opD_fieldAddr fo114_5_u4b (ls rfl (ls rfl (ls rfl (ls rfl (ls rfl (ls rfl (ls rfl (ls rfl (ls rfl (ls rfl (ls rfl (ls rfl (ls rfl (ls rfl (ls rfl (ls rfl (ls rfl (ls rfl (ls rfl (ls rfl (ls rfl (ls rfl (ls rfl (ls rfl (ls rfl (ls rfl (ls rfl (ls rfl (ls rfl (ls rfl (ls rfl (ls rfl (ls rfl (ls rfl (ls rfl (ls rfl (ls rfl oz)))))))))))))))))))))))))))))))))))))) ?_
  refine rtg _ rfl (ls rfl lz) (fun hg2_38_23 => opD_load_one ag9_u4b (lz.trans (pif_pos hg2_38_23)) (loc_getN rfl rfl) rfl) ?_
  refine rtg _ rfl (ls rfl (ls rfl lz)) (fun hg2_39_24 => opD_len_str Go.Proofs.Tryd.underlying9 (lz.trans (pif_pos hg2_39_24))) ?_
  refine rtg _ rfl (ls rfl (ls rfl (ls rfl lz))) (fun hg2_40_25 => opD_gtr (lz.trans (pif_pos hg2_40_25)) (ev_const _ _)) ?_
  refine rts _ rfl (opD_or (ls rfl (ls rfl (ls rfl (ls rfl lz)))) lz) ?_
  refine rts _ rfl (opD_move lz) ?_
  refine rtg _ rfl lz (fun hg2_43_26 => opD_fieldAddr fo114_6_u4b (ls rfl (ls rfl (ls rfl (ls rfl (ls rfl (ls rfl (ls rfl (ls rfl (ls rfl (ls rfl (ls rfl (ls rfl (ls rfl (ls rfl (ls rfl (ls rfl (ls rfl (ls rfl (ls rfl (ls rfl (ls rfl (ls rfl (ls rfl (ls rfl (ls rfl (ls rfl (ls rfl (ls rfl (ls rfl (ls rfl (ls rfl (ls rfl (ls rfl (ls rfl (ls rfl (ls rfl (ls rfl (ls rfl (ls rfl (ls rfl (ls rfl (ls rfl (ls rfl oz)))))))))))))))))))))))))))))))))))))))))))) ?_
  refine rtg _ rfl (ls rfl lz) (fun hg2_44_27 => opD_load_one ag9_u4b (lz.trans (pif_pos hg2_44_27)) (loc_getN rfl rfl) rfl) ?_
  refine rtg _ rfl (ls rfl (ls rfl lz)) (fun hg2_45_28 => opD_len_str Go.Proofs.Tryd.underlying9 (lz.trans (pif_pos hg2_45_28))) ?_
  refine rtg _ rfl (ls rfl (ls rfl (ls rfl lz))) (fun hg2_46_29 => opD_gtr (lz.trans (pif_pos hg2_46_29)) (ev_const _ _)) ?_
  refine rts _ rfl (opD_or (ls rfl (ls rfl (ls rfl (ls rfl lz)))) lz) ?_
  refine rts _ rfl (opD_move lz) ?_
  refine rtg _ rfl lz (fun hg2_49_30 => opD_fieldAddr fo114_7_u4b (ls rfl (ls rfl (ls rfl (ls rfl (ls rfl (ls rfl (ls rfl (ls rfl (ls rfl (ls rfl (ls rfl (ls rfl (ls rfl (ls rfl (ls rfl (ls rfl (ls rfl (ls rfl (ls rfl (ls rfl (ls rfl (ls rfl (ls rfl (ls rfl (ls rfl (ls rfl (ls rfl (ls rfl (ls rfl (ls rfl (ls rfl (ls rfl (ls rfl (ls rfl (ls rfl (ls rfl (ls rfl (ls rfl (ls rfl (ls rfl (ls rfl (ls rfl (ls rfl (ls rfl (ls rfl (ls rfl (ls rfl (ls rfl (ls rfl oz)))))))))))))))))))))))))))))))))))))))))))))))))) ?_
  refine rtg _ rfl (ls rfl lz) (fun hg2_50_31 => opD_load_one ag5_u4b (lz.trans (pif_pos hg2_50_31)) (loc_getN rfl rfl) rfl) ?_
  refine rtg _ rfl (ls rfl (ls rfl lz)) (fun hg2_51_32 => opD_gtr (lz.trans (pif_pos hg2_51_32)) (ev_const _ _)) ?_
  refine rts _ rfl (opD_or (ls rfl (ls rfl (ls rfl lz))) lz) ?_
  refine rts _ rfl (opD_move lz) ?_
  refine rtg _ rfl lz (fun hg2_54_33 => opD_fieldAddr fo114_8_u4b (ls rfl (ls rfl (ls rfl (ls rfl (ls rfl (ls rfl (ls rfl (ls rfl (ls rfl (ls rfl (ls rfl (ls rfl (ls rfl (ls rfl (ls rfl (ls rfl (ls rfl (ls rfl (ls rfl (ls rfl (ls rfl (ls rfl (ls rfl (ls rfl (ls rfl (ls rfl (ls rfl (ls rfl (ls rfl (ls rfl (ls rfl (ls rfl (ls rfl (ls rfl (ls rfl (ls rfl (ls rfl (ls rfl (ls rfl (ls rfl (ls rfl (ls rfl (ls rfl (ls rfl (ls rfl (ls rfl (ls rfl (ls rfl (ls rfl (ls rfl (ls rfl (ls rfl (ls rfl (ls rfl oz))))))))))))))))))))))))))))))))))))))))))))))))))))))) ?_
  refine rtg _ rfl (ls rfl lz) (fun hg2_55_34 => opD_load_one ag22_u4b (lz.trans (pif_pos hg2_55_34)) (loc_getN rfl rfl) rfl) ?_
  refine rtg _ rfl (ls rfl (ls rfl lz)) (fun hg2_56_35 => opD_gtr (lz.trans (pif_pos hg2_56_35)) (ev_const _ _)) ?_
  refine rts _ rfl (opD_or (ls rfl (ls rfl (ls rfl lz))) lz) ?_
  refine .nil ?_
  refine aw_keep [(1, _), (3, _), (63, _)] ⟨lg (ls rfl (ls rfl (ls rfl (ls rfl (ls rfl (ls rfl (ls rfl (ls rfl (ls rfl (ls rfl (ls rfl (ls rfl (ls rfl (ls rfl (ls rfl (ls rfl (ls rfl (ls rfl (ls rfl (ls rfl (ls rfl (ls rfl (ls rfl (ls rfl (ls rfl (ls rfl (ls rfl (ls rfl (ls rfl (ls rfl (ls rfl (ls rfl (ls rfl (ls rfl (ls rfl (ls rfl (ls rfl (ls rfl (ls rfl (ls rfl (ls rfl (ls rfl (ls rfl (ls rfl (ls rfl (ls rfl (ls rfl (ls rfl (ls rfl (ls rfl (ls rfl (ls rfl (ls rfl (ls rfl (ls rfl (ls rfl (ls rfl (ls rfl oz)))))))))))))))))))))))))))))))))))))))))))))))))))))))))), lg (ls rfl (ls rfl (ls rfl (ls rfl (ls rfl (ls rfl (ls rfl (ls rfl (ls rfl (ls rfl (ls rfl (ls rfl (ls rfl (ls rfl (ls rfl (ls rfl (ls rfl (ls rfl (ls rfl (ls rfl (ls rfl (ls rfl (ls rfl (ls rfl (ls rfl (ls rfl (ls rfl (ls rfl (ls rfl (ls rfl (ls rfl (ls rfl (ls rfl (ls rfl (ls rfl (ls rfl (ls rfl (ls rfl (ls rfl (ls rfl (ls rfl (ls rfl (ls rfl (ls rfl (ls rfl (ls rfl (ls rfl (ls rfl (ls rfl (ls rfl (ls rfl (ls rfl (ls rfl (ls rfl (ls rfl (ls rfl (ls rfl (ls rfl (os rfl oz))))))))))))))))))))))))))))))))))))))))))))))))))))))))))), lg lz, trivial⟩ ?_
  refine aw_cond _ (os rfl (os rfl oz)) (fun hc => ?_) (fun hc => ?_)
  · skip
    replace h0 := ifb_t h0 hc
    clear hc
    refine aw_seq ?_
    refine aw_region (by decide) ?_
    refine rts _ rfl (opD_assign (ev_const _ _)) ?_
    refine .nil ?_
    refine aw_keep [(2, _)] ⟨lg lz, trivial⟩ ?_
    refine aw_ret ?_
    obtain rfl := some_of h0
    exact done_ext (.inr rfl) ((res_one rfl (it_tmp oz)).le (Pd.le_refl _)) (pl_bnd _ _ _)
  · skip
    replace h0 := ifb_f h0 hc
    clear hc
    refine aw_skip ?_
    refine aw_keep [(1, _), (3, _)] ⟨lg oz, lg (os rfl oz), trivial⟩ ?_
    refine aw_seq ?_
    refine aw_seq ?_
    refine aw_region (by decide) ?_
    refine rts _ rfl (opD_move (os rfl oz)) ?_
    replace h0 := bnd_some h0
    obtain ⟨x_2, hx_2, h0⟩ := h0
    refine rts _ rfl (opD_pure ht112_u4b (c_qhas2 hx_2) ⟨le_of_eq lz, le_of_eq (ev_const _ _), trivial⟩) ?_
    refine rts _ rfl (opD_not lz) ?_
    refine rts _ rfl (opD_move lz) ?_
    refine rtg _ rfl lz (fun hg4_4_36 => opD_fieldAddr fo114_1_u4b (ls rfl (ls rfl (ls rfl (ls rfl oz))))) ?_
    refine rtg _ rfl (ls rfl lz) (fun hg4_5_37 => opD_load_one ag22_u4b (lz.trans (pif_pos hg4_5_37)) (loc_getN rfl rfl) rfl) ?_
    refine rtg _ rfl (ls rfl (ls rfl lz)) (fun hg4_6_38 => opD_neq (lz.trans (pif_pos hg4_6_38)) (ev_const _ _)) ?_
    refine rts _ rfl (opD_and (ls rfl (ls rfl (ls rfl lz))) lz) ?_
    refine rts _ rfl (opD_move lz) ?_
    refine rtg _ rfl lz (fun hg4_9_39 => opD_move (ls rfl (ls rfl (ls rfl (ls rfl (ls rfl (ls rfl (ls rfl (ls rfl (ls rfl (os rfl oz))))))))))) ?_
    replace h0 := bnd_some h0
    obtain ⟨x_3, hx_3, h0⟩ := h0
    refine rtg _ rfl (ls rfl lz) (fun hg4_10_40 => opD_pure ht112_u4b (c_qhas2 (gif_some hx_3 hg4_10_40)) ⟨le_of_eq (lz.trans (pif_pos hg4_10_40)), le_of_eq (ev_const _ _), trivial⟩) ?_
    refine rtg _ rfl (ls rfl (ls rfl lz)) (fun hg4_11_41 => opD_not (lz.trans (pif_pos hg4_11_41))) ?_
    refine rtg _ rfl (ls rfl (ls rfl (ls rfl lz))) (fun hg4_12_42 => opD_move (lz.trans (pif_pos hg4_12_42))) ?_
    refine rtg2 _ rfl lz (fun hg4_13_43 => opD_fieldAddr fo114_2_u4b (ls rfl (ls rfl (ls rfl (ls rfl (ls rfl (ls rfl (ls rfl (ls rfl (ls rfl (ls rfl (ls rfl (ls rfl (ls rfl oz)))))))))))))) ?_
    refine rtg2 _ rfl (ls rfl lz) (fun hg4_14_44 => opD_load_one ag22_u4b (lz.trans (pif_pos hg4_14_44)) (loc_getN rfl rfl) rfl) ?_
    refine rtg2 _ rfl (ls rfl (ls rfl lz)) (fun hg4_15_45 => opD_neq (lz.trans (pif_pos hg4_15_45)) (ev_const _ _)) ?_
    refine rtg _ rfl (ls rfl (ls rfl (ls rfl (ls rfl (ls rfl (ls rfl (ls rfl lz))))))) (fun hg4_16_46 => opD_and ((ls rfl (ls rfl (ls rfl lz))).trans (pif_pos hg4_16_46)) (lz.trans (pif_and hg4_16_46))) ?_
    refine rts _ rfl (opD_or (ls rfl (ls rfl (ls rfl (ls rfl (ls rfl (ls rfl (ls rfl (ls rfl lz)))))))) lz) ?_
    refine rts _ rfl (opD_move lz) ?_
    refine rtg _ rfl lz (fun hg4_19_47 => opD_move (ls rfl (ls rfl (ls rfl (ls rfl (ls rfl (ls rfl (ls rfl (ls rfl (ls rfl (ls rfl (ls rfl (ls rfl (ls rfl (ls rfl (ls rfl (ls rfl (ls rfl (ls rfl (ls rfl (os rfl oz))))))))))))))))))))) ?_
    replace h0 := bnd_some h0
    obtain ⟨x_4, hx_4, h0⟩ := h0
    refine rtg _ rfl (ls rfl lz) (fun hg4_20_48 => opD_pure ht112_u4b (c_qhas2 (gif_some hx_4 hg4_20_48)) ⟨le_of_eq (lz.trans (pif_pos hg4_20_48)), le_of_eq (ev_const _ _), trivial⟩) ?_
    refine rtg _ rfl (ls rfl (ls rfl lz)) (fun hg4_21_49 => opD_not (lz.trans (pif_pos hg4_21_49))) ?_
    refine rtg _ rfl (ls rfl (ls rfl (ls rfl lz))) (fun hg4_22_50 => opD_move (lz.trans (pif_pos hg4_22_50))) ?_
    refine rtg2 _ rfl lz (fun hg4_23_51 => opD_fieldAddr fo114_4_u4b (ls rfl (ls rfl (ls rfl (ls rfl (ls rfl (ls rfl (ls rfl (ls rfl (ls rfl (ls rfl (ls rfl (ls rfl (ls rfl (ls rfl (ls rfl (ls rfl (ls rfl (ls rfl (ls rfl (ls rfl (ls rfl (ls rfl (ls rfl oz)))))))))))))))))))))))) ?_
    refine rtg2 _ rfl (ls rfl lz) (fun hg4_24_52 => opD_load_one ag22_u4b (lz.trans (pif_pos hg4_24_52)) (loc_getN rfl rfl) rfl) ?_
    refine rtg2 _ rfl (ls rfl (ls rfl lz)) (fun hg4_25_53 => opD_neq (lz.trans (pif_pos hg4_25_53)) (ev_const _ _)) ?_
    refine rtg _ rfl (ls rfl (ls rfl (ls rfl (ls rfl (ls rfl (ls rfl (ls rfl lz))))))) (fun hg4_26_54 => opD_and ((ls rfl (ls rfl (ls rfl lz))).trans (pif_pos hg4_26_54)) (lz.trans (pif_and hg4_26_54))) ?_
    refine rts _ rfl (opD_or (ls rfl (ls rfl (ls rfl (ls rfl (ls rfl (ls rfl (ls rfl (ls rfl lz)))))))) lz) ?_
    refine rts _ rfl (opD_move lz) ?_
    refine rtg _ rfl lz (fun hg4_29_55 => opD_move (ls rfl (ls rfl (ls rfl (ls rfl (ls rfl (ls rfl (ls rfl (ls rfl (ls rfl (ls rfl (ls rfl (ls rfl (ls rfl (ls rfl (ls rfl (ls rfl (ls rfl (ls rfl (ls rfl (ls rfl (ls rfl (ls rfl (ls rfl (ls rfl (ls rfl (ls rfl (ls rfl (ls rfl (ls rfl (os rfl oz))))))))))))))))))))))))))))))) ?_
    replace h0 := bnd_some h0
    obtain ⟨x_5, hx_5, h0⟩ := h0
    refine rtg _ rfl (ls rfl lz) (fun hg4_30_56 => opD_pure ht112_u4b (c_qhas2 (gif_some hx_5 hg4_30_56)) ⟨le_of_eq (lz.trans (pif_pos hg4_30_56)), le_of_eq (ev_const _ _), trivial⟩) ?_
    refine rtg _ rfl (ls rfl (ls rfl lz)) (fun hg4_31_57 => opD_not (lz.trans (pif_pos hg4_31_57))) ?_
    refine rtg _ rfl (ls rfl (ls rfl (ls rfl lz))) (fun hg4_32_58 => opD_move (lz.trans (pif_pos hg4_32_58))) ?_
    refine rtg2 _ rfl lz (fun hg4_33_59 => opD_fieldAddr fo114_3_u4b (ls rfl (ls rfl (ls rfl (ls rfl (ls rfl (ls rfl (ls rfl (ls rfl (ls rfl (ls rfl (ls rfl (ls rfl (ls rfl (ls rfl (ls rfl (ls rfl (ls rfl (ls rfl (ls rfl (ls rfl (ls rfl (ls rfl (ls rfl (ls rfl (ls rfl (ls rfl (ls rfl (ls rfl (ls rfl (ls rfl (ls rfl (ls rfl (ls rfl oz)))))))))))))))))))))))))))))))))) ?_
    refine rtg2 _ rfl (ls rfl lz) (fun hg4_34_60 => opD_fieldAddr fo112_0_u4b (lz.trans (pif_pos hg4_34_60))) ?_
    refine rtg2 _ rfl (ls rfl (ls rfl lz)) (fun hg4_35_61 => opD_load_one ag3_u4b (lz.trans (pif_pos hg4_35_61)) (loc_getN rfl rfl) rfl) ?_
    refine rtg2 _ rfl (ls rfl (ls rfl (ls rfl lz))) (fun hg4_36_62 => opD_neq (lz.trans (pif_pos hg4_36_62)) (ev_const _ _)) ?_
    refine rtg2 _ rfl (ls rfl (ls rfl (ls rfl (ls rfl lz)))) (fun hg4_37_63 => opD_move (lz.trans (pif_pos hg4_37_63))) ?_
    refine rtg2 _ rfl lz (fun hg4_38_64 => opD_fieldAddr fo114_3_u4b (ls rfl (ls rfl (ls rfl (ls rfl (ls rfl (ls rfl (ls rfl (ls rfl (ls rfl (ls rfl (ls rfl (ls rfl (ls rfl (ls rfl (ls rfl (ls rfl (ls rfl (ls rfl (ls rfl (ls rfl (ls rfl (ls rfl (ls rfl (ls rfl (ls rfl (ls rfl (ls rfl (ls rfl (ls rfl (ls rfl (ls rfl (ls rfl (ls rfl (ls rfl (ls rfl (ls rfl (ls rfl (ls rfl oz))))))))))))))))))))))))))))))))))))))) ?_
    refine rtg2 _ rfl (ls rfl lz) (fun hg4_39_65 => opD_fieldAddr fo112_1_u4b (lz.trans (pif_pos hg4_39_65))) ?_
    refine rtg2 _ rfl (ls rfl (ls rfl lz)) (fun hg4_40_66 => opD_load_one ag22_u4b (lz.trans (pif_pos hg4_40_66)) (loc_getN rfl rfl) rfl) ?_
    refine rtg2 _ rfl (ls rfl (ls rfl (ls rfl lz))) (fun hg4_41_67 => opD_neq (lz.trans (pif_pos hg4_41_67)) (ev_const _ _)) ?_
    refine rtg2 _ rfl (ls rfl (ls rfl (ls rfl (ls rfl (ls rfl (ls rfl (ls rfl (ls rfl (ls rfl lz))))))))) (fun hg4_42_68 => opD_or ((ls rfl (ls rfl (ls rfl (ls rfl lz)))).trans (pif_pos hg4_42_68)) (lz.trans (pif_and hg4_42_68))) ?_
    refine rtg _ rfl (ls rfl (ls rfl (ls rfl (ls rfl (ls rfl (ls rfl (ls rfl (ls rfl (ls rfl (ls rfl (ls rfl (ls rfl (ls rfl (ls rfl lz)))))))))))))) (fun hg4_43_69 => opD_and ((ls rfl (ls rfl (ls rfl (ls rfl (ls rfl (ls rfl (ls rfl (ls rfl (ls rfl (ls rfl lz)))))))))).trans (pif_pos hg4_43_69)) (lz.trans (pif_and hg4_43_69))) ?_
    refine rts _ rfl (opD_or (ls rfl (ls rfl (ls rfl (ls rfl (ls rfl (ls rfl (ls rfl (ls rfl (ls rfl (ls rfl (ls rfl (ls rfl (ls rfl (ls rfl (ls rfl lz))))))))))))))) lz) ?_
    refine .nil ?_
    refine aw_keep [(1, _), (3, _), (108, _)] ⟨lg (ls rfl (ls rfl (ls rfl (ls rfl (ls rfl (ls rfl (ls rfl (ls rfl (ls rfl (ls rfl (ls rfl (ls rfl (ls rfl (ls rfl (ls rfl (ls rfl (ls rfl (ls rfl (ls rfl (ls rfl (ls rfl (ls rfl (ls rfl (ls rfl (ls rfl (ls rfl (ls rfl (ls rfl (ls rfl (ls rfl (ls rfl (ls rfl (ls rfl (ls rfl (ls rfl (ls rfl (ls rfl (ls rfl (ls rfl (ls rfl (ls rfl (ls rfl (ls rfl (ls rfl (ls rfl oz))))))))))))))))))))))))))))))))))))))))))))), lg (ls rfl (ls rfl (ls rfl (ls rfl (ls rfl (ls rfl (ls rfl (ls rfl (ls rfl (ls rfl (ls rfl (ls rfl (ls rfl (ls rfl (ls rfl (ls rfl (ls rfl (ls rfl (ls rfl (ls rfl (ls rfl (ls rfl (ls rfl (ls rfl (ls rfl (ls rfl (ls rfl (ls rfl (ls rfl (ls rfl (ls rfl (ls rfl (ls rfl (ls rfl (ls rfl (ls rfl (ls rfl (ls rfl (ls rfl (ls rfl (ls rfl (ls rfl (ls rfl (ls rfl (ls rfl (os rfl oz)))))))))))))))))))))))))))))))))))))))))))))), lg lz, trivial⟩ ?_
    refine aw_cond _ (os rfl (os rfl oz)) (fun hc => ?_) (fun hc => ?_)
    · skip
      replace h0 := ifb_t h0 hc
      clear hc
      refine aw_seq ?_
      refine aw_region (by decide) ?_
      refine rts _ rfl (opD_assign (ev_const _ _)) ?_
      refine .nil ?_
      refine aw_keep [(2, _)] ⟨lg lz, trivial⟩ ?_
      refine aw_ret ?_
      obtain rfl := some_of h0
      exact done_ext (.inr rfl) ((res_one rfl (it_tmp oz)).le (Pd.le_refl _)) (pl_bnd _ _ _)
    · skip
      replace h0 := ifb_f h0 hc
      clear hc
      refine aw_skip ?_
      refine aw_keep [(1, _), (3, _)] ⟨lg oz, lg (os rfl oz), trivial⟩ ?_
      refine aw_seq ?_
      refine aw_region (by decide) ?_
      refine rts _ rfl (opD_move (os rfl oz)) ?_
      replace h0 := bnd_some h0
      obtain ⟨x_6, hx_6, h0⟩ := h0
      refine rts _ rfl (opD_pure ht112_u4b (c_qhas2 hx_6) ⟨le_of_eq lz, le_of_eq (ev_const _ _), trivial⟩) ?_
      refine rts _ rfl (opD_move lz) ?_
      refine rtg _ rfl lz (fun hg6_3_70 => opD_fieldAddr fo114_5_u4b (ls rfl (ls rfl (ls rfl oz)))) ?_
      refine rtg _ rfl (ls rfl lz) (fun hg6_4_71 => opD_load_one ag9_u4b (lz.trans (pif_pos hg6_4_71)) (loc_getN rfl rfl) rfl) ?_
      refine rtg _ rfl (ls rfl (ls rfl lz)) (fun hg6_5_72 => opD_seql (lz.trans (pif_pos hg6_5_72)) (ev_const _ _)) ?_
      refine rts _ rfl (opD_or (ls rfl (ls rfl (ls rfl lz))) lz) ?_
      refine rts _ rfl (opD_move lz) ?_
      refine rtg _ rfl lz (fun hg6_8_73 => opD_move (ls rfl (ls rfl (ls rfl (ls rfl (ls rfl (ls rfl (ls rfl (ls rfl (os rfl oz)))))))))) ?_
      replace h0 := bnd_some h0
      obtain ⟨x_7, hx_7, h0⟩ := h0
      refine rtg _ rfl (ls rfl lz) (fun hg6_9_74 => opD_pure ht112_u4b (c_qhas2 (gif_some hx_7 hg6_9_74)) ⟨le_of_eq (lz.trans (pif_pos hg6_9_74)), le_of_eq (ev_const _ _), trivial⟩) ?_
      refine rtg _ rfl (ls rfl (ls rfl lz)) (fun hg6_10_75 => opD_move (lz.trans (pif_pos hg6_10_75))) ?_
      refine rtg2 _ rfl lz (fun hg6_11_76 => opD_fieldAddr fo114_6_u4b (ls rfl (ls rfl (ls rfl (ls rfl (ls rfl (ls rfl (ls rfl (ls rfl (ls rfl (ls rfl (ls rfl oz)))))))))))) ?_
      refine rtg2 _ rfl (ls rfl lz) (fun hg6_12_77 => opD_load_one ag9_u4b (lz.trans (pif_pos hg6_12_77)) (loc_getN rfl rfl) rfl) ?_
      refine rtg2 _ rfl (ls rfl (ls rfl lz)) (fun hg6_13_78 => opD_seql (lz.trans (pif_pos hg6_13_78)) (ev_const _ _)) ?_
      refine rtg _ rfl (ls rfl (ls rfl (ls rfl (ls rfl (ls rfl (ls rfl lz)))))) (fun hg6_14_79 => opD_or ((ls rfl (ls rfl (ls rfl lz))).trans (pif_pos hg6_14_79)) (lz.trans (pif_and hg6_14_79))) ?_
      refine rts _ rfl (opD_and (ls rfl (ls rfl (ls rfl (ls rfl (ls rfl (ls rfl (ls rfl lz))))))) lz) ?_
      refine rts _ rfl (opD_move lz) ?_
      refine rtg _ rfl lz (fun hg6_17_80 => opD_move (ls rfl (ls rfl (ls rfl (ls rfl (ls rfl (ls rfl (ls rfl (ls rfl (ls rfl (ls rfl (ls rfl (ls rfl (ls rfl (ls rfl (ls rfl (ls rfl (ls rfl (os rfl oz))))))))))))))))))) ?_
      replace h0 := bnd_some h0
      obtain ⟨x_8, hx_8, h0⟩ := h0
      refine rtg _ rfl (ls rfl lz) (fun hg6_18_81 => opD_pure ht112_u4b (c_qhas2 (gif_some hx_8 hg6_18_81)) ⟨le_of_eq (lz.trans (pif_pos hg6_18_81)), le_of_eq (ev_const _ _), trivial⟩) ?_
      refine rtg _ rfl (ls rfl (ls rfl lz)) (fun hg6_19_82 => opD_move (lz.trans (pif_pos hg6_19_82))) ?_
      refine rtg2 _ rfl lz (fun hg6_20_83 => opD_fieldAddr fo114_7_u4b (ls rfl (ls rfl (ls rfl (ls rfl (ls rfl (ls rfl (ls rfl (ls rfl (ls rfl (ls rfl (ls rfl (ls rfl (ls rfl (ls rfl (ls rfl (ls rfl (ls rfl (ls rfl (ls rfl (ls rfl oz))))))))))))))))))))) ?_
      refine rtg2 _ rfl (ls rfl lz) (fun hg6_21_84 => opD_load_one ag5_u4b (lz.trans (pif_pos hg6_21_84)) (loc_getN rfl rfl) rfl) ?_
      refine rtg2 _ rfl (ls rfl (ls rfl lz)) (fun hg6_22_85 => opD_eql (lz.trans (pif_pos hg6_22_85)) (ev_const _ _)) ?_
      refine rtg _ rfl (ls rfl (ls rfl (ls rfl (ls rfl (ls rfl (ls rfl lz)))))) (fun hg6_23_86 => opD_or ((ls rfl (ls rfl (ls rfl lz))).trans (pif_pos hg6_23_86)) (lz.trans (pif_and hg6_23_86))) ?_
      refine rts _ rfl (opD_and (ls rfl (ls rfl (ls rfl (ls rfl (ls rfl (ls rfl (ls rfl lz))))))) lz) ?_
      refine rts _ rfl (opD_move lz) ?_
      refine rtg _ rfl lz (fun hg6_26_87 => opD_move (ls rfl (ls rfl (ls rfl (ls rfl (ls rfl (ls rfl (ls rfl (ls rfl (ls rfl (ls rfl (ls rfl (ls rfl (ls rfl (ls rfl (ls rfl (ls rfl (ls rfl (ls rfl (ls rfl (ls rfl (ls rfl (ls rfl (ls rfl (ls rfl (ls rfl (ls rfl (os rfl oz)))))))))))))))))))))))))))) ?_
      replace h0 := bnd_some h0
      obtain ⟨x_9, hx_9, h0⟩ := h0
      refine rtg _ rfl (ls rfl lz) (fun hg6_27_88 => opD_pure ht112_u4b (c_qhas2 (gif_some hx_9 hg6_27_88)) ⟨le_of_eq (lz.trans (pif_pos hg6_27_88)), le_of_eq (ev_const _ _), trivial⟩) ?_
      refine rtg _ rfl (ls rfl (ls rfl lz)) (fun hg6_28_89 => opD_move (lz.trans (pif_pos hg6_28_89))) ?_
      refine rtg2 _ rfl lz (fun hg6_29_90 => opD_fieldAddr fo114_8_u4b (ls rfl (ls rfl (ls rfl (ls rfl (ls rfl (ls rfl (ls rfl (ls rfl (ls rfl (ls rfl (ls rfl (ls rfl (ls rfl (ls rfl (ls rfl (ls rfl (ls rfl (ls rfl (ls rfl (ls rfl (ls rfl (ls rfl (ls rfl (ls rfl (ls rfl (ls rfl (ls rfl (ls rfl (ls rfl oz)))))))))))))))))))))))))))))) ?_
      refine rtg2 _ rfl (ls rfl lz) (fun hg6_30_91 => opD_load_one ag22_u4b (lz.trans (pif_pos hg6_30_91)) (loc_getN rfl rfl) rfl) ?_
      refine rtg2 _ rfl (ls rfl (ls rfl lz)) (fun hg6_31_92 => opD_eql (lz.trans (pif_pos hg6_31_92)) (ev_const _ _)) ?_
      refine rtg _ rfl (ls rfl (ls rfl (ls rfl (ls rfl (ls rfl (ls rfl lz)))))) (fun hg6_32_93 => opD_or ((ls rfl (ls rfl (ls rfl lz))).trans (pif_pos hg6_32_93)) (lz.trans (pif_and hg6_32_93))) ?_
      refine rts _ rfl (opD_and (ls rfl (ls rfl (ls rfl (ls rfl (ls rfl (ls rfl (ls rfl lz))))))) lz) ?_
      refine rts _ rfl (opD_move lz) ?_
      refine rtg _ rfl lz (fun hg6_35_94 => opD_move (ls rfl (ls rfl (ls rfl (ls rfl (ls rfl (ls rfl (ls rfl (ls rfl (ls rfl (ls rfl (ls rfl (ls rfl (ls rfl (ls rfl (ls rfl (ls rfl (ls rfl (ls rfl (ls rfl (ls rfl (ls rfl (ls rfl (ls rfl (ls rfl (ls rfl (ls rfl (ls rfl (ls rfl (ls rfl (ls rfl (ls rfl (ls rfl (ls rfl (ls rfl (ls rfl (os rfl oz))))))))))))))))))))))))))))))))))))) ?_
      replace h0 := bnd_some h0
      obtain ⟨x_10, hx_10, h0⟩ := h0
      refine rtg _ rfl (ls rfl lz) (fun hg6_36_95 => opD_pure ht112_u4b (c_qhas2 (gif_some hx_10 hg6_36_95)) ⟨le_of_eq (lz.trans (pif_pos hg6_36_95)), le_of_eq (ev_const _ _), trivial⟩) ?_
      refine rtg _ rfl (ls rfl (ls rfl lz)) (fun hg6_37_96 => opD_move (lz.trans (pif_pos hg6_37_96))) ?_
      refine rtg2 _ rfl lz (fun hg6_38_97 => opD_fieldAddr fo114_9_u4b (ls rfl (ls rfl (ls rfl (ls rfl (ls rfl (ls rfl (ls rfl (ls rfl (ls rfl (ls rfl (ls rfl (ls rfl (ls rfl (ls rfl (ls rfl (ls rfl (ls rfl (ls rfl (ls rfl (ls rfl (ls rfl (ls rfl (ls rfl (ls rfl (ls rfl (ls rfl (ls rfl (ls rfl (ls rfl (ls rfl (ls rfl (ls rfl (ls rfl (ls rfl (ls rfl (ls rfl (ls rfl (ls rfl oz))))))))))))))))))))))))))))))))))))))) ?_
      refine rtg2 _ rfl (ls rfl lz) (fun hg6_39_98 => opD_load_one ag4_u4b (lz.trans (pif_pos hg6_39_98)) (loc_getN rfl rfl) rfl) ?_
      refine rtg2 _ rfl (ls rfl (ls rfl lz)) (fun hg6_40_99 => opD_not (lz.trans (pif_pos hg6_40_99))) ?_
      refine rtg _ rfl (ls rfl (ls rfl (ls rfl (ls rfl (ls rfl (ls rfl lz)))))) (fun hg6_41_100 => opD_or ((ls rfl (ls rfl (ls rfl lz))).trans (pif_pos hg6_41_100)) (lz.trans (pif_and hg6_41_100))) ?_
      refine rts _ rfl (opD_and (ls rfl (ls rfl (ls rfl (ls rfl (ls rfl (ls rfl (ls rfl lz))))))) lz) ?_
      refine rts _ rfl (opD_assign lz) ?_
      refine .nil ?_
      refine aw_keep [(2, _)] ⟨lg lz, trivial⟩ ?_
      refine aw_ret ?_
      obtain rfl := some_of h0
      exact done_ext (.inr rfl) ((res_one rfl (it_tmp oz)).le (Pd.le_refl _)) (pl_bnd _ _ _)

def F_qenc2 (fl : Nat) (p0 : Rq) : Option ((List Int) × Int) :=
  bnd (F_qmay2 fl p0) fun x_1 => ifb (!x_1) (some ([], 1)) (bnd (F_qhas2 fl p0.Kind 115) fun x_2 => bnd (ifb x_2 (bnd (oNum ([p0.Kind] : (List Int)) p0.Space) fun x_4 => some x_4) (some ([p0.Kind] : (List Int)))) fun z_3 => bnd (F_qhas2 fl p0.Kind 104) fun x_5 => bnd (ifb x_5 (bnd (oNum z_3 p0.Handle) fun x_7 => some x_7) (some z_3)) fun z_6 => bnd (F_qhas2 fl p0.Kind 99) fun x_8 => bnd (ifb x_8 (grd (Fits 1 (z_6.length + ([IntKind.u8.wrap (p0.Ref.Slot)] : (List Int)).length)) <| bnd (oNum (z_6 ++ ([IntKind.u8.wrap (p0.Ref.Slot)] : (List Int))) p0.Ref.Gen) fun x_10 => some x_10) (some z_6)) fun z_9 => bnd (F_qhas2 fl p0.Kind 116) fun x_11 => bnd (ifb x_11 (bnd (oNum z_9 p0.To) fun x_13 => some x_13) (some z_9)) fun z_12 => bnd (F_qhas2 fl p0.Kind 107) fun x_14 => bnd (ifb x_14 (bnd (oBytes z_12 (bytesOf p0.Key)) fun x_16 => some x_16) (some z_12)) fun z_15 => bnd (F_qhas2 fl p0.Kind 118) fun x_17 => bnd (ifb x_17 (bnd (oBytes z_15 (bytesOf p0.Value)) fun x_19 => some x_19) (some z_15)) fun z_18 => bnd (F_qhas2 fl p0.Kind 114) fun x_20 => bnd (ifb x_20 (grd (Fits 1 (z_18.length + ([p0.Rights] : (List Int)).length)) <| some (z_18 ++ ([p0.Rights] : (List Int)))) (some z_18)) fun z_21 => bnd (F_qhas2 fl p0.Kind 109) fun x_22 => bnd (ifb x_22 (bnd (oNum z_21 p0.Most) fun x_24 => some x_24) (some z_21)) fun z_23 => bnd (F_qhas2 fl p0.Kind 102) fun x_25 => ifb (x_25 && p0.Flag) (grd (Fits 1 (z_23.length + ([1] : (List Int)).length)) <| some ((z_23 ++ ([1] : (List Int))), 0)) (bnd (F_qhas2 fl p0.Kind 102) fun x_26 => ifb x_26 (grd (Fits 1 (z_23.length + ([0] : (List Int)).length)) <| some ((z_23 ++ ([0] : (List Int))), 0)) (some (z_23, 0))))
set_option maxRecDepth 100000 in
set_option maxHeartbeats 2000000 in
theorem c_qenc2 {fl : Nat} {p0 : Rq} {R : (List Int) × Int} (h0 : F_qenc2 fl p0 = some R) : Pure Go.Proofs.Tryd.prog 65 [agg [pl (.int .u8 p0.Kind), pl (.int .u64 p0.Space), pl (.int .u64 p0.Handle), pl (.int .i64 p0.Ref.Slot), pl (.int .u64 p0.Ref.Gen), pl (.int .u64 p0.To), pl (.string p0.Key), pl (.string p0.Value), pl (.int .u8 p0.Rights), pl (.int .u64 p0.Most), pl (.bool p0.Flag)]] (tup [sl (kI .u8) none none R.1, pl (.int .i64 R.2)]) := by
  intro s
  unfold F_qenc2 at h0
  refine ac_of_aw s.boxes.length s.fr.length Go.Proofs.Tryd.func65 rfl (by simp [Go.Proofs.Tryd.ntmps65]) ?_
  refine aw_ext0 ?_
  refine aw_keep [(0, _)] ⟨lg ez, trivial⟩ ?_
  refine aw_seq ?_
  refine aw_region (by decide) ?_
  refine rts _ rfl (boxAN rfl oz (bnd_cons (pl_bnd _ _ _) (bnd_cons (pl_bnd _ _ _) (bnd_cons (pl_bnd _ _ _) (bnd_cons (pl_bnd _ _ _) (bnd_cons (pl_bnd _ _ _) (bnd_cons (pl_bnd _ _ _) (bnd_cons (pl_bnd _ _ _) (bnd_cons (pl_bnd _ _ _) (bnd_cons (pl_bnd _ _ _) (bnd_cons (pl_bnd _ _ _) (bnd_cons (pl_bnd _ _ _) bnd_nil))))))))))) (by first | exact List.length_nil | (simp only [List.length_cons, List.length_nil, Nat.zero_add, Nat.reduceAdd] <;> rfl)) (by simp only [na, nb, nc, nd, nf, ng, nh, ni, nj, nk] <;> rfl)) ?_
  refine rts _ rfl (opD_assign (ev_const _ _)) ?_
  refine rts _ rfl (opD_assign (ev_const _ _)) ?_
  refine .nil ?_
  refine aw_keep [(1, _)] ⟨lg (ls rfl (ls rfl lz)), trivial⟩ ?_
  refine aw_seq ?_
  refine aw_seq ?_
  refine aw_region (by decide) ?_
  refine rts _ rfl (opD_load_aggX (qs := [_, _, _, _, _, _, _, _, _, _, _]) ag114_u4b sz114_u4b oz (loc_getN rfl rfl) (Nat.le_of_ble_eq_true rfl) rfl) ?_
  replace h0 := bnd_some h0
  obtain ⟨x_1, hx_1, h0⟩ := h0
  refine rts _ rfl (opD_pure ht72_u4b (c_qmay2 hx_1) ⟨(le_of_eq lz).trans (agg_le ⟨(Pd.le_refl _), (Pd.le_refl _), (Pd.le_refl _), (Pd.le_refl _), (Pd.le_refl _), (Pd.le_refl _), (Pd.le_refl _), (Pd.le_refl _), (Pd.le_refl _), (Pd.le_refl _), (Pd.le_refl _), trivial⟩), trivial⟩) ?_
  refine rts _ rfl (opD_not lz) ?_
  refine .nil ?_
  refine aw_keep [(1, _), (7, _)] ⟨lg (ls rfl (ls rfl (ls rfl oz))), lg lz, trivial⟩ ?_
  refine aw_cond _ (os rfl oz) (fun hc => ?_) (fun hc => ?_)
  · skip
    replace h0 := ifb_t h0 hc
    clear hc
    refine aw_seq ?_
    refine aw_region (by decide) ?_
    refine rts _ rfl (opD_assign (ev_const _ _)) ?_
    refine rts _ rfl (opD_assign (ev_const _ _)) ?_
    refine .nil ?_
    refine aw_keep [(2, _), (3, _)] ⟨lg (ls rfl lz), lg lz, trivial⟩ ?_
    refine aw_ret ?_
    obtain rfl := some_of h0
    exact done_ext (.inr rfl) ((res_list (rs := [_, _]) (ps := [_, _]) rfl rfl ⟨it_tmp oz, it_tmp (os rfl oz), trivial⟩).le (tup_le ⟨(le_nil rfl), (Pd.le_refl _), trivial⟩)) (tup_bnd (bnd_cons (sl_b (kb_I _)) (bnd_cons (pl_bnd _ _ _) bnd_nil)))
  · skip
    replace h0 := ifb_f h0 hc
    clear hc
    refine aw_skip ?_
    refine aw_keep [(1, _)] ⟨lg oz, trivial⟩ ?_
    refine aw_seq ?_
    refine aw_region (by decide) ?_
    refine rts _ rfl (opD_fieldAddr fo114_0_u4b oz) ?_
    refine rts _ rfl (opD_load_one ag5_u4b lz (loc_getN rfl rfl) rfl) ?_
    refine rts _ rfl (opD_buildOwn (k := kI .u8) ([p0.Kind] : (List Int)) Go.Proofs.Tryd.underlying23 sz5_u4b zt5_u4b (by decide) rfl (parts_cons (cells1 lz (one_pl rfl)) parts_nil) rfl rfl (by first | exact List.length_nil | (simp only [List.length_cons, List.length_nil, Nat.zero_add, Nat.reduceAdd] <;> rfl)) (by simp only [na, nb, nc, nd, nf, ng, nh, ni, nj, nk] <;> rfl)) ?_
    refine rts _ rfl (opD_assign lz) ?_
    refine .nil ?_
    refine aw_keep [(1, _), (4, _)] ⟨lg (ls rfl (ls rfl (ls rfl (ls rfl oz)))), lg lz, trivial⟩ ?_
    refine aw_seq ?_
    refine aw_seq ?_
    refine aw_region (by decide) ?_
    refine rts _ rfl (opD_fieldAddr fo114_0_u4b oz) ?_
    refine rts _ rfl (opD_load_one ag5_u4b lz (loc_getN rfl rfl) rfl) ?_
    replace h0 := bnd_some h0
    obtain ⟨x_2, hx_2, h0⟩ := h0
    refine rts _ rfl (opD_pure ht112_u4b (c_qhas2 hx_2) ⟨le_of_eq lz, le_of_eq (ev_const _ _), trivial⟩) ?_
    refine .nil ?_
    refine aw_keep [(1, _), (4, _), (13, _)] ⟨lg (ls rfl (ls rfl (ls rfl oz))), lg (ls rfl (ls rfl (ls rfl (os rfl oz)))), lg lz, trivial⟩ ?_
    replace h0 := bnd_some h0
    obtain ⟨z_3, hz_3, h0⟩ := h0
    refine aw_mid (fun e st => ∃ v : (List Int), Holds e [(1, ptr (s.boxes.length + 0) 0), (4, sl (kI .u8) (some (s.fr.length + 0)) none v)] ∧ st = s.ext [⟨114, [pl (.int .u8 p0.Kind), pl (.int .u64 p0.Space), pl (.int .u64 p0.Handle), pl (.int .i64 p0.Ref.Slot), pl (.int .u64 p0.Ref.Gen), pl (.int .u64 p0.To), pl (.string p0.Key), pl (.string p0.Value), pl (.int .u8 p0.Rights), pl (.int .u64 p0.Most), pl (.bool p0.Flag)]⟩] [⟨5, 1, v.length⟩] ∧ v = z_3) ?_ ?_
    · skip
      refine aw_wkN rfl 1 1 rfl rfl ?_
      refine aw_cond _ (os rfl (os rfl oz)) (fun hc => ?_) (fun hc => ?_)
      · skip
        replace hz_3 := ifb_t hz_3 hc
        clear hc
        refine aw_region (by decide) ?_
        refine rts _ rfl (opD_move (os rfl oz)) ?_
        refine rts _ rfl (opD_fieldAddr fo114_1_u4b (ls rfl oz)) ?_
        refine rts _ rfl (opD_load_one ag22_u4b lz (loc_getN rfl rfl) rfl) ?_
        replace hz_3 := bnd_some hz_3
        obtain ⟨x_4, hx_4, hz_3⟩ := hz_3
        refine rts _ rfl (opD_adopt (j := 0) (kb_I _) (opD_own1 ht29_u4b (c_oRput hx_4) ⟨(le_of_eq (ls rfl (ls rfl lz))).trans (sl_any _ _ _ _), le_of_eq lz, trivial⟩ (by first | exact List.length_nil | (simp only [List.length_cons, List.length_nil, Nat.zero_add, Nat.reduceAdd] <;> rfl)) rfl) (by first | exact List.length_nil | (simp only [List.length_cons, List.length_nil, Nat.zero_add, Nat.reduceAdd] <;> rfl)) rfl (len_oNum hx_4) (by simp only [na, nb, nc, nd, nf, ng, nh, ni, nj, nk] <;> rfl)) ?_
        refine rts _ rfl (opD_assign lz) ?_
        refine .nil ?_
        refine wk_yesN rfl (l := [(1, ptr (s.boxes.length + 0) 0), (4, sl (kI .u8) (some (s.fr.length + 0)) none x_4)]) (bs' := [⟨114, [pl (.int .u8 p0.Kind), pl (.int .u64 p0.Space), pl (.int .u64 p0.Handle), pl (.int .i64 p0.Ref.Slot), pl (.int .u64 p0.Ref.Gen), pl (.int .u64 p0.To), pl (.string p0.Key), pl (.string p0.Value), pl (.int .u8 p0.Rights), pl (.int .u64 p0.Most), pl (.bool p0.Flag)]⟩]) ⟨le_of_eq (eg (ls rfl (ls rfl (ls rfl (ls rfl (ls rfl oz)))))), le_of_eq (eg lz), trivial⟩ (bnd_cons (ptr_bnd _ (by first | omega | (simp only [List.length_append, List.length_cons, List.length_nil]; omega))) (bnd_cons (sl_ob (kb_I _) (by first | omega | (simp only [List.length_append, List.length_cons, List.length_nil, ext_fr_length, upd_fr_length]; omega))) bnd_nil)) (Nat.le_of_ble_eq_true rfl) (by simp only [na, nb, nc, nd, nf, ng, nh, ni, nj, nk] <;> rfl) (bxle_same bxle_nil) rfl (by simp only [na, nb, nc, nd, nf, ng, nh, ni, nj, nk] <;> rfl) (bl_cons (bnd_cons (pl_bnd _ _ _) (bnd_cons (pl_bnd _ _ _) (bnd_cons (pl_bnd _ _ _) (bnd_cons (pl_bnd _ _ _) (bnd_cons (pl_bnd _ _ _) (bnd_cons (pl_bnd _ _ _) (bnd_cons (pl_bnd _ _ _) (bnd_cons (pl_bnd _ _ _) (bnd_cons (pl_bnd _ _ _) (bnd_cons (pl_bnd _ _ _) (bnd_cons (pl_bnd _ _ _) bnd_nil))))))))))) bl_nil) ?_
        exact ⟨x_4, ⟨le_of_eq (eg oz), le_of_eq (eg (os rfl oz)), trivial⟩, rfl, some_of hz_3⟩
      · skip
        replace hz_3 := ifb_f hz_3 hc
        clear hc
        refine aw_skip ?_
        refine wk_yesN rfl (l := [(1, ptr (s.boxes.length + 0) 0), (4, sl (kI .u8) (some (s.fr.length + 0)) none ([p0.Kind] : (List Int)))]) (bs' := [⟨114, [pl (.int .u8 p0.Kind), pl (.int .u64 p0.Space), pl (.int .u64 p0.Handle), pl (.int .i64 p0.Ref.Slot), pl (.int .u64 p0.Ref.Gen), pl (.int .u64 p0.To), pl (.string p0.Key), pl (.string p0.Value), pl (.int .u8 p0.Rights), pl (.int .u64 p0.Most), pl (.bool p0.Flag)]⟩]) ⟨le_of_eq (eg oz), le_of_eq (eg (os rfl oz)), trivial⟩ (bnd_cons (ptr_bnd _ (by first | omega | (simp only [List.length_append, List.length_cons, List.length_nil]; omega))) (bnd_cons (sl_ob (kb_I _) (by first | omega | (simp only [List.length_append, List.length_cons, List.length_nil, ext_fr_length, upd_fr_length]; omega))) bnd_nil)) (Nat.le_of_ble_eq_true rfl) (by simp only [na, nb, nc, nd, nf, ng, nh, ni, nj, nk] <;> rfl) (bxle_same bxle_nil) rfl (by simp only [na, nb, nc, nd, nf, ng, nh, ni, nj, nk] <;> rfl) (bl_cons (bnd_cons (pl_bnd _ _ _) (bnd_cons (pl_bnd _ _ _) (bnd_cons (pl_bnd _ _ _) (bnd_cons (pl_bnd _ _ _) (bnd_cons (pl_bnd _ _ _) (bnd_cons (pl_bnd _ _ _) (bnd_cons (pl_bnd _ _ _) (bnd_cons (pl_bnd _ _ _) (bnd_cons (pl_bnd _ _ _) (bnd_cons (pl_bnd _ _ _) (bnd_cons (pl_bnd _ _ _) bnd_nil))))))))))) bl_nil) ?_
        exact ⟨([p0.Kind] : (List Int)), ⟨le_of_eq (eg oz), le_of_eq (eg (os rfl oz)), trivial⟩, rfl, some_of hz_3⟩
    · rintro e st ⟨vz_3, hH, rfl, rfl⟩
      refine aw_keep _ hH ?_
      refine aw_keep [(1, _), (4, _)] ⟨lg oz, lg (os rfl oz), trivial⟩ ?_
      refine aw_seq ?_
      refine aw_seq ?_
      refine aw_region (by decide) ?_
      refine rts _ rfl (opD_fieldAddr fo114_0_u4b oz) ?_
      refine rts _ rfl (opD_load_one ag5_u4b lz (loc_getN rfl rfl) rfl) ?_
      replace h0 := bnd_some h0
      obtain ⟨x_5, hx_5, h0⟩ := h0
      refine rts _ rfl (opD_pure ht112_u4b (c_qhas2 hx_5) ⟨le_of_eq lz, le_of_eq (ev_const _ _), trivial⟩) ?_
      refine .nil ?_
      refine aw_keep [(1, _), (4, _), (20, _)] ⟨lg (ls rfl (ls rfl (ls rfl oz))), lg (ls rfl (ls rfl (ls rfl (os rfl oz)))), lg lz, trivial⟩ ?_
      replace h0 := bnd_some h0
      obtain ⟨z_6, hz_6, h0⟩ := h0
      refine aw_mid (fun e st => ∃ v : (List Int), Holds e [(1, ptr (s.boxes.length + 0) 0), (4, sl (kI .u8) (some (s.fr.length + 0)) none v)] ∧ st = s.ext [⟨114, [pl (.int .u8 p0.Kind), pl (.int .u64 p0.Space), pl (.int .u64 p0.Handle), pl (.int .i64 p0.Ref.Slot), pl (.int .u64 p0.Ref.Gen), pl (.int .u64 p0.To), pl (.string p0.Key), pl (.string p0.Value), pl (.int .u8 p0.Rights), pl (.int .u64 p0.Most), pl (.bool p0.Flag)]⟩] [⟨5, 1, v.length⟩] ∧ v = z_6) ?_ ?_
      · skip
        refine aw_wkN rfl 1 1 rfl rfl ?_
        refine aw_cond _ (os rfl (os rfl oz)) (fun hc => ?_) (fun hc => ?_)
        · skip
          replace hz_6 := ifb_t hz_6 hc
          clear hc
          refine aw_region (by decide) ?_
          refine rts _ rfl (opD_move (os rfl oz)) ?_
          refine rts _ rfl (opD_fieldAddr fo114_2_u4b (ls rfl oz)) ?_
          refine rts _ rfl (opD_load_one ag22_u4b lz (loc_getN rfl rfl) rfl) ?_
          replace hz_6 := bnd_some hz_6
          obtain ⟨x_7, hx_7, hz_6⟩ := hz_6
          refine rts _ rfl (opD_adopt (j := 0) (kb_I _) (opD_own1 ht29_u4b (c_oRput hx_7) ⟨(le_of_eq (ls rfl (ls rfl lz))).trans (sl_any _ _ _ _), le_of_eq lz, trivial⟩ (by first | exact List.length_nil | (simp only [List.length_cons, List.length_nil, Nat.zero_add, Nat.reduceAdd] <;> rfl)) rfl) (by first | exact List.length_nil | (simp only [List.length_cons, List.length_nil, Nat.zero_add, Nat.reduceAdd] <;> rfl)) rfl (len_oNum hx_7) (by simp only [na, nb, nc, nd, nf, ng, nh, ni, nj, nk] <;> rfl)) ?_
          refine rts _ rfl (opD_assign lz) ?_
          refine .nil ?_
          refine wk_yesN rfl (l := [(1, ptr (s.boxes.length + 0) 0), (4, sl (kI .u8) (some (s.fr.length + 0)) none x_7)]) (bs' := [⟨114, [pl (.int .u8 p0.Kind), pl (.int .u64 p0.Space), pl (.int .u64 p0.Handle), pl (.int .i64 p0.Ref.Slot), pl (.int .u64 p0.Ref.Gen), pl (.int .u64 p0.To), pl (.string p0.Key), pl (.string p0.Value), pl (.int .u8 p0.Rights), pl (.int .u64 p0.Most), pl (.bool p0.Flag)]⟩]) ⟨le_of_eq (eg (ls rfl (ls rfl (ls rfl (ls rfl (ls rfl oz)))))), le_of_eq (eg lz), trivial⟩ (bnd_cons (ptr_bnd _ (by first | omega | (simp only [List.length_append, List.length_cons, List.length_nil]; omega))) (bnd_cons (sl_ob (kb_I _) (by first | omega | (simp only [List.length_append, List.length_cons, List.length_nil, ext_fr_length, upd_fr_length]; omega))) bnd_nil)) (Nat.le_of_ble_eq_true rfl) (by simp only [na, nb, nc, nd, nf, ng, nh, ni, nj, nk] <;> rfl) (bxle_same bxle_nil) rfl (by simp only [na, nb, nc, nd, nf, ng, nh, ni, nj, nk] <;> rfl) (bl_cons (bnd_cons (pl_bnd _ _ _) (bnd_cons (pl_bnd _ _ _) (bnd_cons (pl_bnd _ _ _) (bnd_cons (pl_bnd _ _ _) (bnd_cons (pl_bnd _ _ _) (bnd_cons (pl_bnd _ _ _) (bnd_cons (pl_bnd _ _ _) (bnd_cons (pl_bnd _ _ _) (bnd_cons (pl_bnd _ _ _) (bnd_cons (pl_bnd _ _ _) (bnd_cons (pl_bnd _ _ _) bnd_nil))))))))))) bl_nil) ?_
          exact ⟨x_7, ⟨le_of_eq (eg oz), le_of_eq (eg (os rfl oz)), trivial⟩, rfl, some_of hz_6⟩
        · skip
          replace hz_6 := ifb_f hz_6 hc
          clear hc
          refine aw_skip ?_
          refine wk_yesN rfl (l := [(1, ptr (s.boxes.length + 0) 0), (4, sl (kI .u8) (some (s.fr.length + 0)) none vz_3)]) (bs' := [⟨114, [pl (.int .u8 p0.Kind), pl (.int .u64 p0.Space), pl (.int .u64 p0.Handle), pl (.int .i64 p0.Ref.Slot), pl (.int .u64 p0.Ref.Gen), pl (.int .u64 p0.To), pl (.string p0.Key), pl (.string p0.Value), pl (.int .u8 p0.Rights), pl (.int .u64 p0.Most), pl (.bool p0.Flag)]⟩]) ⟨le_of_eq (eg oz), le_of_eq (eg (os rfl oz)), trivial⟩ (bnd_cons (ptr_bnd _ (by first | omega | (simp only [List.length_append, List.length_cons, List.length_nil]; omega))) (bnd_cons (sl_ob (kb_I _) (by first | omega | (simp only [List.length_append, List.length_cons, List.length_nil, ext_fr_length, upd_fr_length]; omega))) bnd_nil)) (Nat.le_of_ble_eq_true rfl) (by simp only [na, nb, nc, nd, nf, ng, nh, ni, nj, nk] <;> rfl) (bxle_same bxle_nil) rfl (by simp only [na, nb, nc, nd, nf, ng, nh, ni, nj, nk] <;> rfl) (bl_cons (bnd_cons (pl_bnd _ _ _) (bnd_cons (pl_bnd _ _ _) (bnd_cons (pl_bnd _ _ _) (bnd_cons (pl_bnd _ _ _) (bnd_cons (pl_bnd _ _ _) (bnd_cons (pl_bnd _ _ _) (bnd_cons (pl_bnd _ _ _) (bnd_cons (pl_bnd _ _ _) (bnd_cons (pl_bnd _ _ _) (bnd_cons (pl_bnd _ _ _) (bnd_cons (pl_bnd _ _ _) bnd_nil))))))))))) bl_nil) ?_
          exact ⟨vz_3, ⟨le_of_eq (eg oz), le_of_eq (eg (os rfl oz)), trivial⟩, rfl, some_of hz_6⟩
      · rintro e st ⟨vz_6, hH, rfl, rfl⟩
        refine aw_keep _ hH ?_
        refine aw_keep [(1, _), (4, _)] ⟨lg oz, lg (os rfl oz), trivial⟩ ?_
        refine aw_seq ?_
        refine aw_seq ?_
        refine aw_region (by decide) ?_
        refine rts _ rfl (opD_fieldAddr fo114_0_u4b oz) ?_
        refine rts _ rfl (opD_load_one ag5_u4b lz (loc_getN rfl rfl) rfl) ?_
        replace h0 := bnd_some h0
        obtain ⟨x_8, hx_8, h0⟩ := h0
        refine rts _ rfl (opD_pure ht112_u4b (c_qhas2 hx_8) ⟨le_of_eq lz, le_of_eq (ev_const _ _), trivial⟩) ?_
        refine .nil ?_
        refine aw_keep [(1, _), (4, _), (27, _)] ⟨lg (ls rfl (ls rfl (ls rfl oz))), lg (ls rfl (ls rfl (ls rfl (os rfl oz)))), lg lz, trivial⟩ ?_
        replace h0 := bnd_some h0
        obtain ⟨z_9, hz_9, h0⟩ := h0
        refine aw_mid (fun e st => ∃ v : (List Int), Holds e [(1, ptr (s.boxes.length + 0) 0), (4, sl (kI .u8) (some (s.fr.length + 0)) none v)] ∧ st = s.ext [⟨114, [pl (.int .u8 p0.Kind), pl (.int .u64 p0.Space), pl (.int .u64 p0.Handle), pl (.int .i64 p0.Ref.Slot), pl (.int .u64 p0.Ref.Gen), pl (.int .u64 p0.To), pl (.string p0.Key), pl (.string p0.Value), pl (.int .u8 p0.Rights), pl (.int .u64 p0.Most), pl (.bool p0.Flag)]⟩] [⟨5, 1, v.length⟩] ∧ v = z_9) ?_ ?_
        · skip
          refine aw_wkN rfl 1 1 rfl rfl ?_
          refine aw_cond _ (os rfl (os rfl oz)) (fun hc => ?_) (fun hc => ?_)
          · skip
            replace hz_9 := ifb_t hz_9 hc
            clear hc
            refine aw_drawn [false, false, false, false, false, false, true, false, false, false, true, false] [[0], [0], [0], [0], [0], [0], [0, 1], [0, 1], [0, 1], [0, 1], [1, 2], [2]] mixed_u4b (by decide +kernel) ?_
            refine dtp _ rfl (fun s => opD_move (os rfl oz)) ?_
            refine dtp _ rfl (fun s => opD_fieldAddr fo114_3_u4b (ls rfl oz)) ?_
            refine dtp _ rfl (fun s => opD_fieldAddr fo112_0_u4b lz) ?_
            refine dtlG1 ag3_u4b lz (loc_getN rfl rfl) rfl rfl ?_
            refine dtp _ rfl (fun s => opD_conv_int Go.Proofs.Tryd.underlying3 Go.Proofs.Tryd.underlying5 lz rfl) ?_
            refine dtp _ rfl (fun s => opD_buildSlice (k := kI .u8) ([IntKind.u8.wrap (p0.Ref.Slot)] : (List Int)) Go.Proofs.Tryd.underlying23 sz5_u4b zt5_u4b (by decide) rfl (parts_cons (cells1 lz (one_pl rfl)) parts_nil) rfl rfl) ?_
            replace hz_9 := grd_some hz_9
            obtain ⟨hg_4, hz_9⟩ := hz_9
            refine dta _ rfl (opD_appendX Go.Proofs.Tryd.underlying23 el5_u4b (ls rfl (ls rfl (ls rfl (ls rfl (ls rfl lz))))) lz rfl hg_4.1 hg_4.2 rfl (by simp only [na, nb, nc, nd, nf, ng, nh, ni, nj, nk] <;> rfl)) ?_
            refine dtp _ rfl (fun s => opD_fieldAddr fo114_3_u4b (ls rfl (ls rfl (ls rfl (ls rfl (ls rfl (ls rfl (ls rfl oz)))))))) ?_
            refine dtp _ rfl (fun s => opD_fieldAddr fo112_1_u4b lz) ?_
            refine dtlG1 ag22_u4b lz (loc_getN rfl rfl) rfl rfl ?_
            replace hz_9 := bnd_some hz_9
            obtain ⟨x_10, hx_10, hz_9⟩ := hz_9
            refine dta _ rfl (opD_adopt (j := 0) (kb_I _) (opD_own1 ht29_u4b (c_oRput hx_10) ⟨(le_of_eq (ls rfl (ls rfl (ls rfl lz)))).trans (sl_any _ _ _ _), le_of_eq lz, trivial⟩ (by first | exact List.length_nil | (simp only [List.length_cons, List.length_nil, Nat.zero_add, Nat.reduceAdd] <;> rfl)) rfl) (by first | exact List.length_nil | (simp only [List.length_cons, List.length_nil, Nat.zero_add, Nat.reduceAdd] <;> rfl)) rfl (len_oNum hx_10) (by simp only [na, nb, nc, nd, nf, ng, nh, ni, nj, nk] <;> rfl)) ?_
            refine dtp _ rfl (fun s => opD_assign lz) ?_
            refine .nil ?_
            dsimp only [List.nil_append, List.cons_append]
            refine ⟨rfl, ⟨trivial, trivial, trivial, ⟨(by first | exact loc_getN rfl rfl | exact updx_get hlt | exact upd2_g hgh hlt | exact upd2_h hlt2), trivial⟩, trivial, trivial, trivial, trivial, trivial, ⟨(by first | exact loc_getN rfl rfl | exact updx_get hlt | exact upd2_g hgh hlt | exact upd2_h hlt2), (by first | exact loc_getN rfl rfl | exact updx_get hlt | exact upd2_g hgh hlt | exact upd2_h hlt2), trivial⟩, trivial, trivial, trivial⟩, ?_⟩
            refine wk_yesN rfl (l := [(1, ptr (s.boxes.length + 0) 0), (4, sl (kI .u8) (some (s.fr.length + 0)) none x_10)]) (bs' := [⟨114, [pl (.int .u8 p0.Kind), pl (.int .u64 p0.Space), pl (.int .u64 p0.Handle), pl (.int .i64 p0.Ref.Slot), pl (.int .u64 p0.Ref.Gen), pl (.int .u64 p0.To), pl (.string p0.Key), pl (.string p0.Value), pl (.int .u8 p0.Rights), pl (.int .u64 p0.Most), pl (.bool p0.Flag)]⟩]) ⟨le_of_eq (eg (ls rfl (ls rfl (ls rfl (ls rfl (ls rfl (ls rfl (ls rfl (ls rfl (ls rfl (ls rfl (ls rfl (ls rfl oz))))))))))))), le_of_eq (eg lz), trivial⟩ (bnd_cons (ptr_bnd _ (by first | omega | (simp only [List.length_append, List.length_cons, List.length_nil]; omega))) (bnd_cons (sl_ob (kb_I _) (by first | omega | (simp only [List.length_append, List.length_cons, List.length_nil, ext_fr_length, upd_fr_length]; omega))) bnd_nil)) (Nat.le_of_ble_eq_true rfl) (by simp only [na, nb, nc, nd, nf, ng, nh, ni, nj, nk] <;> rfl) (bxle_same bxle_nil) rfl (by simp only [na, nb, nc, nd, nf, ng, nh, ni, nj, nk] <;> rfl) (bl_cons (bnd_cons (pl_bnd _ _ _) (bnd_cons (pl_bnd _ _ _) (bnd_cons (pl_bnd _ _ _) (bnd_cons (pl_bnd _ _ _) (bnd_cons (pl_bnd _ _ _) (bnd_cons (pl_bnd _ _ _) (bnd_cons (pl_bnd _ _ _) (bnd_cons (pl_bnd _ _ _) (bnd_cons (pl_bnd _ _ _) (bnd_cons (pl_bnd _ _ _) (bnd_cons (pl_bnd _ _ _) bnd_nil))))))))))) bl_nil) ?_
            exact ⟨x_10, ⟨le_of_eq (eg oz), le_of_eq (eg (os rfl oz)), trivial⟩, rfl, some_of hz_9⟩
          · skip
            replace hz_9 := ifb_f hz_9 hc
            clear hc
            refine aw_skip ?_
            refine wk_yesN rfl (l := [(1, ptr (s.boxes.length + 0) 0), (4, sl (kI .u8) (some (s.fr.length + 0)) none vz_6)]) (bs' := [⟨114, [pl (.int .u8 p0.Kind), pl (.int .u64 p0.Space), pl (.int .u64 p0.Handle), pl (.int .i64 p0.Ref.Slot), pl (.int .u64 p0.Ref.Gen), pl (.int .u64 p0.To), pl (.string p0.Key), pl (.string p0.Value), pl (.int .u8 p0.Rights), pl (.int .u64 p0.Most), pl (.bool p0.Flag)]⟩]) ⟨le_of_eq (eg oz), le_of_eq (eg (os rfl oz)), trivial⟩ (bnd_cons (ptr_bnd _ (by first | omega | (simp only [List.length_append, List.length_cons, List.length_nil]; omega))) (bnd_cons (sl_ob (kb_I _) (by first | omega | (simp only [List.length_append, List.length_cons, List.length_nil, ext_fr_length, upd_fr_length]; omega))) bnd_nil)) (Nat.le_of_ble_eq_true rfl) (by simp only [na, nb, nc, nd, nf, ng, nh, ni, nj, nk] <;> rfl) (bxle_same bxle_nil) rfl (by simp only [na, nb, nc, nd, nf, ng, nh, ni, nj, nk] <;> rfl) (bl_cons (bnd_cons (pl_bnd _ _ _) (bnd_cons (pl_bnd _ _ _) (bnd_cons (pl_bnd _ _ _) (bnd_cons (pl_bnd _ _ _) (bnd_cons (pl_bnd _ _ _) (bnd_cons (pl_bnd _ _ _) (bnd_cons (pl_bnd _ _ _) (bnd_cons (pl_bnd _ _ _) (bnd_cons (pl_bnd _ _ _) (bnd_cons (pl_bnd _ _ _) (bnd_cons (pl_bnd _ _ _) bnd_nil))))))))))) bl_nil) ?_
            exact ⟨vz_6, ⟨le_of_eq (eg oz), le_of_eq (eg (os rfl oz)), trivial⟩, rfl, some_of hz_9⟩
        · rintro e st ⟨vz_9, hH, rfl, rfl⟩
          refine aw_keep _ hH ?_
          refine aw_keep [(1, _), (4, _)] ⟨lg oz, lg (os rfl oz), trivial⟩ ?_
          refine aw_seq ?_
          refine aw_seq ?_
          refine aw_region (by decide) ?_
          refine rts _ rfl (opD_fieldAddr fo114_0_u4b oz) ?_
          refine rts _ rfl (opD_load_one ag5_u4b lz (loc_getN rfl rfl) rfl) ?_
          replace h0 := bnd_some h0
          obtain ⟨x_11, hx_11, h0⟩ := h0
          refine rts _ rfl (opD_pure ht112_u4b (c_qhas2 hx_11) ⟨le_of_eq lz, le_of_eq (ev_const _ _), trivial⟩) ?_
          refine .nil ?_
          refine aw_keep [(1, _), (4, _), (41, _)] ⟨lg (ls rfl (ls rfl (ls rfl oz))), lg (ls rfl (ls rfl (ls rfl (os rfl oz)))), lg lz, trivial⟩ ?_
          replace h0 := bnd_some h0
          obtain ⟨z_12, hz_12, h0⟩ := h0
          refine aw_mid (fun e st => ∃ v : (List Int), Holds e [(1, ptr (s.boxes.length + 0) 0), (4, sl (kI .u8) (some (s.fr.length + 0)) none v)] ∧ st = s.ext [⟨114, [pl (.int .u8 p0.Kind), pl (.int .u64 p0.Space), pl (.int .u64 p0.Handle), pl (.int .i64 p0.Ref.Slot), pl (.int .u64 p0.Ref.Gen), pl (.int .u64 p0.To), pl (.string p0.Key), pl (.string p0.Value), pl (.int .u8 p0.Rights), pl (.int .u64 p0.Most), pl (.bool p0.Flag)]⟩] [⟨5, 1, v.length⟩] ∧ v = z_12) ?_ ?_
          · skip
            refine aw_wkN rfl 1 1 rfl rfl ?_
            refine aw_cond _ (os rfl (os rfl oz)) (fun hc => ?_) (fun hc => ?_)
            · skip
              replace hz_12 := ifb_t hz_12 hc
              clear hc
              refine aw_region (by decide) ?_
              refine rts _ rfl (opD_move (os rfl oz)) ?_
              refine rts _ rfl (opD_fieldAddr fo114_4_u4b (ls rfl oz)) ?_
              refine rts _ rfl (opD_load_one ag22_u4b lz (loc_getN rfl rfl) rfl) ?_
              replace hz_12 := bnd_some hz_12
              obtain ⟨x_13, hx_13, hz_12⟩ := hz_12
              refine rts _ rfl (opD_adopt (j := 0) (kb_I _) (opD_own1 ht29_u4b (c_oRput hx_13) ⟨(le_of_eq (ls rfl (ls rfl lz))).trans (sl_any _ _ _ _), le_of_eq lz, trivial⟩ (by first | exact List.length_nil | (simp only [List.length_cons, List.length_nil, Nat.zero_add, Nat.reduceAdd] <;> rfl)) rfl) (by first | exact List.length_nil | (simp only [List.length_cons, List.length_nil, Nat.zero_add, Nat.reduceAdd] <;> rfl)) rfl (len_oNum hx_13) (by simp only [na, nb, nc, nd, nf, ng, nh, ni, nj, nk] <;> rfl)) ?_
              refine rts _ rfl (opD_assign lz) ?_
              refine .nil ?_
              refine wk_yesN rfl (l := [(1, ptr (s.boxes.length + 0) 0), (4, sl (kI .u8) (some (s.fr.length + 0)) none x_13)]) (bs' := [⟨114, [pl (.int .u8 p0.Kind), pl (.int .u64 p0.Space), pl (.int .u64 p0.Handle), pl (.int .i64 p0.Ref.Slot), pl (.int .u64 p0.Ref.Gen), pl (.int .u64 p0.To), pl (.string p0.Key), pl (.string p0.Value), pl (.int .u8 p0.Rights), pl (.int .u64 p0.Most), pl (.bool p0.Flag)]⟩]) ⟨le_of_eq (eg (ls rfl (ls rfl (ls rfl (ls rfl (ls rfl oz)))))), le_of_eq (eg lz), trivial⟩ (bnd_cons (ptr_bnd _ (by first | omega | (simp only [List.length_append, List.length_cons, List.length_nil]; omega))) (bnd_cons (sl_ob (kb_I _) (by first | omega | (simp only [List.length_append, List.length_cons, List.length_nil, ext_fr_length, upd_fr_length]; omega))) bnd_nil)) (Nat.le_of_ble_eq_true rfl) (by simp only [na, nb, nc, nd, nf, ng, nh, ni, nj, nk] <;> rfl) (bxle_same bxle_nil) rfl (by simp only [na, nb, nc, nd, nf, ng, nh, ni, nj, nk] <;> rfl) (bl_cons (bnd_cons (pl_bnd _ _ _) (bnd_cons (pl_bnd _ _ _) (bnd_cons (pl_bnd _ _ _) (bnd_cons (pl_bnd _ _ _) (bnd_cons (pl_bnd _ _ _) (bnd_cons (pl_bnd _ _ _) (bnd_cons (pl_bnd _ _ _) (bnd_cons (pl_bnd _ _ _) (bnd_cons (pl_bnd _ _ _) (bnd_cons (pl_bnd _ _ _) (bnd_cons (pl_bnd _ _ _) bnd_nil))))))))))) bl_nil) ?_
              exact ⟨x_13, ⟨le_of_eq (eg oz), le_of_eq (eg (os rfl oz)), trivial⟩, rfl, some_of hz_12⟩
            · skip
              replace hz_12 := ifb_f hz_12 hc
              clear hc
              refine aw_skip ?_
              refine wk_yesN rfl (l := [(1, ptr (s.boxes.length + 0) 0), (4, sl (kI .u8) (some (s.fr.length + 0)) none vz_9)]) (bs' := [⟨114, [pl (.int .u8 p0.Kind), pl (.int .u64 p0.Space), pl (.int .u64 p0.Handle), pl (.int .i64 p0.Ref.Slot), pl (.int .u64 p0.Ref.Gen), pl (.int .u64 p0.To), pl (.string p0.Key), pl (.string p0.Value), pl (.int .u8 p0.Rights), pl (.int .u64 p0.Most), pl (.bool p0.Flag)]⟩]) ⟨le_of_eq (eg oz), le_of_eq (eg (os rfl oz)), trivial⟩ (bnd_cons (ptr_bnd _ (by first | omega | (simp only [List.length_append, List.length_cons, List.length_nil]; omega))) (bnd_cons (sl_ob (kb_I _) (by first | omega | (simp only [List.length_append, List.length_cons, List.length_nil, ext_fr_length, upd_fr_length]; omega))) bnd_nil)) (Nat.le_of_ble_eq_true rfl) (by simp only [na, nb, nc, nd, nf, ng, nh, ni, nj, nk] <;> rfl) (bxle_same bxle_nil) rfl (by simp only [na, nb, nc, nd, nf, ng, nh, ni, nj, nk] <;> rfl) (bl_cons (bnd_cons (pl_bnd _ _ _) (bnd_cons (pl_bnd _ _ _) (bnd_cons (pl_bnd _ _ _) (bnd_cons (pl_bnd _ _ _) (bnd_cons (pl_bnd _ _ _) (bnd_cons (pl_bnd _ _ _) (bnd_cons (pl_bnd _ _ _) (bnd_cons (pl_bnd _ _ _) (bnd_cons (pl_bnd _ _ _) (bnd_cons (pl_bnd _ _ _) (bnd_cons (pl_bnd _ _ _) bnd_nil))))))))))) bl_nil) ?_
              exact ⟨vz_9, ⟨le_of_eq (eg oz), le_of_eq (eg (os rfl oz)), trivial⟩, rfl, some_of hz_12⟩
          · rintro e st ⟨vz_12, hH, rfl, rfl⟩
            refine aw_keep _ hH ?_
            refine aw_keep [(1, _), (4, _)] ⟨lg oz, lg (os rfl oz), trivial⟩ ?_
            refine aw_seq ?_
            refine aw_seq ?_
            refine aw_region (by decide) ?_
            refine rts _ rfl (opD_fieldAddr fo114_0_u4b oz) ?_
            refine rts _ rfl (opD_load_one ag5_u4b lz (loc_getN rfl rfl) rfl) ?_
            replace h0 := bnd_some h0
            obtain ⟨x_14, hx_14, h0⟩ := h0
            refine rts _ rfl (opD_pure ht112_u4b (c_qhas2 hx_14) ⟨le_of_eq lz, le_of_eq (ev_const _ _), trivial⟩) ?_
            refine .nil ?_
            refine aw_keep [(1, _), (4, _), (48, _)] ⟨lg (ls rfl (ls rfl (ls rfl oz))), lg (ls rfl (ls rfl (ls rfl (os rfl oz)))), lg lz, trivial⟩ ?_
            replace h0 := bnd_some h0
            obtain ⟨z_15, hz_15, h0⟩ := h0
            refine aw_mid (fun e st => ∃ v : (List Int), Holds e [(1, ptr (s.boxes.length + 0) 0), (4, sl (kI .u8) (some (s.fr.length + 0)) none v)] ∧ st = s.ext [⟨114, [pl (.int .u8 p0.Kind), pl (.int .u64 p0.Space), pl (.int .u64 p0.Handle), pl (.int .i64 p0.Ref.Slot), pl (.int .u64 p0.Ref.Gen), pl (.int .u64 p0.To), pl (.string p0.Key), pl (.string p0.Value), pl (.int .u8 p0.Rights), pl (.int .u64 p0.Most), pl (.bool p0.Flag)]⟩] [⟨5, 1, v.length⟩] ∧ v = z_15) ?_ ?_
            · skip
              refine aw_wkN rfl 1 1 rfl rfl ?_
              refine aw_cond _ (os rfl (os rfl oz)) (fun hc => ?_) (fun hc => ?_)
              · skip
                replace hz_15 := ifb_t hz_15 hc
                clear hc
                refine aw_region (by decide) ?_
                refine rts _ rfl (opD_move (os rfl oz)) ?_
                refine rts _ rfl (opD_fieldAddr fo114_5_u4b (ls rfl oz)) ?_
                refine rts _ rfl (opD_load_one ag9_u4b lz (loc_getN rfl rfl) rfl) ?_
                refine rts _ rfl (opD_str_bytes Go.Proofs.Tryd.underlying9 Go.Proofs.Tryd.underlying23 Go.Proofs.Tryd.underlying5 lz) ?_
                replace hz_15 := bnd_some hz_15
                obtain ⟨x_16, hx_16, hz_15⟩ := hz_15
                refine rts _ rfl (opD_adopt (j := 0) (kb_I _) (opD_own1 ht30_u4b (c_oRputs hx_16) ⟨(le_of_eq (ls rfl (ls rfl (ls rfl lz)))).trans (sl_any _ _ _ _), (le_of_eq lz).trans (sl_any _ _ _ _), trivial⟩ (by first | exact List.length_nil | (simp only [List.length_cons, List.length_nil, Nat.zero_add, Nat.reduceAdd] <;> rfl)) rfl) (by first | exact List.length_nil | (simp only [List.length_cons, List.length_nil, Nat.zero_add, Nat.reduceAdd] <;> rfl)) rfl (len_oBytes hx_16) (by simp only [na, nb, nc, nd, nf, ng, nh, ni, nj, nk] <;> rfl)) ?_
                refine rts _ rfl (opD_assign lz) ?_
                refine .nil ?_
                refine wk_yesN rfl (l := [(1, ptr (s.boxes.length + 0) 0), (4, sl (kI .u8) (some (s.fr.length + 0)) none x_16)]) (bs' := [⟨114, [pl (.int .u8 p0.Kind), pl (.int .u64 p0.Space), pl (.int .u64 p0.Handle), pl (.int .i64 p0.Ref.Slot), pl (.int .u64 p0.Ref.Gen), pl (.int .u64 p0.To), pl (.string p0.Key), pl (.string p0.Value), pl (.int .u8 p0.Rights), pl (.int .u64 p0.Most), pl (.bool p0.Flag)]⟩]) ⟨le_of_eq (eg (ls rfl (ls rfl (ls rfl (ls rfl (ls rfl (ls rfl oz))))))), le_of_eq (eg lz), trivial⟩ (bnd_cons (ptr_bnd _ (by first | omega | (simp only [List.length_append, List.length_cons, List.length_nil]; omega))) (bnd_cons (sl_ob (kb_I _) (by first | omega | (simp only [List.length_append, List.length_cons, List.length_nil, ext_fr_length, upd_fr_length]; omega))) bnd_nil)) (Nat.le_of_ble_eq_true rfl) (by simp only [na, nb, nc, nd, nf, ng, nh, ni, nj, nk] <;> rfl) (bxle_same bxle_nil) rfl (by simp only [na, nb, nc, nd, nf, ng, nh, ni, nj, nk] <;> rfl) (bl_cons (bnd_cons (pl_bnd _ _ _) (bnd_cons (pl_bnd _ _ _) (bnd_cons (pl_bnd _ _ _) (bnd_cons (pl_bnd _ _ _) (bnd_cons (pl_bnd _ _ _) (bnd_cons (pl_bnd _ _ _) (bnd_cons (pl_bnd _ _ _) (bnd_cons (pl_bnd _ _ _) (bnd_cons (pl_bnd _ _ _) (bnd_cons (pl_bnd _ _ _) (bnd_cons (pl_bnd _ _ _) bnd_nil))))))))))) bl_nil) ?_
                exact ⟨x_16, ⟨le_of_eq (eg oz), le_of_eq (eg (os rfl oz)), trivial⟩, rfl, some_of hz_15⟩
              · skip
                replace hz_15 := ifb_f hz_15 hc
                clear hc
                refine aw_skip ?_
                refine wk_yesN rfl (l := [(1, ptr (s.boxes.length + 0) 0), (4, sl (kI .u8) (some (s.fr.length + 0)) none vz_12)]) (bs' := [⟨114, [pl (.int .u8 p0.Kind), pl (.int .u64 p0.Space), pl (.int .u64 p0.Handle), pl (.int .i64 p0.Ref.Slot), pl (.int .u64 p0.Ref.Gen), pl (.int .u64 p0.To), pl (.string p0.Key), pl (.string p0.Value), pl (.int .u8 p0.Rights), pl (.int .u64 p0.Most), pl (.bool p0.Flag)]⟩]) ⟨le_of_eq (eg oz), le_of_eq (eg (os rfl oz)), trivial⟩ (bnd_cons (ptr_bnd _ (by first | omega | (simp only [List.length_append, List.length_cons, List.length_nil]; omega))) (bnd_cons (sl_ob (kb_I _) (by first | omega | (simp only [List.length_append, List.length_cons, List.length_nil, ext_fr_length, upd_fr_length]; omega))) bnd_nil)) (Nat.le_of_ble_eq_true rfl) (by simp only [na, nb, nc, nd, nf, ng, nh, ni, nj, nk] <;> rfl) (bxle_same bxle_nil) rfl (by simp only [na, nb, nc, nd, nf, ng, nh, ni, nj, nk] <;> rfl) (bl_cons (bnd_cons (pl_bnd _ _ _) (bnd_cons (pl_bnd _ _ _) (bnd_cons (pl_bnd _ _ _) (bnd_cons (pl_bnd _ _ _) (bnd_cons (pl_bnd _ _ _) (bnd_cons (pl_bnd _ _ _) (bnd_cons (pl_bnd _ _ _) (bnd_cons (pl_bnd _ _ _) (bnd_cons (pl_bnd _ _ _) (bnd_cons (pl_bnd _ _ _) (bnd_cons (pl_bnd _ _ _) bnd_nil))))))))))) bl_nil) ?_
                exact ⟨vz_12, ⟨le_of_eq (eg oz), le_of_eq (eg (os rfl oz)), trivial⟩, rfl, some_of hz_15⟩
            · rintro e st ⟨vz_15, hH, rfl, rfl⟩
              refine aw_keep _ hH ?_
              refine aw_keep [(1, _), (4, _)] ⟨lg oz, lg (os rfl oz), trivial⟩ ?_
              refine aw_seq ?_
              refine aw_seq ?_
              refine aw_region (by decide) ?_
              refine rts _ rfl (opD_fieldAddr fo114_0_u4b oz) ?_
              refine rts _ rfl (opD_load_one ag5_u4b lz (loc_getN rfl rfl) rfl) ?_
              replace h0 := bnd_some h0
              obtain ⟨x_17, hx_17, h0⟩ := h0
              refine rts _ rfl (opD_pure ht112_u4b (c_qhas2 hx_17) ⟨le_of_eq lz, le_of_eq (ev_const _ _), trivial⟩) ?_
              refine .nil ?_
              refine aw_keep [(1, _), (4, _), (56, _)] ⟨lg (ls rfl (ls rfl (ls rfl oz))), lg (ls rfl (ls rfl (ls rfl (os rfl oz)))), lg lz, trivial⟩ ?_
              replace h0 := bnd_some h0
              obtain ⟨z_18, hz_18, h0⟩ := h0
              refine aw_mid (fun e st => ∃ v : (List Int), Holds e [(1, ptr (s.boxes.length + 0) 0), (4, sl (kI .u8) (some (s.fr.length + 0)) none v)] ∧ st = s.ext [⟨114, [pl (.int .u8 p0.Kind), pl (.int .u64 p0.Space), pl (.int .u64 p0.Handle), pl (.int .i64 p0.Ref.Slot), pl (.int .u64 p0.Ref.Gen), pl (.int .u64 p0.To), pl (.string p0.Key), pl (.string p0.Value), pl (.int .u8 p0.Rights), pl (.int .u64 p0.Most), pl (.bool p0.Flag)]⟩] [⟨5, 1, v.length⟩] ∧ v = z_18) ?_ ?_
              · skip
                refine aw_wkN rfl 1 1 rfl rfl ?_
                refine aw_cond _ (os rfl (os rfl oz)) (fun hc => ?_) (fun hc => ?_)
                · skip
                  replace hz_18 := ifb_t hz_18 hc
                  clear hc
                  refine aw_region (by decide) ?_
                  refine rts _ rfl (opD_move (os rfl oz)) ?_
                  refine rts _ rfl (opD_fieldAddr fo114_6_u4b (ls rfl oz)) ?_
                  refine rts _ rfl (opD_load_one ag9_u4b lz (loc_getN rfl rfl) rfl) ?_
                  refine rts _ rfl (opD_str_bytes Go.Proofs.Tryd.underlying9 Go.Proofs.Tryd.underlying23 Go.Proofs.Tryd.underlying5 lz) ?_
                  replace hz_18 := bnd_some hz_18
                  obtain ⟨x_19, hx_19, hz_18⟩ := hz_18
                  refine rts _ rfl (opD_adopt (j := 0) (kb_I _) (opD_own1 ht30_u4b (c_oRputs hx_19) ⟨(le_of_eq (ls rfl (ls rfl (ls rfl lz)))).trans (sl_any _ _ _ _), (le_of_eq lz).trans (sl_any _ _ _ _), trivial⟩ (by first | exact List.length_nil | (simp only [List.length_cons, List.length_nil, Nat.zero_add, Nat.reduceAdd] <;> rfl)) rfl) (by first | exact List.length_nil | (simp only [List.length_cons, List.length_nil, Nat.zero_add, Nat.reduceAdd] <;> rfl)) rfl (len_oBytes hx_19) (by simp only [na, nb, nc, nd, nf, ng, nh, ni, nj, nk] <;> rfl)) ?_
                  refine rts _ rfl (opD_assign lz) ?_
                  refine .nil ?_
                  refine wk_yesN rfl (l := [(1, ptr (s.boxes.length + 0) 0), (4, sl (kI .u8) (some (s.fr.length + 0)) none x_19)]) (bs' := [⟨114, [pl (.int .u8 p0.Kind), pl (.int .u64 p0.Space), pl (.int .u64 p0.Handle), pl (.int .i64 p0.Ref.Slot), pl (.int .u64 p0.Ref.Gen), pl (.int .u64 p0.To), pl (.string p0.Key), pl (.string p0.Value), pl (.int .u8 p0.Rights), pl (.int .u64 p0.Most), pl (.bool p0.Flag)]⟩]) ⟨le_of_eq (eg (ls rfl (ls rfl (ls rfl (ls rfl (ls rfl (ls rfl oz))))))), le_of_eq (eg lz), trivial⟩ (bnd_cons (ptr_bnd _ (by first | omega | (simp only [List.length_append, List.length_cons, List.length_nil]; omega))) (bnd_cons (sl_ob (kb_I _) (by first | omega | (simp only [List.length_append, List.length_cons, List.length_nil, ext_fr_length, upd_fr_length]; omega))) bnd_nil)) (Nat.le_of_ble_eq_true rfl) (by simp only [na, nb, nc, nd, nf, ng, nh, ni, nj, nk] <;> rfl) (bxle_same bxle_nil) rfl (by simp only [na, nb, nc, nd, nf, ng, nh, ni, nj, nk] <;> rfl) (bl_cons (bnd_cons (pl_bnd _ _ _) (bnd_cons (pl_bnd _ _ _) (bnd_cons (pl_bnd _ _ _) (bnd_cons (pl_bnd _ _ _) (bnd_cons (pl_bnd _ _ _) (bnd_cons (pl_bnd _ _ _) (bnd_cons (pl_bnd _ _ _) (bnd_cons (pl_bnd _ _ _) (bnd_cons (pl_bnd _ _ _) (bnd_cons (pl_bnd _ _ _) (bnd_cons (pl_bnd _ _ _) bnd_nil))))))))))) bl_nil) ?_
                  exact ⟨x_19, ⟨le_of_eq (eg oz), le_of_eq (eg (os rfl oz)), trivial⟩, rfl, some_of hz_18⟩
                · skip
                  replace hz_18 := ifb_f hz_18 hc
                  clear hc
                  refine aw_skip ?_
                  refine wk_yesN rfl (l := [(1, ptr (s.boxes.length + 0) 0), (4, sl (kI .u8) (some (s.fr.length + 0)) none vz_15)]) (bs' := [⟨114, [pl (.int .u8 p0.Kind), pl (.int .u64 p0.Space), pl (.int .u64 p0.Handle), pl (.int .i64 p0.Ref.Slot), pl (.int .u64 p0.Ref.Gen), pl (.int .u64 p0.To), pl (.string p0.Key), pl (.string p0.Value), pl (.int .u8 p0.Rights), pl (.int .u64 p0.Most), pl (.bool p0.Flag)]⟩]) ⟨le_of_eq (eg oz), le_of_eq (eg (os rfl oz)), trivial⟩ (bnd_cons (ptr_bnd _ (by first | omega | (simp only [List.length_append, List.length_cons, List.length_nil]; omega))) (bnd_cons (sl_ob (kb_I _) (by first | omega | (simp only [List.length_append, List.length_cons, List.length_nil, ext_fr_length, upd_fr_length]; omega))) bnd_nil)) (Nat.le_of_ble_eq_true rfl) (by simp only [na, nb, nc, nd, nf, ng, nh, ni, nj, nk] <;> rfl) (bxle_same bxle_nil) rfl (by simp only [na, nb, nc, nd, nf, ng, nh, ni, nj, nk] <;> rfl) (bl_cons (bnd_cons (pl_bnd _ _ _) (bnd_cons (pl_bnd _ _ _) (bnd_cons (pl_bnd _ _ _) (bnd_cons (pl_bnd _ _ _) (bnd_cons (pl_bnd _ _ _) (bnd_cons (pl_bnd _ _ _) (bnd_cons (pl_bnd _ _ _) (bnd_cons (pl_bnd _ _ _) (bnd_cons (pl_bnd _ _ _) (bnd_cons (pl_bnd _ _ _) (bnd_cons (pl_bnd _ _ _) bnd_nil))))))))))) bl_nil) ?_
                  exact ⟨vz_15, ⟨le_of_eq (eg oz), le_of_eq (eg (os rfl oz)), trivial⟩, rfl, some_of hz_18⟩
              · rintro e st ⟨vz_18, hH, rfl, rfl⟩
                refine aw_keep _ hH ?_
                refine aw_keep [(1, _), (4, _)] ⟨lg oz, lg (os rfl oz), trivial⟩ ?_
                refine aw_seq ?_
                refine aw_seq ?_
                refine aw_region (by decide) ?_
                refine rts _ rfl (opD_fieldAddr fo114_0_u4b oz) ?_
                refine rts _ rfl (opD_load_one ag5_u4b lz (loc_getN rfl rfl) rfl) ?_
                replace h0 := bnd_some h0
                obtain ⟨x_20, hx_20, h0⟩ := h0
                refine rts _ rfl (opD_pure ht112_u4b (c_qhas2 hx_20) ⟨le_of_eq lz, le_of_eq (ev_const _ _), trivial⟩) ?_
                refine .nil ?_
                refine aw_keep [(1, _), (4, _), (64, _)] ⟨lg (ls rfl (ls rfl (ls rfl oz))), lg (ls rfl (ls rfl (ls rfl (os rfl oz)))), lg lz, trivial⟩ ?_
                replace h0 := bnd_some h0
                obtain ⟨z_21, hz_21, h0⟩ := h0
                refine aw_mid (fun e st => ∃ v : (List Int), Holds e [(1, ptr (s.boxes.length + 0) 0), (4, sl (kI .u8) (some (s.fr.length + 0)) none v)] ∧ st = s.ext [⟨114, [pl (.int .u8 p0.Kind), pl (.int .u64 p0.Space), pl (.int .u64 p0.Handle), pl (.int .i64 p0.Ref.Slot), pl (.int .u64 p0.Ref.Gen), pl (.int .u64 p0.To), pl (.string p0.Key), pl (.string p0.Value), pl (.int .u8 p0.Rights), pl (.int .u64 p0.Most), pl (.bool p0.Flag)]⟩] [⟨5, 1, v.length⟩] ∧ v = z_21) ?_ ?_
                · skip
                  refine aw_wkN rfl 1 1 rfl rfl ?_
                  refine aw_cond _ (os rfl (os rfl oz)) (fun hc => ?_) (fun hc => ?_)
                  · skip
                    replace hz_21 := ifb_t hz_21 hc
                    clear hc
                    refine aw_region (by decide) ?_
                    refine rts _ rfl (opD_move (os rfl oz)) ?_
                    refine rts _ rfl (opD_fieldAddr fo114_7_u4b (ls rfl oz)) ?_
                    refine rts _ rfl (opD_load_one ag5_u4b lz (loc_getN rfl rfl) rfl) ?_
                    refine rts _ rfl (opD_buildOwn (k := kI .u8) ([p0.Rights] : (List Int)) Go.Proofs.Tryd.underlying23 sz5_u4b zt5_u4b (by decide) rfl (parts_cons (cells1 lz (one_pl rfl)) parts_nil) rfl rfl (by first | exact List.length_nil | (simp only [List.length_cons, List.length_nil, Nat.zero_add, Nat.reduceAdd] <;> rfl)) (by simp only [na, nb, nc, nd, nf, ng, nh, ni, nj, nk] <;> rfl)) ?_
                    replace hz_21 := grd_some hz_21
                    obtain ⟨hg_6, hz_21⟩ := hz_21
                    refine rts _ rfl (opD_appendX Go.Proofs.Tryd.underlying23 el5_u4b (ls rfl (ls rfl (ls rfl lz))) lz rfl hg_6.1 hg_6.2 rfl (by simp only [na, nb, nc, nd, nf, ng, nh, ni, nj, nk] <;> rfl)) ?_
                    refine rts _ rfl (opD_assign lz) ?_
                    refine .nil ?_
                    refine wk_yesN rfl (l := [(1, ptr (s.boxes.length + 0) 0), (4, sl (kI .u8) (some (s.fr.length + 0)) none (vz_18 ++ ([p0.Rights] : (List Int))))]) (bs' := [⟨114, [pl (.int .u8 p0.Kind), pl (.int .u64 p0.Space), pl (.int .u64 p0.Handle), pl (.int .i64 p0.Ref.Slot), pl (.int .u64 p0.Ref.Gen), pl (.int .u64 p0.To), pl (.string p0.Key), pl (.string p0.Value), pl (.int .u8 p0.Rights), pl (.int .u64 p0.Most), pl (.bool p0.Flag)]⟩]) ⟨le_of_eq (eg (ls rfl (ls rfl (ls rfl (ls rfl (ls rfl (ls rfl oz))))))), le_of_eq (eg lz), trivial⟩ (bnd_cons (ptr_bnd _ (by first | omega | (simp only [List.length_append, List.length_cons, List.length_nil]; omega))) (bnd_cons (sl_ob (kb_I _) (by first | omega | (simp only [List.length_append, List.length_cons, List.length_nil, ext_fr_length, upd_fr_length]; omega))) bnd_nil)) (Nat.le_of_ble_eq_true rfl) (by simp only [na, nb, nc, nd, nf, ng, nh, ni, nj, nk] <;> rfl) (bxle_same bxle_nil) rfl (by simp only [na, nb, nc, nd, nf, ng, nh, ni, nj, nk] <;> rfl) (bl_cons (bnd_cons (pl_bnd _ _ _) (bnd_cons (pl_bnd _ _ _) (bnd_cons (pl_bnd _ _ _) (bnd_cons (pl_bnd _ _ _) (bnd_cons (pl_bnd _ _ _) (bnd_cons (pl_bnd _ _ _) (bnd_cons (pl_bnd _ _ _) (bnd_cons (pl_bnd _ _ _) (bnd_cons (pl_bnd _ _ _) (bnd_cons (pl_bnd _ _ _) (bnd_cons (pl_bnd _ _ _) bnd_nil))))))))))) bl_nil) ?_
                    exact ⟨(vz_18 ++ ([p0.Rights] : (List Int))), ⟨le_of_eq (eg oz), le_of_eq (eg (os rfl oz)), trivial⟩, rfl, some_of hz_21⟩
                  · skip
                    replace hz_21 := ifb_f hz_21 hc
                    clear hc
                    refine aw_skip ?_
                    refine wk_yesN rfl (l := [(1, ptr (s.boxes.length + 0) 0), (4, sl (kI .u8) (some (s.fr.length + 0)) none vz_18)]) (bs' := [⟨114, [pl (.int .u8 p0.Kind), pl (.int .u64 p0.Space), pl (.int .u64 p0.Handle), pl (.int .i64 p0.Ref.Slot), pl (.int .u64 p0.Ref.Gen), pl (.int .u64 p0.To), pl (.string p0.Key), pl (.string p0.Value), pl (.int .u8 p0.Rights), pl (.int .u64 p0.Most), pl (.bool p0.Flag)]⟩]) ⟨le_of_eq (eg oz), le_of_eq (eg (os rfl oz)), trivial⟩ (bnd_cons (ptr_bnd _ (by first | omega | (simp only [List.length_append, List.length_cons, List.length_nil]; omega))) (bnd_cons (sl_ob (kb_I _) (by first | omega | (simp only [List.length_append, List.length_cons, List.length_nil, ext_fr_length, upd_fr_length]; omega))) bnd_nil)) (Nat.le_of_ble_eq_true rfl) (by simp only [na, nb, nc, nd, nf, ng, nh, ni, nj, nk] <;> rfl) (bxle_same bxle_nil) rfl (by simp only [na, nb, nc, nd, nf, ng, nh, ni, nj, nk] <;> rfl) (bl_cons (bnd_cons (pl_bnd _ _ _) (bnd_cons (pl_bnd _ _ _) (bnd_cons (pl_bnd _ _ _) (bnd_cons (pl_bnd _ _ _) (bnd_cons (pl_bnd _ _ _) (bnd_cons (pl_bnd _ _ _) (bnd_cons (pl_bnd _ _ _) (bnd_cons (pl_bnd _ _ _) (bnd_cons (pl_bnd _ _ _) (bnd_cons (pl_bnd _ _ _) (bnd_cons (pl_bnd _ _ _) bnd_nil))))))))))) bl_nil) ?_
                    exact ⟨vz_18, ⟨le_of_eq (eg oz), le_of_eq (eg (os rfl oz)), trivial⟩, rfl, some_of hz_21⟩
                · rintro e st ⟨vz_21, hH, rfl, rfl⟩
                  refine aw_keep _ hH ?_
                  refine aw_keep [(1, _), (4, _)] ⟨lg oz, lg (os rfl oz), trivial⟩ ?_
                  refine aw_seq ?_
                  refine aw_seq ?_
                  refine aw_region (by decide) ?_
                  refine rts _ rfl (opD_fieldAddr fo114_0_u4b oz) ?_
                  refine rts _ rfl (opD_load_one ag5_u4b lz (loc_getN rfl rfl) rfl) ?_
                  replace h0 := bnd_some h0
                  obtain ⟨x_22, hx_22, h0⟩ := h0
                  refine rts _ rfl (opD_pure ht112_u4b (c_qhas2 hx_22) ⟨le_of_eq lz, le_of_eq (ev_const _ _), trivial⟩) ?_
                  refine .nil ?_
                  refine aw_keep [(1, _), (4, _), (72, _)] ⟨lg (ls rfl (ls rfl (ls rfl oz))), lg (ls rfl (ls rfl (ls rfl (os rfl oz)))), lg lz, trivial⟩ ?_
                  replace h0 := bnd_some h0
                  obtain ⟨z_23, hz_23, h0⟩ := h0
                  refine aw_mid (fun e st => ∃ v : (List Int), Holds e [(1, ptr (s.boxes.length + 0) 0), (4, sl (kI .u8) (some (s.fr.length + 0)) none v)] ∧ st = s.ext [⟨114, [pl (.int .u8 p0.Kind), pl (.int .u64 p0.Space), pl (.int .u64 p0.Handle), pl (.int .i64 p0.Ref.Slot), pl (.int .u64 p0.Ref.Gen), pl (.int .u64 p0.To), pl (.string p0.Key), pl (.string p0.Value), pl (.int .u8 p0.Rights), pl (.int .u64 p0.Most), pl (.bool p0.Flag)]⟩] [⟨5, 1, v.length⟩] ∧ v = z_23) ?_ ?_
                  · skip
                    refine aw_wkN rfl 1 1 rfl rfl ?_
                    refine aw_cond _ (os rfl (os rfl oz)) (fun hc => ?_) (fun hc => ?_)
                    · skip
                      replace hz_23 := ifb_t hz_23 hc
                      clear hc
                      refine aw_region (by decide) ?_
                      refine rts _ rfl (opD_move (os rfl oz)) ?_
                      refine rts _ rfl (opD_fieldAddr fo114_8_u4b (ls rfl oz)) ?_
                      refine rts _ rfl (opD_load_one ag22_u4b lz (loc_getN rfl rfl) rfl) ?_
                      replace hz_23 := bnd_some hz_23
                      obtain ⟨x_24, hx_24, hz_23⟩ := hz_23
                      refine rts _ rfl (opD_adopt (j := 0) (kb_I _) (opD_own1 ht29_u4b (c_oRput hx_24) ⟨(le_of_eq (ls rfl (ls rfl lz))).trans (sl_any _ _ _ _), le_of_eq lz, trivial⟩ (by first | exact List.length_nil | (simp only [List.length_cons, List.length_nil, Nat.zero_add, Nat.reduceAdd] <;> rfl)) rfl) (by first | exact List.length_nil | (simp only [List.length_cons, List.length_nil, Nat.zero_add, Nat.reduceAdd] <;> rfl)) rfl (len_oNum hx_24) (by simp only [na, nb, nc, nd, nf, ng, nh, ni, nj, nk] <;> rfl)) ?_
                      refine rts _ rfl (opD_assign lz) ?_
                      refine .nil ?_
                      refine wk_yesN rfl (l := [(1, ptr (s.boxes.length + 0) 0), (4, sl (kI .u8) (some (s.fr.length + 0)) none x_24)]) (bs' := [⟨114, [pl (.int .u8 p0.Kind), pl (.int .u64 p0.Space), pl (.int .u64 p0.Handle), pl (.int .i64 p0.Ref.Slot), pl (.int .u64 p0.Ref.Gen), pl (.int .u64 p0.To), pl (.string p0.Key), pl (.string p0.Value), pl (.int .u8 p0.Rights), pl (.int .u64 p0.Most), pl (.bool p0.Flag)]⟩]) ⟨le_of_eq (eg (ls rfl (ls rfl (ls rfl (ls rfl (ls rfl oz)))))), le_of_eq (eg lz), trivial⟩ (bnd_cons (ptr_bnd _ (by first | omega | (simp only [List.length_append, List.length_cons, List.length_nil]; omega))) (bnd_cons (sl_ob (kb_I _) (by first | omega | (simp only [List.length_append, List.length_cons, List.length_nil, ext_fr_length, upd_fr_length]; omega))) bnd_nil)) (Nat.le_of_ble_eq_true rfl) (by simp only [na, nb, nc, nd, nf, ng, nh, ni, nj, nk] <;> rfl) (bxle_same bxle_nil) rfl (by simp only [na, nb, nc, nd, nf, ng, nh, ni, nj, nk] <;> rfl) (bl_cons (bnd_cons (pl_bnd _ _ _) (bnd_cons (pl_bnd _ _ _) (bnd_cons (pl_bnd _ _ _) (bnd_cons (pl_bnd _ _ _) (bnd_cons (pl_bnd _ _ _) (bnd_cons (pl_bnd _ _ _) (bnd_cons (pl_bnd _ _ _) (bnd_cons (pl_bnd _ _ _) (bnd_cons (pl_bnd _ _ _) (bnd_cons (pl_bnd _ _ _) (bnd_cons (pl_bnd _ _ _) bnd_nil))))))))))) bl_nil) ?_
                      exact ⟨x_24, ⟨le_of_eq (eg oz), le_of_eq (eg (os rfl oz)), trivial⟩, rfl, some_of hz_23⟩
                    · skip
                      replace hz_23 := ifb_f hz_23 hc
                      clear hc
                      refine aw_skip ?_
                      refine wk_yesN rfl (l := [(1, ptr (s.boxes.length + 0) 0), (4, sl (kI .u8) (some (s.fr.length + 0)) none vz_21)]) (bs' := [⟨114, [pl (.int .u8 p0.Kind), pl (.int .u64 p0.Space), pl (.int .u64 p0.Handle), pl (.int .i64 p0.Ref.Slot), pl (.int .u64 p0.Ref.Gen), pl (.int .u64 p0.To), pl (.string p0.Key), pl (.string p0.Value), pl (.int .u8 p0.Rights), pl (.int .u64 p0.Most), pl (.bool p0.Flag)]⟩]) ⟨le_of_eq (eg oz), le_of_eq (eg (os rfl oz)), trivial⟩ (bnd_cons (ptr_bnd _ (by first | omega | (simp only [List.length_append, List.length_cons, List.length_nil]; omega))) (bnd_cons (sl_ob (kb_I _) (by first | omega | (simp only [List.length_append, List.length_cons, List.length_nil, ext_fr_length, upd_fr_length]; omega))) bnd_nil)) (Nat.le_of_ble_eq_true rfl) (by simp only [na, nb, nc, nd, nf, ng, nh, ni, nj, nk] <;> rfl) (bxle_same bxle_nil) rfl (by simp only [na, nb, nc, nd, nf, ng, nh, ni, nj, nk] <;> rfl) (bl_cons (bnd_cons (pl_bnd _ _ _) (bnd_cons (pl_bnd _ _ _) (bnd_cons (pl_bnd _ _ _) (bnd_cons (pl_bnd _ _ _) (bnd_cons (pl_bnd _ _ _) (bnd_cons (pl_bnd _ _ _) (bnd_cons (pl_bnd _ _ _) (bnd_cons (pl_bnd _ _ _) (bnd_cons (pl_bnd _ _ _) (bnd_cons (pl_bnd _ _ _) (bnd_cons (pl_bnd _ _ _) bnd_nil))))))))))) bl_nil) ?_
                      exact ⟨vz_21, ⟨le_of_eq (eg oz), le_of_eq (eg (os rfl oz)), trivial⟩, rfl, some_of hz_23⟩
                  · rintro e st ⟨vz_23, hH, rfl, rfl⟩
                    refine aw_keep _ hH ?_
                    refine aw_keep [(1, _), (4, _)] ⟨lg oz, lg (os rfl oz), trivial⟩ ?_
                    refine aw_seq ?_
                    refine aw_seq ?_
                    refine aw_region (by decide) ?_
                    refine rts _ rfl (opD_fieldAddr fo114_0_u4b oz) ?_
                    refine rts _ rfl (opD_load_one ag5_u4b lz (loc_getN rfl rfl) rfl) ?_
                    replace h0 := bnd_some h0
                    obtain ⟨x_25, hx_25, h0⟩ := h0
                    refine rts _ rfl (opD_pure ht112_u4b (c_qhas2 hx_25) ⟨le_of_eq lz, le_of_eq (ev_const _ _), trivial⟩) ?_
                    refine rts _ rfl (opD_move lz) ?_
                    refine rtg _ rfl lz (fun hg20_4_7 => opD_fieldAddr fo114_9_u4b (ls rfl (ls rfl (ls rfl (ls rfl oz))))) ?_
                    refine rtg _ rfl (ls rfl lz) (fun hg20_5_8 => opD_load_one ag4_u4b (lz.trans (pif_pos hg20_5_8)) (loc_getN rfl rfl) rfl) ?_
                    refine rts _ rfl (opD_and (ls rfl (ls rfl lz)) lz) ?_
                    refine .nil ?_
                    refine aw_keep [(1, _), (4, _), (83, _)] ⟨lg (ls rfl (ls rfl (ls rfl (ls rfl (ls rfl (ls rfl (ls rfl oz))))))), lg (ls rfl (ls rfl (ls rfl (ls rfl (ls rfl (ls rfl (ls rfl (os rfl oz)))))))), lg lz, trivial⟩ ?_
                    refine aw_cond _ (os rfl (os rfl oz)) (fun hc => ?_) (fun hc => ?_)
                    · skip
                      replace h0 := ifb_t h0 hc
                      clear hc
                      refine aw_seq ?_
                      refine aw_region (by decide) ?_
                      refine rts _ rfl (opD_move (os rfl oz)) ?_
                      refine rts _ rfl (opD_buildOwn (k := kI .u8) ([1] : (List Int)) Go.Proofs.Tryd.underlying23 sz5_u4b zt5_u4b (by decide) rfl (parts_cons (cells1 (ev_const _ _) (one_pl rfl)) parts_nil) rfl rfl (by first | exact List.length_nil | (simp only [List.length_cons, List.length_nil, Nat.zero_add, Nat.reduceAdd] <;> rfl)) (by simp only [na, nb, nc, nd, nf, ng, nh, ni, nj, nk] <;> rfl)) ?_
                      replace h0 := grd_some h0
                      obtain ⟨hg_9, h0⟩ := h0
                      refine rts _ rfl (opD_appendX Go.Proofs.Tryd.underlying23 el5_u4b (ls rfl lz) lz rfl hg_9.1 hg_9.2 rfl (by simp only [na, nb, nc, nd, nf, ng, nh, ni, nj, nk] <;> rfl)) ?_
                      refine rts _ rfl (opD_assign lz) ?_
                      refine rts _ rfl (opD_assign (ev_const _ _)) ?_
                      refine .nil ?_
                      refine aw_keep [(2, _), (3, _)] ⟨lg (ls rfl lz), lg lz, trivial⟩ ?_
                      refine aw_ret ?_
                      obtain rfl := some_of h0
                      exact done_ext (.inr rfl) ((res_list (rs := [_, _]) (ps := [_, _]) rfl rfl ⟨it_tmp oz, it_tmp (os rfl oz), trivial⟩).le (tup_le ⟨(sl_any _ _ _ _), (Pd.le_refl _), trivial⟩)) (tup_bnd (bnd_cons (sl_b (kb_I _)) (bnd_cons (pl_bnd _ _ _) bnd_nil)))
                    · skip
                      replace h0 := ifb_f h0 hc
                      clear hc
                      refine aw_skip ?_
                      refine aw_keep [(1, _), (4, _)] ⟨lg oz, lg (os rfl oz), trivial⟩ ?_
                      refine aw_seq ?_
                      refine aw_seq ?_
                      refine aw_region (by decide) ?_
                      refine rts _ rfl (opD_fieldAddr fo114_0_u4b oz) ?_
                      refine rts _ rfl (opD_load_one ag5_u4b lz (loc_getN rfl rfl) rfl) ?_
                      replace h0 := bnd_some h0
                      obtain ⟨x_26, hx_26, h0⟩ := h0
                      refine rts _ rfl (opD_pure ht112_u4b (c_qhas2 hx_26) ⟨le_of_eq lz, le_of_eq (ev_const _ _), trivial⟩) ?_
                      refine .nil ?_
                      refine aw_keep [(4, _), (89, _)] ⟨lg (ls rfl (ls rfl (ls rfl (os rfl oz)))), lg lz, trivial⟩ ?_
                      refine aw_cond _ (os rfl oz) (fun hc => ?_) (fun hc => ?_)
                      · skip
                        replace h0 := ifb_t h0 hc
                        clear hc
                        refine aw_seq ?_
                        refine aw_region (by decide) ?_
                        refine rts _ rfl (opD_move oz) ?_
                        refine rts _ rfl (opD_buildOwn (k := kI .u8) ([0] : (List Int)) Go.Proofs.Tryd.underlying23 sz5_u4b zt5_u4b (by decide) rfl (parts_cons (cells1 (ev_const _ _) (one_pl rfl)) parts_nil) rfl rfl (by first | exact List.length_nil | (simp only [List.length_cons, List.length_nil, Nat.zero_add, Nat.reduceAdd] <;> rfl)) (by simp only [na, nb, nc, nd, nf, ng, nh, ni, nj, nk] <;> rfl)) ?_
                        replace h0 := grd_some h0
                        obtain ⟨hg_10, h0⟩ := h0
                        refine rts _ rfl (opD_appendX Go.Proofs.Tryd.underlying23 el5_u4b (ls rfl lz) lz rfl hg_10.1 hg_10.2 rfl (by simp only [na, nb, nc, nd, nf, ng, nh, ni, nj, nk] <;> rfl)) ?_
                        refine rts _ rfl (opD_assign lz) ?_
                        refine rts _ rfl (opD_assign (ev_const _ _)) ?_
                        refine .nil ?_
                        refine aw_keep [(2, _), (3, _)] ⟨lg (ls rfl lz), lg lz, trivial⟩ ?_
                        refine aw_ret ?_
                        obtain rfl := some_of h0
                        exact done_ext (.inr rfl) ((res_list (rs := [_, _]) (ps := [_, _]) rfl rfl ⟨it_tmp oz, it_tmp (os rfl oz), trivial⟩).le (tup_le ⟨(sl_any _ _ _ _), (Pd.le_refl _), trivial⟩)) (tup_bnd (bnd_cons (sl_b (kb_I _)) (bnd_cons (pl_bnd _ _ _) bnd_nil)))
                      · skip
                        replace h0 := ifb_f h0 hc
                        clear hc
                        refine aw_skip ?_
                        refine aw_keep [(4, _)] ⟨lg oz, trivial⟩ ?_
                        refine aw_seq ?_
                        refine aw_region (by decide) ?_
                        refine rts _ rfl (opD_move oz) ?_
                        refine rts _ rfl (opD_assign lz) ?_
                        refine rts _ rfl (opD_assign (ev_const _ _)) ?_
                        refine .nil ?_
                        refine aw_keep [(2, _), (3, _)] ⟨lg (ls rfl lz), lg lz, trivial⟩ ?_
                        refine aw_ret ?_
                        obtain rfl := some_of h0
                        exact done_ext (.inr rfl) ((res_list (rs := [_, _]) (ps := [_, _]) rfl rfl ⟨it_tmp oz, it_tmp (os rfl oz), trivial⟩).le (tup_le ⟨(sl_any _ _ _ _), (Pd.le_refl _), trivial⟩)) (tup_bnd (bnd_cons (sl_b (kb_I _)) (bnd_cons (pl_bnd _ _ _) bnd_nil)))

def F_qdec2_b0 (x_2 : (ByteArray)) (t_4 : Int × Rdr × Rq) : Option ((Int × Rdr × Rq) ⊕ ((Rdr × Rq))) :=
  ifb ((decide (t_4.1 < (x_2.size : Int))) && (!t_4.2.1.wrong_)) (bnd (grd (Below t_4.1 x_2.size) <| bnd (bnd (ifb (decide ((byteAt x_2 t_4.1) = 115)) (some (decide ((byteAt x_2 t_4.1) = 115))) (ifb (decide ((byteAt x_2 t_4.1) = 104)) (some (decide ((byteAt x_2 t_4.1) = 104))) (ifb (decide ((byteAt x_2 t_4.1) = 116)) (some (decide ((byteAt x_2 t_4.1) = 116))) (some (decide ((byteAt x_2 t_4.1) = 109)))))) fun z_8 => ifb z_8 (bnd (oDNum t_4.2.1 4611686018427387904) fun x_9 => some (x_9.2, ([] : (List Int)), 0, x_9.1)) (bnd (ifb (decide ((byteAt x_2 t_4.1) = 107)) (some (decide ((byteAt x_2 t_4.1) = 107))) (some (decide ((byteAt x_2 t_4.1) = 118)))) fun z_10 => ifb z_10 (bnd (oDBytes t_4.2.1 2048) fun x_11 => some (0, x_11.2, 0, x_11.1)) (bnd (oDByte t_4.2.1) fun x_12 => some (0, ([] : (List Int)), x_12.2, x_12.1)))) fun z_7 => grd (Below t_4.1 x_2.size) <| ifb (decide ((byteAt x_2 t_4.1) = 115)) (some (z_7.2.2.2, (⟨t_4.2.2.Kind, z_7.1, t_4.2.2.Handle, t_4.2.2.Ref, t_4.2.2.To, t_4.2.2.Key, t_4.2.2.Value, t_4.2.2.Rights, t_4.2.2.Most, t_4.2.2.Flag⟩ : Rq))) (ifb (decide ((byteAt x_2 t_4.1) = 104)) (some (z_7.2.2.2, (⟨t_4.2.2.Kind, t_4.2.2.Space, z_7.1, t_4.2.2.Ref, t_4.2.2.To, t_4.2.2.Key, t_4.2.2.Value, t_4.2.2.Rights, t_4.2.2.Most, t_4.2.2.Flag⟩ : Rq))) (ifb (decide ((byteAt x_2 t_4.1) = 116)) (some (z_7.2.2.2, (⟨t_4.2.2.Kind, t_4.2.2.Space, t_4.2.2.Handle, t_4.2.2.Ref, z_7.1, t_4.2.2.Key, t_4.2.2.Value, t_4.2.2.Rights, t_4.2.2.Most, t_4.2.2.Flag⟩ : Rq))) (ifb (decide ((byteAt x_2 t_4.1) = 109)) (some (z_7.2.2.2, (⟨t_4.2.2.Kind, t_4.2.2.Space, t_4.2.2.Handle, t_4.2.2.Ref, t_4.2.2.To, t_4.2.2.Key, t_4.2.2.Value, t_4.2.2.Rights, z_7.1, t_4.2.2.Flag⟩ : Rq))) (ifb (decide ((byteAt x_2 t_4.1) = 107)) (some (z_7.2.2.2, (⟨t_4.2.2.Kind, t_4.2.2.Space, t_4.2.2.Handle, t_4.2.2.Ref, t_4.2.2.To, (strOf z_7.2.1), t_4.2.2.Value, t_4.2.2.Rights, t_4.2.2.Most, t_4.2.2.Flag⟩ : Rq))) (ifb (decide ((byteAt x_2 t_4.1) = 118)) (some (z_7.2.2.2, (⟨t_4.2.2.Kind, t_4.2.2.Space, t_4.2.2.Handle, t_4.2.2.Ref, t_4.2.2.To, t_4.2.2.Key, (strOf z_7.2.1), t_4.2.2.Rights, t_4.2.2.Most, t_4.2.2.Flag⟩ : Rq))) (ifb (decide ((byteAt x_2 t_4.1) = 114)) (some (z_7.2.2.2, (⟨t_4.2.2.Kind, t_4.2.2.Space, t_4.2.2.Handle, t_4.2.2.Ref, t_4.2.2.To, t_4.2.2.Key, t_4.2.2.Value, z_7.2.2.1, t_4.2.2.Most, t_4.2.2.Flag⟩ : Rq))) (ifb (decide ((byteAt x_2 t_4.1) = 102)) (some (z_7.2.2.2, (⟨t_4.2.2.Kind, t_4.2.2.Space, t_4.2.2.Handle, t_4.2.2.Ref, t_4.2.2.To, t_4.2.2.Key, t_4.2.2.Value, t_4.2.2.Rights, t_4.2.2.Most, (decide (z_7.2.2.1 = 1))⟩ : Rq))) (ifb (!z_7.2.2.2.wrong_) (bnd (oDNum z_7.2.2.2 4611686018427387904) fun x_13 => some (x_13.1, (⟨t_4.2.2.Kind, t_4.2.2.Space, t_4.2.2.Handle, (⟨IntKind.i64.wrap (z_7.2.2.1), x_13.2⟩ : Rf), t_4.2.2.To, t_4.2.2.Key, t_4.2.2.Value, t_4.2.2.Rights, t_4.2.2.Most, t_4.2.2.Flag⟩ : Rq))) (some (z_7.2.2.2, (⟨t_4.2.2.Kind, t_4.2.2.Space, t_4.2.2.Handle, (⟨IntKind.i64.wrap (z_7.2.2.1), t_4.2.2.Ref.Gen⟩ : Rf), t_4.2.2.To, t_4.2.2.Key, t_4.2.2.Value, t_4.2.2.Rights, t_4.2.2.Most, t_4.2.2.Flag⟩ : Rq)))))))))))) fun z_6 => some (.inl (IntKind.i64.wrap (t_4.1 + 1), z_6.1, z_6.2))) (some (.inr (t_4.2.1, t_4.2.2)))
def F_qdec2 (fl : Nat) (p0 : (List Int)) : Option (Rq × Int) :=
  bnd (oDByte (⟨p0, false⟩ : Rdr)) fun x_1 => bnd (F_qform2 x_1.2) fun x_2 => bnd (lp (F_qdec2_b0 x_2) fl (0, x_1.1, (⟨x_1.2, 0, 0, (⟨0, 0⟩ : Rf), 0, ⟨#[]⟩, ⟨#[]⟩, 0, 0, false⟩ : Rq))) fun z_3 => bnd (F_qenc2 fl z_3.2) fun x_14 => ifb ((z_3.1.wrong_ || (decide (x_14.2 ≠ 0))) || (decide ((strOf x_14.1) ≠ (strOf p0)))) (some ((⟨0, 0, 0, (⟨0, 0⟩ : Rf), 0, ⟨#[]⟩, ⟨#[]⟩, 0, 0, false⟩ : Rq), 3)) (some (z_3.2, 0))
set_option maxRecDepth 100000 in
set_option maxHeartbeats 2000000 in
theorem c_qdec2 {fl : Nat} {p0 : (List Int)} {R : Rq × Int} (h0 : F_qdec2 fl p0 = some R) : Pure Go.Proofs.Tryd.prog 67 [sl (kI .u8) none none p0] (tup [agg [pl (.int .u8 R.1.Kind), pl (.int .u64 R.1.Space), pl (.int .u64 R.1.Handle), pl (.int .i64 R.1.Ref.Slot), pl (.int .u64 R.1.Ref.Gen), pl (.int .u64 R.1.To), pl (.string R.1.Key), pl (.string R.1.Value), pl (.int .u8 R.1.Rights), pl (.int .u64 R.1.Most), pl (.bool R.1.Flag)], pl (.int .i64 R.2)]) := by
  intro s
  unfold F_qdec2 at h0
  refine ac_of_aw s.boxes.length s.fr.length Go.Proofs.Tryd.func67 rfl (by simp [Go.Proofs.Tryd.ntmps67]) ?_
  refine aw_ext0 ?_
  refine aw_keep [(0, _)] ⟨lg ez, trivial⟩ ?_
  refine aw_seq ?_
  refine aw_region (by decide) ?_
  refine rts _ rfl (allocN rfl zt114_u4b (by first | exact List.length_nil | (simp only [List.length_cons, List.length_nil, Nat.zero_add, Nat.reduceAdd] <;> rfl)) (by simp only [na, nb, nc, nd, nf, ng, nh, ni, nj, nk] <;> rfl)) ?_
  refine rts _ rfl (opD_assign (ev_const _ _)) ?_
  refine .nil ?_
  refine aw_keep [(0, _), (2, _)] ⟨lg (ls rfl (ls rfl oz)), lg (ls rfl lz), trivial⟩ ?_
  refine aw_seq ?_
  refine aw_region (by decide) ?_
  refine rts _ rfl (opD_move oz) ?_
  refine rts _ rfl (opD_build_struct (rs := [_, _]) Go.Proofs.Tryd.underlying41 pt41_u4b zt41_u4b (parts_cons (cells1 lz (one_sl _ _ _ _)) parts_nil) rfl) ?_
  replace h0 := bnd_some h0
  obtain ⟨x_1, hx_1, h0⟩ := h0
  refine rts _ rfl (opD_pure ht31_u4b (c_oDByte hx_1) ⟨(le_of_eq lz).trans (agg_le ⟨(Pd.le_refl _), (Pd.le_refl _), trivial⟩), trivial⟩) ?_
  refine rts _ rfl (opD_move lz) ?_
  refine rts _ rfl (opD_extract lz rfl) ?_
  refine rts _ rfl (opD_extract (ls rfl lz) rfl) ?_
  refine rts _ rfl (allocN rfl zt41_u4b (by first | exact List.length_nil | (simp only [List.length_cons, List.length_nil, Nat.zero_add, Nat.reduceAdd] <;> rfl)) (by simp only [na, nb, nc, nd, nf, ng, nh, ni, nj, nk] <;> rfl)) ?_
  refine rts _ rfl (storeAN rfl sz41_u4b lz (ls rfl (ls rfl lz)) (ones_cons (one_sl _ _ _ _) (ones_cons (one_pl rfl) ones_nil)) rfl rfl (Nat.le_of_ble_eq_true rfl) (List.cons_ne_nil _ _) (bnd_cons (sl_b (kb_I _)) (bnd_cons (pl_bnd _ _ _) bnd_nil)) (by simp only [na, nb, nc, nd, nf, ng, nh, ni, nj, nk] <;> rfl) (by simp only [na, nb, nc, nd, nf, ng, nh, ni, nj, nk] <;> rfl)) ?_
  refine rts _ rfl (opD_assign (lx (ls rfl lz))) ?_
  refine .nil ?_
  refine aw_keep [(0, _), (2, _), (4, _), (5, _)] ⟨lg (ls rfl (lx (ls rfl (ls rfl (ls rfl (ls rfl (ls rfl (ls rfl (ls rfl oz))))))))), lg (ls rfl (lx (ls rfl (ls rfl (ls rfl (ls rfl (ls rfl (ls rfl (ls rfl (os rfl oz)))))))))), lg (ls rfl (lx lz)), lg lz, trivial⟩ ?_
  refine aw_seq ?_
  refine aw_region (by decide) ?_
  refine rts _ rfl (opD_move (os rfl (os rfl (os rfl oz)))) ?_
  refine rts _ rfl (opD_build_struct (rs := [_, _, _, _, _, _, _, _, _, _, _]) Go.Proofs.Tryd.underlying114 pt114_u4b zt114_u4b (parts_cons (cells1 lz (one_pl rfl)) parts_nil) rfl) ?_
  refine rts _ rfl (allocN rfl zt114_u4b (by first | exact List.length_nil | (simp only [List.length_cons, List.length_nil, Nat.zero_add, Nat.reduceAdd] <;> rfl)) (by simp only [na, nb, nc, nd, nf, ng, nh, ni, nj, nk] <;> rfl)) ?_
  refine rts _ rfl (storeAN rfl sz114_u4b lz (ls rfl lz) (ones_cons (one_pl rfl) (ones_cons (one_pl rfl) (ones_cons (one_pl rfl) (ones_cons (one_pl rfl) (ones_cons (one_pl rfl) (ones_cons (one_pl rfl) (ones_cons (one_pl rfl) (ones_cons (one_pl rfl) (ones_cons (one_pl rfl) (ones_cons (one_pl rfl) (ones_cons (one_pl rfl) ones_nil))))))))))) rfl rfl (Nat.le_of_ble_eq_true rfl) (List.cons_ne_nil _ _) (bnd_cons (pl_bnd _ _ _) (bnd_cons (pl_bnd _ _ _) (bnd_cons (pl_bnd _ _ _) (bnd_cons (pl_bnd _ _ _) (bnd_cons (pl_bnd _ _ _) (bnd_cons (pl_bnd _ _ _) (bnd_cons (pl_bnd _ _ _) (bnd_cons (pl_bnd _ _ _) (bnd_cons (pl_bnd _ _ _) (bnd_cons (pl_bnd _ _ _) (bnd_cons (pl_bnd _ _ _) bnd_nil))))))))))) (by simp only [na, nb, nc, nd, nf, ng, nh, ni, nj, nk] <;> rfl) (by simp only [na, nb, nc, nd, nf, ng, nh, ni, nj, nk] <;> rfl)) ?_
  refine .nil ?_
  refine aw_keep [(0, _), (2, _), (4, _), (5, _), (6, _)] ⟨lg (lx (ls rfl (ls rfl (ls rfl oz)))), lg (lx (ls rfl (ls rfl (ls rfl (os rfl oz))))), lg (lx (ls rfl (ls rfl (ls rfl (os rfl (os rfl oz)))))), lg (lx (ls rfl (ls rfl (ls rfl (os rfl (os rfl (os rfl oz))))))), lg (lx lz), trivial⟩ ?_
  refine aw_seq ?_
  refine aw_region (by decide) ?_
  refine rts _ rfl (opD_move (os rfl (os rfl (os rfl oz)))) ?_
  replace h0 := bnd_some h0
  obtain ⟨x_2, hx_2, h0⟩ := h0
  refine rts _ rfl (opD_pure ht70_u4b (c_qform2 hx_2) ⟨le_of_eq lz, trivial⟩) ?_
  refine rts _ rfl (opD_assign lz) ?_
  refine .nil ?_
  refine aw_keep [(0, _), (2, _), (4, _), (6, _), (7, _)] ⟨lg (ls rfl (ls rfl (ls rfl oz))), lg (ls rfl (ls rfl (ls rfl (os rfl oz)))), lg (ls rfl (ls rfl (ls rfl (os rfl (os rfl oz))))), lg (ls rfl (ls rfl (ls rfl (os rfl (os rfl (os rfl (os rfl oz))))))), lg lz, trivial⟩ ?_
  refine aw_seq ?_
  refine aw_seq ?_
  refine aw_region (by decide) ?_
  refine rts _ rfl (opD_assign (ev_const _ _)) ?_
  refine .nil ?_
  refine aw_keep [(0, _), (2, _), (4, _), (6, _), (7, _), (8, _)] ⟨lg (ls rfl oz), lg (ls rfl (os rfl oz)), lg (ls rfl (os rfl (os rfl oz))), lg (ls rfl (os rfl (os rfl (os rfl oz)))), lg (ls rfl (os rfl (os rfl (os rfl (os rfl oz))))), lg lz, trivial⟩ ?_
  replace h0 := bnd_some h0
  obtain ⟨z_3, hz_3, h0⟩ := h0
  refine aw_mid (fun e st => ∃ v : Rdr × Rq, Holds e [(0, sl (kI .u8) none none p0), (2, ptr (s.boxes.length + 0) 0), (4, ptr (s.boxes.length + 1) 0), (6, ptr (s.boxes.length + 2) 0)] ∧ st = s.ext [⟨114, [pl (.int .u8 0), pl (.int .u64 0), pl (.int .u64 0), pl (.int .i64 0), pl (.int .u64 0), pl (.int .u64 0), pl (.string ⟨#[]⟩), pl (.string ⟨#[]⟩), pl (.int .u8 0), pl (.int .u64 0), pl (.bool false)]⟩, ⟨41, [sl (kI .u8) none none v.1.b_, pl (.bool v.1.wrong_)]⟩, ⟨114, [pl (.int .u8 v.2.Kind), pl (.int .u64 v.2.Space), pl (.int .u64 v.2.Handle), pl (.int .i64 v.2.Ref.Slot), pl (.int .u64 v.2.Ref.Gen), pl (.int .u64 v.2.To), pl (.string v.2.Key), pl (.string v.2.Value), pl (.int .u8 v.2.Rights), pl (.int .u64 v.2.Most), pl (.bool v.2.Flag)]⟩] [] ∧ v = z_3) ?_ ?_
  · skip
    refine aw_wkN rfl 3 0 rfl rfl ?_
    refine aw_block ?_
    refine aw_wkBN rfl (bs' := [⟨114, [pl (.int .u8 0), pl (.int .u64 0), pl (.int .u64 0), pl (.int .i64 0), pl (.int .u64 0), pl (.int .u64 0), pl (.string ⟨#[]⟩), pl (.string ⟨#[]⟩), pl (.int .u8 0), pl (.int .u64 0), pl (.bool false)]⟩, ⟨41, [sl (kI .u8) none none x_1.1.b_, pl (.bool x_1.1.wrong_)]⟩, ⟨114, [pl (.int .u8 ((⟨x_1.2, 0, 0, (⟨0, 0⟩ : Rf), 0, ⟨#[]⟩, ⟨#[]⟩, 0, 0, false⟩ : Rq).Kind)), pl (.int .u64 ((⟨x_1.2, 0, 0, (⟨0, 0⟩ : Rf), 0, ⟨#[]⟩, ⟨#[]⟩, 0, 0, false⟩ : Rq).Space)), pl (.int .u64 ((⟨x_1.2, 0, 0, (⟨0, 0⟩ : Rf), 0, ⟨#[]⟩, ⟨#[]⟩, 0, 0, false⟩ : Rq).Handle)), pl (.int .i64 ((⟨x_1.2, 0, 0, (⟨0, 0⟩ : Rf), 0, ⟨#[]⟩, ⟨#[]⟩, 0, 0, false⟩ : Rq).Ref.Slot)), pl (.int .u64 ((⟨x_1.2, 0, 0, (⟨0, 0⟩ : Rf), 0, ⟨#[]⟩, ⟨#[]⟩, 0, 0, false⟩ : Rq).Ref.Gen)), pl (.int .u64 ((⟨x_1.2, 0, 0, (⟨0, 0⟩ : Rf), 0, ⟨#[]⟩, ⟨#[]⟩, 0, 0, false⟩ : Rq).To)), pl (.string ((⟨x_1.2, 0, 0, (⟨0, 0⟩ : Rf), 0, ⟨#[]⟩, ⟨#[]⟩, 0, 0, false⟩ : Rq).Key)), pl (.string ((⟨x_1.2, 0, 0, (⟨0, 0⟩ : Rf), 0, ⟨#[]⟩, ⟨#[]⟩, 0, 0, false⟩ : Rq).Value)), pl (.int .u8 ((⟨x_1.2, 0, 0, (⟨0, 0⟩ : Rf), 0, ⟨#[]⟩, ⟨#[]⟩, 0, 0, false⟩ : Rq).Rights)), pl (.int .u64 ((⟨x_1.2, 0, 0, (⟨0, 0⟩ : Rf), 0, ⟨#[]⟩, ⟨#[]⟩, 0, 0, false⟩ : Rq).Most)), pl (.bool ((⟨x_1.2, 0, 0, (⟨0, 0⟩ : Rf), 0, ⟨#[]⟩, ⟨#[]⟩, 0, 0, false⟩ : Rq).Flag))]⟩]) (bxle_same (bxle_same (bxle_cons (B := ⟨114, [_, _, _, _, _, _, _, _, _, _, _]⟩) (@Eq.refl TypeId 114) (lel_cons (Pd.le_refl _) (lel_cons (Pd.le_refl _) (lel_cons (Pd.le_refl _) (lel_cons (Pd.le_refl _) (lel_cons (Pd.le_refl _) (lel_cons (Pd.le_refl _) (lel_cons (Pd.le_refl _) (lel_cons (Pd.le_refl _) (lel_cons (Pd.le_refl _) (lel_cons (Pd.le_refl _) (lel_cons (Pd.le_refl _) lel_nil))))))))))) bxle_nil))) (bl_cons (bnd_cons (pl_bnd _ _ _) (bnd_cons (pl_bnd _ _ _) (bnd_cons (pl_bnd _ _ _) (bnd_cons (pl_bnd _ _ _) (bnd_cons (pl_bnd _ _ _) (bnd_cons (pl_bnd _ _ _) (bnd_cons (pl_bnd _ _ _) (bnd_cons (pl_bnd _ _ _) (bnd_cons (pl_bnd _ _ _) (bnd_cons (pl_bnd _ _ _) (bnd_cons (pl_bnd _ _ _) bnd_nil))))))))))) (bl_cons (bnd_cons (sl_b (kb_I _)) (bnd_cons (pl_bnd _ _ _) bnd_nil)) (bl_cons (bnd_cons (pl_bnd _ _ _) (bnd_cons (pl_bnd _ _ _) (bnd_cons (pl_bnd _ _ _) (bnd_cons (pl_bnd _ _ _) (bnd_cons (pl_bnd _ _ _) (bnd_cons (pl_bnd _ _ _) (bnd_cons (pl_bnd _ _ _) (bnd_cons (pl_bnd _ _ _) (bnd_cons (pl_bnd _ _ _) (bnd_cons (pl_bnd _ _ _) (bnd_cons (pl_bnd _ _ _) bnd_nil))))))))))) bl_nil))) ?_
    refine aw_loop (fun n e st => ∃ v : Int × Rdr × Rq, Holds e [(0, sl (kI .u8) none none p0), (2, ptr (s.boxes.length + 0) 0), (4, ptr (s.boxes.length + 1) 0), (6, ptr (s.boxes.length + 2) 0), (7, pl (.string x_2)), (8, pl (.int .i64 v.1))] ∧ st = s.ext [⟨114, [pl (.int .u8 0), pl (.int .u64 0), pl (.int .u64 0), pl (.int .i64 0), pl (.int .u64 0), pl (.int .u64 0), pl (.string ⟨#[]⟩), pl (.string ⟨#[]⟩), pl (.int .u8 0), pl (.int .u64 0), pl (.bool false)]⟩, ⟨41, [sl (kI .u8) none none v.2.1.b_, pl (.bool v.2.1.wrong_)]⟩, ⟨114, [pl (.int .u8 v.2.2.Kind), pl (.int .u64 v.2.2.Space), pl (.int .u64 v.2.2.Handle), pl (.int .i64 v.2.2.Ref.Slot), pl (.int .u64 v.2.2.Ref.Gen), pl (.int .u64 v.2.2.To), pl (.string v.2.2.Key), pl (.string v.2.2.Value), pl (.int .u8 v.2.2.Rights), pl (.int .u64 v.2.2.Most), pl (.bool v.2.2.Flag)]⟩] [] ∧ lp (F_qdec2_b0 x_2) n v = some z_3) fl ⟨(0, x_1.1, (⟨x_1.2, 0, 0, (⟨0, 0⟩ : Rf), 0, ⟨#[]⟩, ⟨#[]⟩, 0, 0, false⟩ : Rq)), ⟨le_of_eq (eg oz), le_of_eq (eg (os rfl oz)), le_of_eq (eg (os rfl (os rfl oz))), le_of_eq (eg (os rfl (os rfl (os rfl oz)))), le_of_eq (eg (os rfl (os rfl (os rfl (os rfl oz))))), le_of_eq (eg (os rfl (os rfl (os rfl (os rfl (os rfl oz)))))), trivial⟩, rfl, hz_3⟩ ?_
    rintro n e st ⟨t_4, hH, rfl, hz_3⟩
    replace hz_3 := lp_some hz_3
    obtain ⟨m_z_5, z_5, rfl, hz_5, hz_3⟩ := hz_3
    unfold F_qdec2_b0 at hz_5
    refine aw_keep _ hH ?_
    refine aw_wkN rfl 3 0 rfl rfl ?_
    refine aw_seq ?_
    refine aw_seq ?_
    refine aw_region (by decide) ?_
    refine rts _ rfl (opD_move (os rfl (os rfl (os rfl (os rfl (os rfl oz)))))) ?_
    refine rts _ rfl (opD_move (ls rfl (os rfl (os rfl (os rfl (os rfl oz)))))) ?_
    refine rts _ rfl (opD_len_str Go.Proofs.Tryd.underlying9 lz) ?_
    refine rts _ rfl (opD_lss (ls rfl (ls rfl lz)) lz) ?_
    refine rts _ rfl (opD_move lz) ?_
    refine rtg _ rfl lz (fun hg5_5_22 => opD_fieldAddr fo41_1_u4b (ls rfl (ls rfl (ls rfl (ls rfl (ls rfl (os rfl (os rfl oz)))))))) ?_
    refine rtg _ rfl (ls rfl lz) (fun hg5_6_23 => opD_load_one ag4_u4b (lz.trans (pif_pos hg5_6_23)) (loc_getN rfl rfl) rfl) ?_
    refine rtg _ rfl (ls rfl (ls rfl lz)) (fun hg5_7_24 => opD_not (lz.trans (pif_pos hg5_7_24))) ?_
    refine rts _ rfl (opD_and (ls rfl (ls rfl (ls rfl lz))) lz) ?_
    refine .nil ?_
    refine aw_keep [(0, _), (2, _), (4, _), (6, _), (7, _), (8, _), (32, _)] ⟨lg (ls rfl (ls rfl (ls rfl (ls rfl (ls rfl (ls rfl (ls rfl (ls rfl (ls rfl oz))))))))), lg (ls rfl (ls rfl (ls rfl (ls rfl (ls rfl (ls rfl (ls rfl (ls rfl (ls rfl (os rfl oz)))))))))), lg (ls rfl (ls rfl (ls rfl (ls rfl (ls rfl (ls rfl (ls rfl (ls rfl (ls rfl (os rfl (os rfl oz))))))))))), lg (ls rfl (ls rfl (ls rfl (ls rfl (ls rfl (ls rfl (ls rfl (ls rfl (ls rfl (os rfl (os rfl (os rfl oz)))))))))))), lg (ls rfl (ls rfl (ls rfl (ls rfl (ls rfl (ls rfl (ls rfl (ls rfl (ls rfl (os rfl (os rfl (os rfl (os rfl oz))))))))))))), lg (ls rfl (ls rfl (ls rfl (ls rfl (ls rfl (ls rfl (ls rfl (ls rfl (ls rfl (os rfl (os rfl (os rfl (os rfl (os rfl oz)))))))))))))), lg lz, trivial⟩ ?_
    refine aw_cond _ (os rfl (os rfl (os rfl (os rfl (os rfl (os rfl oz)))))) (fun hc => ?_) (fun hc => ?_)
    · skip
      replace hz_5 := ifb_t hz_5 hc
      clear hc
      refine aw_skip ?_
      refine aw_keep [(0, _), (2, _), (4, _), (6, _), (7, _), (8, _)] ⟨lg oz, lg (os rfl oz), lg (os rfl (os rfl oz)), lg (os rfl (os rfl (os rfl oz))), lg (os rfl (os rfl (os rfl (os rfl oz)))), lg (os rfl (os rfl (os rfl (os rfl (os rfl oz))))), trivial⟩ ?_
      refine aw_seq ?_
      replace hz_5 := bnd_some hz_5
      obtain ⟨z_6, hz_6, hz_5⟩ := hz_5
      refine aw_mid (fun e st => ∃ v : Rdr × Rq, Holds e [(0, sl (kI .u8) none none p0), (2, ptr (s.boxes.length + 0) 0), (4, ptr (s.boxes.length + 1) 0), (6, ptr (s.boxes.length + 2) 0), (7, pl (.string x_2)), (8, pl (.int .i64 t_4.1))] ∧ st = s.ext [⟨114, [pl (.int .u8 0), pl (.int .u64 0), pl (.int .u64 0), pl (.int .i64 0), pl (.int .u64 0), pl (.int .u64 0), pl (.string ⟨#[]⟩), pl (.string ⟨#[]⟩), pl (.int .u8 0), pl (.int .u64 0), pl (.bool false)]⟩, ⟨41, [sl (kI .u8) none none v.1.b_, pl (.bool v.1.wrong_)]⟩, ⟨114, [pl (.int .u8 v.2.Kind), pl (.int .u64 v.2.Space), pl (.int .u64 v.2.Handle), pl (.int .i64 v.2.Ref.Slot), pl (.int .u64 v.2.Ref.Gen), pl (.int .u64 v.2.To), pl (.string v.2.Key), pl (.string v.2.Value), pl (.int .u8 v.2.Rights), pl (.int .u64 v.2.Most), pl (.bool v.2.Flag)]⟩] [] ∧ v = z_6) ?_ ?_
      · skip
        refine aw_wkN rfl 3 0 rfl rfl ?_
        refine aw_block ?_
        refine aw_seq ?_
        refine aw_region (by decide) ?_
        refine rts _ rfl (opD_assign (ev_const _ _)) ?_
        refine .nil ?_
        refine aw_keep [(0, _), (2, _), (4, _), (6, _), (7, _), (8, _), (9, _)] ⟨lg (ls rfl oz), lg (ls rfl (os rfl oz)), lg (ls rfl (os rfl (os rfl oz))), lg (ls rfl (os rfl (os rfl (os rfl oz)))), lg (ls rfl (os rfl (os rfl (os rfl (os rfl oz))))), lg (ls rfl (os rfl (os rfl (os rfl (os rfl (os rfl oz)))))), lg lz, trivial⟩ ?_
        refine aw_seq ?_
        refine aw_region (by decide) ?_
        refine rts _ rfl (opD_assign (ev_const _ _)) ?_
        refine .nil ?_
        refine aw_keep [(0, _), (2, _), (4, _), (6, _), (7, _), (8, _), (9, _), (10, _)] ⟨lg (ls rfl oz), lg (ls rfl (os rfl oz)), lg (ls rfl (os rfl (os rfl oz))), lg (ls rfl (os rfl (os rfl (os rfl oz)))), lg (ls rfl (os rfl (os rfl (os rfl (os rfl oz))))), lg (ls rfl (os rfl (os rfl (os rfl (os rfl (os rfl oz)))))), lg (ls rfl (os rfl (os rfl (os rfl (os rfl (os rfl (os rfl oz))))))), lg lz, trivial⟩ ?_
        refine aw_seq ?_
        refine aw_region (by decide) ?_
        refine rts _ rfl (opD_assign (ev_const _ _)) ?_
        refine .nil ?_
        refine aw_keep [(0, _), (2, _), (4, _), (6, _), (7, _), (8, _), (9, _), (10, _), (11, _)] ⟨lg (ls rfl oz), lg (ls rfl (os rfl oz)), lg (ls rfl (os rfl (os rfl oz))), lg (ls rfl (os rfl (os rfl (os rfl oz)))), lg (ls rfl (os rfl (os rfl (os rfl (os rfl oz))))), lg (ls rfl (os rfl (os rfl (os rfl (os rfl (os rfl oz)))))), lg (ls rfl (os rfl (os rfl (os rfl (os rfl (os rfl (os rfl oz))))))), lg (ls rfl (os rfl (os rfl (os rfl (os rfl (os rfl (os rfl (os rfl oz)))))))), lg lz, trivial⟩ ?_
        refine aw_seq ?_
        refine aw_seq ?_
        refine aw_region (by decide) ?_
        refine rts _ rfl (opD_move (os rfl (os rfl (os rfl (os rfl oz))))) ?_
        refine rts _ rfl (opD_move (ls rfl (os rfl (os rfl (os rfl (os rfl (os rfl oz))))))) ?_
        replace hz_6 := grd_some hz_6
        obtain ⟨hg_27, hz_6⟩ := hz_6
        refine rts _ rfl (opD_index_str Go.Proofs.Tryd.underlying9 (ls rfl lz) lz hg_27) ?_
        refine .nil ?_
        refine aw_keep [(0, _), (2, _), (4, _), (6, _), (7, _), (8, _), (9, _), (10, _), (11, _), (37, _)] ⟨lg (ls rfl (ls rfl (ls rfl oz))), lg (ls rfl (ls rfl (ls rfl (os rfl oz)))), lg (ls rfl (ls rfl (ls rfl (os rfl (os rfl oz))))), lg (ls rfl (ls rfl (ls rfl (os rfl (os rfl (os rfl oz)))))), lg (ls rfl (ls rfl (ls rfl (os rfl (os rfl (os rfl (os rfl oz))))))), lg (ls rfl (ls rfl (ls rfl (os rfl (os rfl (os rfl (os rfl (os rfl oz)))))))), lg (ls rfl (ls rfl (ls rfl (os rfl (os rfl (os rfl (os rfl (os rfl (os rfl oz))))))))), lg (ls rfl (ls rfl (ls rfl (os rfl (os rfl (os rfl (os rfl (os rfl (os rfl (os rfl oz)))))))))), lg (ls rfl (ls rfl (ls rfl (os rfl (os rfl (os rfl (os rfl (os rfl (os rfl (os rfl (os rfl oz))))))))))), lg lz, trivial⟩ ?_
        replace hz_6 := bnd_some hz_6
        obtain ⟨z_7, hz_7, hz_6⟩ := hz_6
        refine aw_mid (fun e st => ∃ v : Int × (List Int) × Int × Rdr, Holds e [(0, sl (kI .u8) none none p0), (2, ptr (s.boxes.length + 0) 0), (4, ptr (s.boxes.length + 1) 0), (6, ptr (s.boxes.length + 2) 0), (7, pl (.string x_2)), (8, pl (.int .i64 t_4.1)), (9, pl (.int .u64 v.1)), (10, sl (kI .u8) none none v.2.1), (11, pl (.int .u8 v.2.2.1))] ∧ st = s.ext [⟨114, [pl (.int .u8 0), pl (.int .u64 0), pl (.int .u64 0), pl (.int .i64 0), pl (.int .u64 0), pl (.int .u64 0), pl (.string ⟨#[]⟩), pl (.string ⟨#[]⟩), pl (.int .u8 0), pl (.int .u64 0), pl (.bool false)]⟩, ⟨41, [sl (kI .u8) none none v.2.2.2.b_, pl (.bool v.2.2.2.wrong_)]⟩, ⟨114, [pl (.int .u8 t_4.2.2.Kind), pl (.int .u64 t_4.2.2.Space), pl (.int .u64 t_4.2.2.Handle), pl (.int .i64 t_4.2.2.Ref.Slot), pl (.int .u64 t_4.2.2.Ref.Gen), pl (.int .u64 t_4.2.2.To), pl (.string t_4.2.2.Key), pl (.string t_4.2.2.Value), pl (.int .u8 t_4.2.2.Rights), pl (.int .u64 t_4.2.2.Most), pl (.bool t_4.2.2.Flag)]⟩] [] ∧ v = z_7) ?_ ?_
        · skip
          refine aw_wkN rfl 3 0 rfl rfl ?_
          refine aw_block ?_
          refine aw_seq ?_
          refine aw_seq ?_
          refine aw_region (by decide) ?_
          refine rts _ rfl (opD_eql (os rfl (os rfl (os rfl (os rfl (os rfl (os rfl (os rfl (os rfl (os rfl oz))))))))) (ev_const _ _)) ?_
          refine rts _ rfl (opD_assign lz) ?_
          refine .nil ?_
          refine aw_keep [(0, _), (2, _), (4, _), (6, _), (7, _), (8, _), (9, _), (10, _), (11, _), (37, _), (43, _)] ⟨lg (ls rfl (ls rfl oz)), lg (ls rfl (ls rfl (os rfl oz))), lg (ls rfl (ls rfl (os rfl (os rfl oz)))), lg (ls rfl (ls rfl (os rfl (os rfl (os rfl oz))))), lg (ls rfl (ls rfl (os rfl (os rfl (os rfl (os rfl oz)))))), lg (ls rfl (ls rfl (os rfl (os rfl (os rfl (os rfl (os rfl oz))))))), lg (ls rfl (ls rfl (os rfl (os rfl (os rfl (os rfl (os rfl (os rfl oz)))))))), lg (ls rfl (ls rfl (os rfl (os rfl (os rfl (os rfl (os rfl (os rfl (os rfl oz))))))))), lg (ls rfl (ls rfl (os rfl (os rfl (os rfl (os rfl (os rfl (os rfl (os rfl (os rfl oz)))))))))), lg (ls rfl (ls rfl (os rfl (os rfl (os rfl (os rfl (os rfl (os rfl (os rfl (os rfl (os rfl oz))))))))))), lg lz, trivial⟩ ?_
          replace hz_7 := bnd_some hz_7
          obtain ⟨z_8, hz_8, hz_7⟩ := hz_7
          refine aw_mid (fun e st => ∃ v : Bool, Holds e [(0, sl (kI .u8) none none p0), (2, ptr (s.boxes.length + 0) 0), (4, ptr (s.boxes.length + 1) 0), (6, ptr (s.boxes.length + 2) 0), (7, pl (.string x_2)), (8, pl (.int .i64 t_4.1)), (9, pl (.int .u64 0)), (10, pl (.slice none 0 0)), (11, pl (.int .u8 0)), (37, pl (.int .u8 (byteAt x_2 t_4.1))), (43, pl (.bool v))] ∧ st = s.ext [⟨114, [pl (.int .u8 0), pl (.int .u64 0), pl (.int .u64 0), pl (.int .i64 0), pl (.int .u64 0), pl (.int .u64 0), pl (.string ⟨#[]⟩), pl (.string ⟨#[]⟩), pl (.int .u8 0), pl (.int .u64 0), pl (.bool false)]⟩, ⟨41, [sl (kI .u8) none none t_4.2.1.b_, pl (.bool t_4.2.1.wrong_)]⟩, ⟨114, [pl (.int .u8 t_4.2.2.Kind), pl (.int .u64 t_4.2.2.Space), pl (.int .u64 t_4.2.2.Handle), pl (.int .i64 t_4.2.2.Ref.Slot), pl (.int .u64 t_4.2.2.Ref.Gen), pl (.int .u64 t_4.2.2.To), pl (.string t_4.2.2.Key), pl (.string t_4.2.2.Value), pl (.int .u8 t_4.2.2.Rights), pl (.int .u64 t_4.2.2.Most), pl (.bool t_4.2.2.Flag)]⟩] [] ∧ v = z_8) ?_ ?_
          · skip
            refine aw_wkN rfl 3 0 rfl rfl ?_
            refine aw_cond _ (os rfl (os rfl (os rfl (os rfl (os rfl (os rfl (os rfl (os rfl (os rfl (os rfl oz)))))))))) (fun hc => ?_) (fun hc => ?_)
            · skip
              replace hz_8 := ifb_t hz_8 hc
              clear hc
              refine aw_skip ?_
              refine wk_yesN rfl (l := [(0, sl (kI .u8) none none p0), (2, ptr (s.boxes.length + 0) 0), (4, ptr (s.boxes.length + 1) 0), (6, ptr (s.boxes.length + 2) 0), (7, pl (.string x_2)), (8, pl (.int .i64 t_4.1)), (9, pl (.int .u64 0)), (10, pl (.slice none 0 0)), (11, pl (.int .u8 0)), (37, pl (.int .u8 (byteAt x_2 t_4.1))), (43, pl (.bool (decide ((byteAt x_2 t_4.1) = 115))))]) (bs' := [⟨114, [pl (.int .u8 0), pl (.int .u64 0), pl (.int .u64 0), pl (.int .i64 0), pl (.int .u64 0), pl (.int .u64 0), pl (.string ⟨#[]⟩), pl (.string ⟨#[]⟩), pl (.int .u8 0), pl (.int .u64 0), pl (.bool false)]⟩, ⟨41, [sl (kI .u8) none none t_4.2.1.b_, pl (.bool t_4.2.1.wrong_)]⟩, ⟨114, [pl (.int .u8 t_4.2.2.Kind), pl (.int .u64 t_4.2.2.Space), pl (.int .u64 t_4.2.2.Handle), pl (.int .i64 t_4.2.2.Ref.Slot), pl (.int .u64 t_4.2.2.Ref.Gen), pl (.int .u64 t_4.2.2.To), pl (.string t_4.2.2.Key), pl (.string t_4.2.2.Value), pl (.int .u8 t_4.2.2.Rights), pl (.int .u64 t_4.2.2.Most), pl (.bool t_4.2.2.Flag)]⟩]) ⟨le_of_eq (eg oz), le_of_eq (eg (os rfl oz)), le_of_eq (eg (os rfl (os rfl oz))), le_of_eq (eg (os rfl (os rfl (os rfl oz)))), le_of_eq (eg (os rfl (os rfl (os rfl (os rfl oz))))), le_of_eq (eg (os rfl (os rfl (os rfl (os rfl (os rfl oz)))))), le_of_eq (eg (os rfl (os rfl (os rfl (os rfl (os rfl (os rfl oz))))))), le_of_eq (eg (os rfl (os rfl (os rfl (os rfl (os rfl (os rfl (os rfl oz)))))))), le_of_eq (eg (os rfl (os rfl (os rfl (os rfl (os rfl (os rfl (os rfl (os rfl oz))))))))), le_of_eq (eg (os rfl (os rfl (os rfl (os rfl (os rfl (os rfl (os rfl (os rfl (os rfl oz)))))))))), le_of_eq (eg (os rfl (os rfl (os rfl (os rfl (os rfl (os rfl (os rfl (os rfl (os rfl (os rfl oz))))))))))), trivial⟩ (bnd_cons (sl_b (kb_I _)) (bnd_cons (ptr_bnd _ (by first | omega | (simp only [List.length_append, List.length_cons, List.length_nil]; omega))) (bnd_cons (ptr_bnd _ (by first | omega | (simp only [List.length_append, List.length_cons, List.length_nil]; omega))) (bnd_cons (ptr_bnd _ (by first | omega | (simp only [List.length_append, List.length_cons, List.length_nil]; omega))) (bnd_cons (pl_bnd _ _ _) (bnd_cons (pl_bnd _ _ _) (bnd_cons (pl_bnd _ _ _) (bnd_cons (pl_bnd _ _ _) (bnd_cons (pl_bnd _ _ _) (bnd_cons (pl_bnd _ _ _) (bnd_cons (pl_bnd _ _ _) bnd_nil))))))))))) (Nat.le_of_ble_eq_true rfl) (by simp only [na, nb, nc, nd, nf, ng, nh, ni, nj, nk] <;> rfl) (bxle_same (bxle_same (bxle_same bxle_nil))) rfl (by simp only [na, nb, nc, nd, nf, ng, nh, ni, nj, nk] <;> rfl) (bl_cons (bnd_cons (pl_bnd _ _ _) (bnd_cons (pl_bnd _ _ _) (bnd_cons (pl_bnd _ _ _) (bnd_cons (pl_bnd _ _ _) (bnd_cons (pl_bnd _ _ _) (bnd_cons (pl_bnd _ _ _) (bnd_cons (pl_bnd _ _ _) (bnd_cons (pl_bnd _ _ _) (bnd_cons (pl_bnd _ _ _) (bnd_cons (pl_bnd _ _ _) (bnd_cons (pl_bnd _ _ _) bnd_nil))))))))))) (bl_cons (bnd_cons (sl_b (kb_I _)) (bnd_cons (pl_bnd _ _ _) bnd_nil)) (bl_cons (bnd_cons (pl_bnd _ _ _) (bnd_cons (pl_bnd _ _ _) (bnd_cons (pl_bnd _ _ _) (bnd_cons (pl_bnd _ _ _) (bnd_cons (pl_bnd _ _ _) (bnd_cons (pl_bnd _ _ _) (bnd_cons (pl_bnd _ _ _) (bnd_cons (pl_bnd _ _ _) (bnd_cons (pl_bnd _ _ _) (bnd_cons (pl_bnd _ _ _) (bnd_cons (pl_bnd _ _ _) bnd_nil))))))))))) bl_nil))) ?_
              exact ⟨(decide ((byteAt x_2 t_4.1) = 115)), ⟨le_of_eq (eg oz), le_of_eq (eg (os rfl oz)), le_of_eq (eg (os rfl (os rfl oz))), le_of_eq (eg (os rfl (os rfl (os rfl oz)))), le_of_eq (eg (os rfl (os rfl (os rfl (os rfl oz))))), le_of_eq (eg (os rfl (os rfl (os rfl (os rfl (os rfl oz)))))), le_of_eq (eg (os rfl (os rfl (os rfl (os rfl (os rfl (os rfl oz))))))), le_of_eq (eg (os rfl (os rfl (os rfl (os rfl (os rfl (os rfl (os rfl oz)))))))), le_of_eq (eg (os rfl (os rfl (os rfl (os rfl (os rfl (os rfl (os rfl (os rfl oz))))))))), le_of_eq (eg (os rfl (os rfl (os rfl (os rfl (os rfl (os rfl (os rfl (os rfl (os rfl oz)))))))))), le_of_eq (eg (os rfl (os rfl (os rfl (os rfl (os rfl (os rfl (os rfl (os rfl (os rfl (os rfl oz))))))))))), trivial⟩, rfl, some_of hz_8⟩
            · skip
              replace hz_8 := ifb_f hz_8 hc
              clear hc
              refine aw_seq ?_
              refine aw_region (by decide) ?_
              refine rts _ rfl (opD_eql (os rfl (os rfl (os rfl (os rfl (os rfl (os rfl (os rfl (os rfl (os rfl oz))))))))) (ev_const _ _)) ?_
              refine rts _ rfl (opD_assign lz) ?_
              refine .nil ?_
              refine aw_keep [(0, _), (2, _), (4, _), (6, _), (7, _), (8, _), (9, _), (10, _), (11, _), (37, _), (43, _)] ⟨lg (ls rfl (ls rfl oz)), lg (ls rfl (ls rfl (os rfl oz))), lg (ls rfl (ls rfl (os rfl (os rfl oz)))), lg (ls rfl (ls rfl (os rfl (os rfl (os rfl oz))))), lg (ls rfl (ls rfl (os rfl (os rfl (os rfl (os rfl oz)))))), lg (ls rfl (ls rfl (os rfl (os rfl (os rfl (os rfl (os rfl oz))))))), lg (ls rfl (ls rfl (os rfl (os rfl (os rfl (os rfl (os rfl (os rfl oz)))))))), lg (ls rfl (ls rfl (os rfl (os rfl (os rfl (os rfl (os rfl (os rfl (os rfl oz))))))))), lg (ls rfl (ls rfl (os rfl (os rfl (os rfl (os rfl (os rfl (os rfl (os rfl (os rfl oz)))))))))), lg (ls rfl (ls rfl (os rfl (os rfl (os rfl (os rfl (os rfl (os rfl (os rfl (os rfl (os rfl oz))))))))))), lg lz, trivial⟩ ?_
              refine aw_cond _ (os rfl (os rfl (os rfl (os rfl (os rfl (os rfl (os rfl (os rfl (os rfl (os rfl oz)))))))))) (fun hc => ?_) (fun hc => ?_)
              · skip
                replace hz_8 := ifb_t hz_8 hc
                clear hc
                refine aw_skip ?_
                refine wk_yesN rfl (l := [(0, sl (kI .u8) none none p0), (2, ptr (s.boxes.length + 0) 0), (4, ptr (s.boxes.length + 1) 0), (6, ptr (s.boxes.length + 2) 0), (7, pl (.string x_2)), (8, pl (.int .i64 t_4.1)), (9, pl (.int .u64 0)), (10, pl (.slice none 0 0)), (11, pl (.int .u8 0)), (37, pl (.int .u8 (byteAt x_2 t_4.1))), (43, pl (.bool (decide ((byteAt x_2 t_4.1) = 104))))]) (bs' := [⟨114, [pl (.int .u8 0), pl (.int .u64 0), pl (.int .u64 0), pl (.int .i64 0), pl (.int .u64 0), pl (.int .u64 0), pl (.string ⟨#[]⟩), pl (.string ⟨#[]⟩), pl (.int .u8 0), pl (.int .u64 0), pl (.bool false)]⟩, ⟨41, [sl (kI .u8) none none t_4.2.1.b_, pl (.bool t_4.2.1.wrong_)]⟩, ⟨114, [pl (.int .u8 t_4.2.2.Kind), pl (.int .u64 t_4.2.2.Space), pl (.int .u64 t_4.2.2.Handle), pl (.int .i64 t_4.2.2.Ref.Slot), pl (.int .u64 t_4.2.2.Ref.Gen), pl (.int .u64 t_4.2.2.To), pl (.string t_4.2.2.Key), pl (.string t_4.2.2.Value), pl (.int .u8 t_4.2.2.Rights), pl (.int .u64 t_4.2.2.Most), pl (.bool t_4.2.2.Flag)]⟩]) ⟨le_of_eq (eg oz), le_of_eq (eg (os rfl oz)), le_of_eq (eg (os rfl (os rfl oz))), le_of_eq (eg (os rfl (os rfl (os rfl oz)))), le_of_eq (eg (os rfl (os rfl (os rfl (os rfl oz))))), le_of_eq (eg (os rfl (os rfl (os rfl (os rfl (os rfl oz)))))), le_of_eq (eg (os rfl (os rfl (os rfl (os rfl (os rfl (os rfl oz))))))), le_of_eq (eg (os rfl (os rfl (os rfl (os rfl (os rfl (os rfl (os rfl oz)))))))), le_of_eq (eg (os rfl (os rfl (os rfl (os rfl (os rfl (os rfl (os rfl (os rfl oz))))))))), le_of_eq (eg (os rfl (os rfl (os rfl (os rfl (os rfl (os rfl (os rfl (os rfl (os rfl oz)))))))))), le_of_eq (eg (os rfl (os rfl (os rfl (os rfl (os rfl (os rfl (os rfl (os rfl (os rfl (os rfl oz))))))))))), trivial⟩ (bnd_cons (sl_b (kb_I _)) (bnd_cons (ptr_bnd _ (by first | omega | (simp only [List.length_append, List.length_cons, List.length_nil]; omega))) (bnd_cons (ptr_bnd _ (by first | omega | (simp only [List.length_append, List.length_cons, List.length_nil]; omega))) (bnd_cons (ptr_bnd _ (by first | omega | (simp only [List.length_append, List.length_cons, List.length_nil]; omega))) (bnd_cons (pl_bnd _ _ _) (bnd_cons (pl_bnd _ _ _) (bnd_cons (pl_bnd _ _ _) (bnd_cons (pl_bnd _ _ _) (bnd_cons (pl_bnd _ _ _) (bnd_cons (pl_bnd _ _ _) (bnd_cons (pl_bnd _ _ _) bnd_nil))))))))))) (Nat.le_of_ble_eq_true rfl) (by simp only [na, nb, nc, nd, nf, ng, nh, ni, nj, nk] <;> rfl) (bxle_same (bxle_same (bxle_same bxle_nil))) rfl (by simp only [na, nb, nc, nd, nf, ng, nh, ni, nj, nk] <;> rfl) (bl_cons (bnd_cons (pl_bnd _ _ _) (bnd_cons (pl_bnd _ _ _) (bnd_cons (pl_bnd _ _ _) (bnd_cons (pl_bnd _ _ _) (bnd_cons (pl_bnd _ _ _) (bnd_cons (pl_bnd _ _ _) (bnd_cons (pl_bnd _ _ _) (bnd_cons (pl_bnd _ _ _) (bnd_cons (pl_bnd _ _ _) (bnd_cons (pl_bnd _ _ _) (bnd_cons (pl_bnd _ _ _) bnd_nil))))))))))) (bl_cons (bnd_cons (sl_b (kb_I _)) (bnd_cons (pl_bnd _ _ _) bnd_nil)) (bl_cons (bnd_cons (pl_bnd _ _ _) (bnd_cons (pl_bnd _ _ _) (bnd_cons (pl_bnd _ _ _) (bnd_cons (pl_bnd _ _ _) (bnd_cons (pl_bnd _ _ _) (bnd_cons (pl_bnd _ _ _) (bnd_cons (pl_bnd _ _ _) (bnd_cons (pl_bnd _ _ _) (bnd_cons (pl_bnd _ _ _) (bnd_cons (pl_bnd _ _ _) (bnd_cons (pl_bnd _ _ _) bnd_nil))))))))))) bl_nil))) ?_
                exact ⟨(decide ((byteAt x_2 t_4.1) = 104)), ⟨le_of_eq (eg oz), le_of_eq (eg (os rfl oz)), le_of_eq (eg (os rfl (os rfl oz))), le_of_eq (eg (os rfl (os rfl (os rfl oz)))), le_of_eq (eg (os rfl (os rfl (os rfl (os rfl oz))))), le_of_eq (eg (os rfl (os rfl (os rfl (os rfl (os rfl oz)))))), le_of_eq (eg (os rfl (os rfl (os rfl (os rfl (os rfl (os rfl oz))))))), le_of_eq (eg (os rfl (os rfl (os rfl (os rfl (os rfl (os rfl (os rfl oz)))))))), le_of_eq (eg (os rfl (os rfl (os rfl (os rfl (os rfl (os rfl (os rfl (os rfl oz))))))))), le_of_eq (eg (os rfl (os rfl (os rfl (os rfl (os rfl (os rfl (os rfl (os rfl (os rfl oz)))))))))), le_of_eq (eg (os rfl (os rfl (os rfl (os rfl (os rfl (os rfl (os rfl (os rfl (os rfl (os rfl oz))))))))))), trivial⟩, rfl, some_of hz_8⟩
              · skip
                replace hz_8 := ifb_f hz_8 hc
                clear hc
                refine aw_seq ?_
                refine aw_region (by decide) ?_
                refine rts _ rfl (opD_eql (os rfl (os rfl (os rfl (os rfl (os rfl (os rfl (os rfl (os rfl (os rfl oz))))))))) (ev_const _ _)) ?_
                refine rts _ rfl (opD_assign lz) ?_
                refine .nil ?_
                refine aw_keep [(0, _), (2, _), (4, _), (6, _), (7, _), (8, _), (9, _), (10, _), (11, _), (37, _), (43, _)] ⟨lg (ls rfl (ls rfl oz)), lg (ls rfl (ls rfl (os rfl oz))), lg (ls rfl (ls rfl (os rfl (os rfl oz)))), lg (ls rfl (ls rfl (os rfl (os rfl (os rfl oz))))), lg (ls rfl (ls rfl (os rfl (os rfl (os rfl (os rfl oz)))))), lg (ls rfl (ls rfl (os rfl (os rfl (os rfl (os rfl (os rfl oz))))))), lg (ls rfl (ls rfl (os rfl (os rfl (os rfl (os rfl (os rfl (os rfl oz)))))))), lg (ls rfl (ls rfl (os rfl (os rfl (os rfl (os rfl (os rfl (os rfl (os rfl oz))))))))), lg (ls rfl (ls rfl (os rfl (os rfl (os rfl (os rfl (os rfl (os rfl (os rfl (os rfl oz)))))))))), lg (ls rfl (ls rfl (os rfl (os rfl (os rfl (os rfl (os rfl (os rfl (os rfl (os rfl (os rfl oz))))))))))), lg lz, trivial⟩ ?_
                refine aw_cond _ (os rfl (os rfl (os rfl (os rfl (os rfl (os rfl (os rfl (os rfl (os rfl (os rfl oz)))))))))) (fun hc => ?_) (fun hc => ?_)
                · skip
                  replace hz_8 := ifb_t hz_8 hc
                  clear hc
                  refine aw_skip ?_
                  refine wk_yesN rfl (l := [(0, sl (kI .u8) none none p0), (2, ptr (s.boxes.length + 0) 0), (4, ptr (s.boxes.length + 1) 0), (6, ptr (s.boxes.length + 2) 0), (7, pl (.string x_2)), (8, pl (.int .i64 t_4.1)), (9, pl (.int .u64 0)), (10, pl (.slice none 0 0)), (11, pl (.int .u8 0)), (37, pl (.int .u8 (byteAt x_2 t_4.1))), (43, pl (.bool (decide ((byteAt x_2 t_4.1) = 116))))]) (bs' := [⟨114, [pl (.int .u8 0), pl (.int .u64 0), pl (.int .u64 0), pl (.int .i64 0), pl (.int .u64 0), pl (.int .u64 0), pl (.string ⟨#[]⟩), pl (.string ⟨#[]⟩), pl (.int .u8 0), pl (.int .u64 0), pl (.bool false)]⟩, ⟨41, [sl (kI .u8) none none t_4.2.1.b_, pl (.bool t_4.2.1.wrong_)]⟩, ⟨114, [pl (.int .u8 t_4.2.2.Kind), pl (.int .u64 t_4.2.2.Space), pl (.int .u64 t_4.2.2.Handle), pl (.int .i64 t_4.2.2.Ref.Slot), pl (.int .u64 t_4.2.2.Ref.Gen), pl (.int .u64 t_4.2.2.To), pl (.string t_4.2.2.Key), pl (.string t_4.2.2.Value), pl (.int .u8 t_4.2.2.Rights), pl (.int .u64 t_4.2.2.Most), pl (.bool t_4.2.2.Flag)]⟩]) ⟨le_of_eq (eg oz), le_of_eq (eg (os rfl oz)), le_of_eq (eg (os rfl (os rfl oz))), le_of_eq (eg (os rfl (os rfl (os rfl oz)))), le_of_eq (eg (os rfl (os rfl (os rfl (os rfl oz))))), le_of_eq (eg (os rfl (os rfl (os rfl (os rfl (os rfl oz)))))), le_of_eq (eg (os rfl (os rfl (os rfl (os rfl (os rfl (os rfl oz))))))), le_of_eq (eg (os rfl (os rfl (os rfl (os rfl (os rfl (os rfl (os rfl oz)))))))), le_of_eq (eg (os rfl (os rfl (os rfl (os rfl (os rfl (os rfl (os rfl (os rfl oz))))))))), le_of_eq (eg (os rfl (os rfl (os rfl (os rfl (os rfl (os rfl (os rfl (os rfl (os rfl oz)))))))))), le_of_eq (eg (os rfl (os rfl (os rfl (os rfl (os rfl (os rfl (os rfl (os rfl (os rfl (os rfl oz))))))))))), trivial⟩ (bnd_cons (sl_b (kb_I _)) (bnd_cons (ptr_bnd _ (by first | omega | (simp only [List.length_append, List.length_cons, List.length_nil]; omega))) (bnd_cons (ptr_bnd _ (by first | omega | (simp only [List.length_append, List.length_cons, List.length_nil]; omega))) (bnd_cons (ptr_bnd _ (by first | omega | (simp only [List.length_append, List.length_cons, List.length_nil]; omega))) (bnd_cons (pl_bnd _ _ _) (bnd_cons (pl_bnd _ _ _) (bnd_cons (pl_bnd _ _ _) (bnd_cons (pl_bnd _ _ _) (bnd_cons (pl_bnd _ _ _) (bnd_cons (pl_bnd _ _ _) (bnd_cons (pl_bnd _ _ _) bnd_nil))))))))))) (Nat.le_of_ble_eq_true rfl) (by simp only [na, nb, nc, nd, nf, ng, nh, ni, nj, nk] <;> rfl) (bxle_same (bxle_same (bxle_same bxle_nil))) rfl (by simp only [na, nb, nc, nd, nf, ng, nh, ni, nj, nk] <;> rfl) (bl_cons (bnd_cons (pl_bnd _ _ _) (bnd_cons (pl_bnd _ _ _) (bnd_cons (pl_bnd _ _ _) (bnd_cons (pl_bnd _ _ _) (bnd_cons (pl_bnd _ _ _) (bnd_cons (pl_bnd _ _ _) (bnd_cons (pl_bnd _ _ _) (bnd_cons (pl_bnd _ _ _) (bnd_cons (pl_bnd _ _ _) (bnd_cons (pl_bnd _ _ _) (bnd_cons (pl_bnd _ _ _) bnd_nil))))))))))) (bl_cons (bnd_cons (sl_b (kb_I _)) (bnd_cons (pl_bnd _ _ _) bnd_nil)) (bl_cons (bnd_cons (pl_bnd _ _ _) (bnd_cons (pl_bnd _ _ _) (bnd_cons (pl_bnd _ _ _) (bnd_cons (pl_bnd _ _ _) (bnd_cons (pl_bnd _ _ _) (bnd_cons (pl_bnd _ _ _) (bnd_cons (pl_bnd _ _ _) (bnd_cons (pl_bnd _ _ _) (bnd_cons (pl_bnd _ _ _) (bnd_cons (pl_bnd _ _ _) (bnd_cons (pl_bnd _ _ _) bnd_nil))))))))))) bl_nil))) ?_
                  exact ⟨(decide ((byteAt x_2 t_4.1) = 116)), ⟨le_of_eq (eg oz), le_of_eq (eg (os rfl oz)), le_of_eq (eg (os rfl (os rfl oz))), le_of_eq (eg (os rfl (os rfl (os rfl oz)))), le_of_eq (eg (os rfl (os rfl (os rfl (os rfl oz))))), le_of_eq (eg (os rfl (os rfl (os rfl (os rfl (os rfl oz)))))), le_of_eq (eg (os rfl (os rfl (os rfl (os rfl (os rfl (os rfl oz))))))), le_of_eq (eg (os rfl (os rfl (os rfl (os rfl (os rfl (os rfl (os rfl oz)))))))), le_of_eq (eg (os rfl (os rfl (os rfl (os rfl (os rfl (os rfl (os rfl (os rfl oz))))))))), le_of_eq (eg (os rfl (os rfl (os rfl (os rfl (os rfl (os rfl (os rfl (os rfl (os rfl oz)))))))))), le_of_eq (eg (os rfl (os rfl (os rfl (os rfl (os rfl (os rfl (os rfl (os rfl (os rfl (os rfl oz))))))))))), trivial⟩, rfl, some_of hz_8⟩
                · skip
                  replace hz_8 := ifb_f hz_8 hc
                  clear hc
                  refine aw_region (by decide) ?_
                  refine rts _ rfl (opD_eql (os rfl (os rfl (os rfl (os rfl (os rfl (os rfl (os rfl (os rfl (os rfl oz))))))))) (ev_const _ _)) ?_
                  refine rts _ rfl (opD_assign lz) ?_
                  refine .nil ?_
                  refine wk_yesN rfl (l := [(0, sl (kI .u8) none none p0), (2, ptr (s.boxes.length + 0) 0), (4, ptr (s.boxes.length + 1) 0), (6, ptr (s.boxes.length + 2) 0), (7, pl (.string x_2)), (8, pl (.int .i64 t_4.1)), (9, pl (.int .u64 0)), (10, pl (.slice none 0 0)), (11, pl (.int .u8 0)), (37, pl (.int .u8 (byteAt x_2 t_4.1))), (43, pl (.bool (decide ((byteAt x_2 t_4.1) = 109))))]) (bs' := [⟨114, [pl (.int .u8 0), pl (.int .u64 0), pl (.int .u64 0), pl (.int .i64 0), pl (.int .u64 0), pl (.int .u64 0), pl (.string ⟨#[]⟩), pl (.string ⟨#[]⟩), pl (.int .u8 0), pl (.int .u64 0), pl (.bool false)]⟩, ⟨41, [sl (kI .u8) none none t_4.2.1.b_, pl (.bool t_4.2.1.wrong_)]⟩, ⟨114, [pl (.int .u8 t_4.2.2.Kind), pl (.int .u64 t_4.2.2.Space), pl (.int .u64 t_4.2.2.Handle), pl (.int .i64 t_4.2.2.Ref.Slot), pl (.int .u64 t_4.2.2.Ref.Gen), pl (.int .u64 t_4.2.2.To), pl (.string t_4.2.2.Key), pl (.string t_4.2.2.Value), pl (.int .u8 t_4.2.2.Rights), pl (.int .u64 t_4.2.2.Most), pl (.bool t_4.2.2.Flag)]⟩]) ⟨le_of_eq (eg (ls rfl (ls rfl oz))), le_of_eq (eg (ls rfl (ls rfl (os rfl oz)))), le_of_eq (eg (ls rfl (ls rfl (os rfl (os rfl oz))))), le_of_eq (eg (ls rfl (ls rfl (os rfl (os rfl (os rfl oz)))))), le_of_eq (eg (ls rfl (ls rfl (os rfl (os rfl (os rfl (os rfl oz))))))), le_of_eq (eg (ls rfl (ls rfl (os rfl (os rfl (os rfl (os rfl (os rfl oz)))))))), le_of_eq (eg (ls rfl (ls rfl (os rfl (os rfl (os rfl (os rfl (os rfl (os rfl oz))))))))), le_of_eq (eg (ls rfl (ls rfl (os rfl (os rfl (os rfl (os rfl (os rfl (os rfl (os rfl oz)))))))))), le_of_eq (eg (ls rfl (ls rfl (os rfl (os rfl (os rfl (os rfl (os rfl (os rfl (os rfl (os rfl oz))))))))))), le_of_eq (eg (ls rfl (ls rfl (os rfl (os rfl (os rfl (os rfl (os rfl (os rfl (os rfl (os rfl (os rfl oz)))))))))))), le_of_eq (eg lz), trivial⟩ (bnd_cons (sl_b (kb_I _)) (bnd_cons (ptr_bnd _ (by first | omega | (simp only [List.length_append, List.length_cons, List.length_nil]; omega))) (bnd_cons (ptr_bnd _ (by first | omega | (simp only [List.length_append, List.length_cons, List.length_nil]; omega))) (bnd_cons (ptr_bnd _ (by first | omega | (simp only [List.length_append, List.length_cons, List.length_nil]; omega))) (bnd_cons (pl_bnd _ _ _) (bnd_cons (pl_bnd _ _ _) (bnd_cons (pl_bnd _ _ _) (bnd_cons (pl_bnd _ _ _) (bnd_cons (pl_bnd _ _ _) (bnd_cons (pl_bnd _ _ _) (bnd_cons (pl_bnd _ _ _) bnd_nil))))))))))) (Nat.le_of_ble_eq_true rfl) (by simp only [na, nb, nc, nd, nf, ng, nh, ni, nj, nk] <;> rfl) (bxle_same (bxle_same (bxle_same bxle_nil))) rfl (by simp only [na, nb, nc, nd, nf, ng, nh, ni, nj, nk] <;> rfl) (bl_cons (bnd_cons (pl_bnd _ _ _) (bnd_cons (pl_bnd _ _ _) (bnd_cons (pl_bnd _ _ _) (bnd_cons (pl_bnd _ _ _) (bnd_cons (pl_bnd _ _ _) (bnd_cons (pl_bnd _ _ _) (bnd_cons (pl_bnd _ _ _) (bnd_cons (pl_bnd _ _ _) (bnd_cons (pl_bnd _ _ _) (bnd_cons (pl_bnd _ _ _) (bnd_cons (pl_bnd _ _ _) bnd_nil))))))))))) (bl_cons (bnd_cons (sl_b (kb_I _)) (bnd_cons (pl_bnd _ _ _) bnd_nil)) (bl_cons (bnd_cons (pl_bnd _ _ _) (bnd_cons (pl_bnd _ _ _) (bnd_cons (pl_bnd _ _ _) (bnd_cons (pl_bnd _ _ _) (bnd_cons (pl_bnd _ _ _) (bnd_cons (pl_bnd _ _ _) (bnd_cons (pl_bnd _ _ _) (bnd_cons (pl_bnd _ _ _) (bnd_cons (pl_bnd _ _ _) (bnd_cons (pl_bnd _ _ _) (bnd_cons (pl_bnd _ _ _) bnd_nil))))))))))) bl_nil))) ?_
                  exact ⟨(decide ((byteAt x_2 t_4.1) = 109)), ⟨le_of_eq (eg oz), le_of_eq (eg (os rfl oz)), le_of_eq (eg (os rfl (os rfl oz))), le_of_eq (eg (os rfl (os rfl (os rfl oz)))), le_of_eq (eg (os rfl (os rfl (os rfl (os rfl oz))))), le_of_eq (eg (os rfl (os rfl (os rfl (os rfl (os rfl oz)))))), le_of_eq (eg (os rfl (os rfl (os rfl (os rfl (os rfl (os rfl oz))))))), le_of_eq (eg (os rfl (os rfl (os rfl (os rfl (os rfl (os rfl (os rfl oz)))))))), le_of_eq (eg (os rfl (os rfl (os rfl (os rfl (os rfl (os rfl (os rfl (os rfl oz))))))))), le_of_eq (eg (os rfl (os rfl (os rfl (os rfl (os rfl (os rfl (os rfl (os rfl (os rfl oz)))))))))), le_of_eq (eg (os rfl (os rfl (os rfl (os rfl (os rfl (os rfl (os rfl (os rfl (os rfl (os rfl oz))))))))))), trivial⟩, rfl, some_of hz_8⟩
          · rintro e st ⟨vz_8, hH, rfl, rfl⟩
            refine aw_keep _ hH ?_
            refine aw_keep [(0, _), (2, _), (4, _), (6, _), (7, _), (8, _), (9, _), (10, _), (11, _), (37, _), (43, _)] ⟨lg oz, lg (os rfl oz), lg (os rfl (os rfl oz)), lg (os rfl (os rfl (os rfl oz))), lg (os rfl (os rfl (os rfl (os rfl oz)))), lg (os rfl (os rfl (os rfl (os rfl (os rfl oz))))), lg (os rfl (os rfl (os rfl (os rfl (os rfl (os rfl oz)))))), lg (os rfl (os rfl (os rfl (os rfl (os rfl (os rfl (os rfl oz))))))), lg (os rfl (os rfl (os rfl (os rfl (os rfl (os rfl (os rfl (os rfl oz)))))))), lg (os rfl (os rfl (os rfl (os rfl (os rfl (os rfl (os rfl (os rfl (os rfl oz))))))))), lg (os rfl (os rfl (os rfl (os rfl (os rfl (os rfl (os rfl (os rfl (os rfl (os rfl oz)))))))))), trivial⟩ ?_
            refine aw_cond _ (os rfl (os rfl (os rfl (os rfl (os rfl (os rfl (os rfl (os rfl (os rfl (os rfl oz)))))))))) (fun hc => ?_) (fun hc => ?_)
            · skip
              replace hz_7 := ifb_t hz_7 hc
              clear hc
              refine aw_region (by decide) ?_
              refine rts _ rfl (opD_load_aggX (qs := [_, _]) ag41_u4b sz41_u4b (os rfl (os rfl oz)) (loc_getN rfl rfl) (Nat.le_of_ble_eq_true rfl) rfl) ?_
              replace hz_7 := bnd_some hz_7
              obtain ⟨x_9, hx_9, hz_7⟩ := hz_7
              refine rts _ rfl (opD_pure ht32_u4b (c_oDNum hx_9) ⟨(le_of_eq lz).trans (agg_le ⟨(Pd.le_refl _), (Pd.le_refl _), trivial⟩), le_of_eq (ev_const _ _), trivial⟩) ?_
              refine rts _ rfl (opD_move lz) ?_
              refine rts _ rfl (opD_extract lz rfl) ?_
              refine rts _ rfl (opD_extract (ls rfl lz) rfl) ?_
              refine rts _ rfl (storeAN rfl sz41_u4b (ls rfl (ls rfl (ls rfl (ls rfl (ls rfl (os rfl (os rfl oz))))))) (ls rfl lz) (ones_cons (one_sl _ _ _ _) (ones_cons (one_pl rfl) ones_nil)) rfl rfl (Nat.le_of_ble_eq_true rfl) (List.cons_ne_nil _ _) (bnd_cons (sl_b (kb_I _)) (bnd_cons (pl_bnd _ _ _) bnd_nil)) (by simp only [na, nb, nc, nd, nf, ng, nh, ni, nj, nk] <;> rfl) (by simp only [na, nb, nc, nd, nf, ng, nh, ni, nj, nk] <;> rfl)) ?_
              refine rts _ rfl (opD_assign (lx lz)) ?_
              refine .nil ?_
              refine wk_yesN rfl (l := [(0, sl (kI .u8) none none p0), (2, ptr (s.boxes.length + 0) 0), (4, ptr (s.boxes.length + 1) 0), (6, ptr (s.boxes.length + 2) 0), (7, pl (.string x_2)), (8, pl (.int .i64 t_4.1)), (9, pl (.int .u64 x_9.2)), (10, sl (kI .u8) none none []), (11, pl (.int .u8 0))]) (bs' := [⟨114, [pl (.int .u8 0), pl (.int .u64 0), pl (.int .u64 0), pl (.int .i64 0), pl (.int .u64 0), pl (.int .u64 0), pl (.string ⟨#[]⟩), pl (.string ⟨#[]⟩), pl (.int .u8 0), pl (.int .u64 0), pl (.bool false)]⟩, ⟨41, [sl (kI .u8) none none x_9.1.b_, pl (.bool x_9.1.wrong_)]⟩, ⟨114, [pl (.int .u8 t_4.2.2.Kind), pl (.int .u64 t_4.2.2.Space), pl (.int .u64 t_4.2.2.Handle), pl (.int .i64 t_4.2.2.Ref.Slot), pl (.int .u64 t_4.2.2.Ref.Gen), pl (.int .u64 t_4.2.2.To), pl (.string t_4.2.2.Key), pl (.string t_4.2.2.Value), pl (.int .u8 t_4.2.2.Rights), pl (.int .u64 t_4.2.2.Most), pl (.bool t_4.2.2.Flag)]⟩]) ⟨le_of_eq (eg (ls rfl (lx (ls rfl (ls rfl (ls rfl (ls rfl (ls rfl oz)))))))), le_of_eq (eg (ls rfl (lx (ls rfl (ls rfl (ls rfl (ls rfl (ls rfl (os rfl oz))))))))), le_of_eq (eg (ls rfl (lx (ls rfl (ls rfl (ls rfl (ls rfl (ls rfl (os rfl (os rfl oz)))))))))), le_of_eq (eg (ls rfl (lx (ls rfl (ls rfl (ls rfl (ls rfl (ls rfl (os rfl (os rfl (os rfl oz))))))))))), le_of_eq (eg (ls rfl (lx (ls rfl (ls rfl (ls rfl (ls rfl (ls rfl (os rfl (os rfl (os rfl (os rfl oz)))))))))))), le_of_eq (eg (ls rfl (lx (ls rfl (ls rfl (ls rfl (ls rfl (ls rfl (os rfl (os rfl (os rfl (os rfl (os rfl oz))))))))))))), le_of_eq (eg lz), (le_of_eq (eg (ls rfl (lx (ls rfl (ls rfl (ls rfl (ls rfl (ls rfl (os rfl (os rfl (os rfl (os rfl (os rfl (os rfl (os rfl oz)))))))))))))))).trans (nil_own rfl), le_of_eq (eg (ls rfl (lx (ls rfl (ls rfl (ls rfl (ls rfl (ls rfl (os rfl (os rfl (os rfl (os rfl (os rfl (os rfl (os rfl (os rfl oz)))))))))))))))), trivial⟩ (bnd_cons (sl_b (kb_I _)) (bnd_cons (ptr_bnd _ (by first | omega | (simp only [List.length_append, List.length_cons, List.length_nil]; omega))) (bnd_cons (ptr_bnd _ (by first | omega | (simp only [List.length_append, List.length_cons, List.length_nil]; omega))) (bnd_cons (ptr_bnd _ (by first | omega | (simp only [List.length_append, List.length_cons, List.length_nil]; omega))) (bnd_cons (pl_bnd _ _ _) (bnd_cons (pl_bnd _ _ _) (bnd_cons (pl_bnd _ _ _) (bnd_cons (sl_b (kb_I _)) (bnd_cons (pl_bnd _ _ _) bnd_nil))))))))) (Nat.le_of_ble_eq_true rfl) (by simp only [na, nb, nc, nd, nf, ng, nh, ni, nj, nk] <;> rfl) (bxle_same (bxle_same (bxle_same bxle_nil))) rfl (by simp only [na, nb, nc, nd, nf, ng, nh, ni, nj, nk] <;> rfl) (bl_cons (bnd_cons (pl_bnd _ _ _) (bnd_cons (pl_bnd _ _ _) (bnd_cons (pl_bnd _ _ _) (bnd_cons (pl_bnd _ _ _) (bnd_cons (pl_bnd _ _ _) (bnd_cons (pl_bnd _ _ _) (bnd_cons (pl_bnd _ _ _) (bnd_cons (pl_bnd _ _ _) (bnd_cons (pl_bnd _ _ _) (bnd_cons (pl_bnd _ _ _) (bnd_cons (pl_bnd _ _ _) bnd_nil))))))))))) (bl_cons (bnd_cons (sl_b (kb_I _)) (bnd_cons (pl_bnd _ _ _) bnd_nil)) (bl_cons (bnd_cons (pl_bnd _ _ _) (bnd_cons (pl_bnd _ _ _) (bnd_cons (pl_bnd _ _ _) (bnd_cons (pl_bnd _ _ _) (bnd_cons (pl_bnd _ _ _) (bnd_cons (pl_bnd _ _ _) (bnd_cons (pl_bnd _ _ _) (bnd_cons (pl_bnd _ _ _) (bnd_cons (pl_bnd _ _ _) (bnd_cons (pl_bnd _ _ _) (bnd_cons (pl_bnd _ _ _) bnd_nil))))))))))) bl_nil))) ?_
              exact ⟨(x_9.2, ([] : (List Int)), 0, x_9.1), ⟨le_of_eq (eg oz), le_of_eq (eg (os rfl oz)), le_of_eq (eg (os rfl (os rfl oz))), le_of_eq (eg (os rfl (os rfl (os rfl oz)))), le_of_eq (eg (os rfl (os rfl (os rfl (os rfl oz))))), le_of_eq (eg (os rfl (os rfl (os rfl (os rfl (os rfl oz)))))), le_of_eq (eg (os rfl (os rfl (os rfl (os rfl (os rfl (os rfl oz))))))), le_of_eq (eg (os rfl (os rfl (os rfl (os rfl (os rfl (os rfl (os rfl oz)))))))), le_of_eq (eg (os rfl (os rfl (os rfl (os rfl (os rfl (os rfl (os rfl (os rfl oz))))))))), trivial⟩, rfl, some_of hz_7⟩
            · skip
              replace hz_7 := ifb_f hz_7 hc
              clear hc
              refine aw_seq ?_
              refine aw_seq ?_
              refine aw_region (by decide) ?_
              refine rts _ rfl (opD_eql (os rfl (os rfl (os rfl (os rfl (os rfl (os rfl (os rfl (os rfl (os rfl oz))))))))) (ev_const _ _)) ?_
              refine rts _ rfl (opD_assign lz) ?_
              refine .nil ?_
              refine aw_keep [(0, _), (2, _), (4, _), (6, _), (7, _), (8, _), (9, _), (10, _), (11, _), (37, _), (53, _)] ⟨lg (ls rfl (ls rfl oz)), lg (ls rfl (ls rfl (os rfl oz))), lg (ls rfl (ls rfl (os rfl (os rfl oz)))), lg (ls rfl (ls rfl (os rfl (os rfl (os rfl oz))))), lg (ls rfl (ls rfl (os rfl (os rfl (os rfl (os rfl oz)))))), lg (ls rfl (ls rfl (os rfl (os rfl (os rfl (os rfl (os rfl oz))))))), lg (ls rfl (ls rfl (os rfl (os rfl (os rfl (os rfl (os rfl (os rfl oz)))))))), lg (ls rfl (ls rfl (os rfl (os rfl (os rfl (os rfl (os rfl (os rfl (os rfl oz))))))))), lg (ls rfl (ls rfl (os rfl (os rfl (os rfl (os rfl (os rfl (os rfl (os rfl (os rfl oz)))))))))), lg (ls rfl (ls rfl (os rfl (os rfl (os rfl (os rfl (os rfl (os rfl (os rfl (os rfl (os rfl oz))))))))))), lg lz, trivial⟩ ?_
              replace hz_7 := bnd_some hz_7
              obtain ⟨z_10, hz_10, hz_7⟩ := hz_7
              refine aw_mid (fun e st => ∃ v : Bool, Holds e [(0, sl (kI .u8) none none p0), (2, ptr (s.boxes.length + 0) 0), (4, ptr (s.boxes.length + 1) 0), (6, ptr (s.boxes.length + 2) 0), (7, pl (.string x_2)), (8, pl (.int .i64 t_4.1)), (9, pl (.int .u64 0)), (10, pl (.slice none 0 0)), (11, pl (.int .u8 0)), (53, pl (.bool v))] ∧ st = s.ext [⟨114, [pl (.int .u8 0), pl (.int .u64 0), pl (.int .u64 0), pl (.int .i64 0), pl (.int .u64 0), pl (.int .u64 0), pl (.string ⟨#[]⟩), pl (.string ⟨#[]⟩), pl (.int .u8 0), pl (.int .u64 0), pl (.bool false)]⟩, ⟨41, [sl (kI .u8) none none t_4.2.1.b_, pl (.bool t_4.2.1.wrong_)]⟩, ⟨114, [pl (.int .u8 t_4.2.2.Kind), pl (.int .u64 t_4.2.2.Space), pl (.int .u64 t_4.2.2.Handle), pl (.int .i64 t_4.2.2.Ref.Slot), pl (.int .u64 t_4.2.2.Ref.Gen), pl (.int .u64 t_4.2.2.To), pl (.string t_4.2.2.Key), pl (.string t_4.2.2.Value), pl (.int .u8 t_4.2.2.Rights), pl (.int .u64 t_4.2.2.Most), pl (.bool t_4.2.2.Flag)]⟩] [] ∧ v = z_10) ?_ ?_
              · skip
                refine aw_wkN rfl 3 0 rfl rfl ?_
                refine aw_cond _ (os rfl (os rfl (os rfl (os rfl (os rfl (os rfl (os rfl (os rfl (os rfl (os rfl oz)))))))))) (fun hc => ?_) (fun hc => ?_)
                · skip
                  replace hz_10 := ifb_t hz_10 hc
                  clear hc
                  refine aw_skip ?_
                  refine wk_yesN rfl (l := [(0, sl (kI .u8) none none p0), (2, ptr (s.boxes.length + 0) 0), (4, ptr (s.boxes.length + 1) 0), (6, ptr (s.boxes.length + 2) 0), (7, pl (.string x_2)), (8, pl (.int .i64 t_4.1)), (9, pl (.int .u64 0)), (10, pl (.slice none 0 0)), (11, pl (.int .u8 0)), (53, pl (.bool (decide ((byteAt x_2 t_4.1) = 107))))]) (bs' := [⟨114, [pl (.int .u8 0), pl (.int .u64 0), pl (.int .u64 0), pl (.int .i64 0), pl (.int .u64 0), pl (.int .u64 0), pl (.string ⟨#[]⟩), pl (.string ⟨#[]⟩), pl (.int .u8 0), pl (.int .u64 0), pl (.bool false)]⟩, ⟨41, [sl (kI .u8) none none t_4.2.1.b_, pl (.bool t_4.2.1.wrong_)]⟩, ⟨114, [pl (.int .u8 t_4.2.2.Kind), pl (.int .u64 t_4.2.2.Space), pl (.int .u64 t_4.2.2.Handle), pl (.int .i64 t_4.2.2.Ref.Slot), pl (.int .u64 t_4.2.2.Ref.Gen), pl (.int .u64 t_4.2.2.To), pl (.string t_4.2.2.Key), pl (.string t_4.2.2.Value), pl (.int .u8 t_4.2.2.Rights), pl (.int .u64 t_4.2.2.Most), pl (.bool t_4.2.2.Flag)]⟩]) ⟨le_of_eq (eg oz), le_of_eq (eg (os rfl oz)), le_of_eq (eg (os rfl (os rfl oz))), le_of_eq (eg (os rfl (os rfl (os rfl oz)))), le_of_eq (eg (os rfl (os rfl (os rfl (os rfl oz))))), le_of_eq (eg (os rfl (os rfl (os rfl (os rfl (os rfl oz)))))), le_of_eq (eg (os rfl (os rfl (os rfl (os rfl (os rfl (os rfl oz))))))), le_of_eq (eg (os rfl (os rfl (os rfl (os rfl (os rfl (os rfl (os rfl oz)))))))), le_of_eq (eg (os rfl (os rfl (os rfl (os rfl (os rfl (os rfl (os rfl (os rfl oz))))))))), le_of_eq (eg (os rfl (os rfl (os rfl (os rfl (os rfl (os rfl (os rfl (os rfl (os rfl (os rfl oz))))))))))), trivial⟩ (bnd_cons (sl_b (kb_I _)) (bnd_cons (ptr_bnd _ (by first | omega | (simp only [List.length_append, List.length_cons, List.length_nil]; omega))) (bnd_cons (ptr_bnd _ (by first | omega | (simp only [List.length_append, List.length_cons, List.length_nil]; omega))) (bnd_cons (ptr_bnd _ (by first | omega | (simp only [List.length_append, List.length_cons, List.length_nil]; omega))) (bnd_cons (pl_bnd _ _ _) (bnd_cons (pl_bnd _ _ _) (bnd_cons (pl_bnd _ _ _) (bnd_cons (pl_bnd _ _ _) (bnd_cons (pl_bnd _ _ _) (bnd_cons (pl_bnd _ _ _) bnd_nil)))))))))) (Nat.le_of_ble_eq_true rfl) (by simp only [na, nb, nc, nd, nf, ng, nh, ni, nj, nk] <;> rfl) (bxle_same (bxle_same (bxle_same bxle_nil))) rfl (by simp only [na, nb, nc, nd, nf, ng, nh, ni, nj, nk] <;> rfl) (bl_cons (bnd_cons (pl_bnd _ _ _) (bnd_cons (pl_bnd _ _ _) (bnd_cons (pl_bnd _ _ _) (bnd_cons (pl_bnd _ _ _) (bnd_cons (pl_bnd _ _ _) (bnd_cons (pl_bnd _ _ _) (bnd_cons (pl_bnd _ _ _) (bnd_cons (pl_bnd _ _ _) (bnd_cons (pl_bnd _ _ _) (bnd_cons (pl_bnd _ _ _) (bnd_cons (pl_bnd _ _ _) bnd_nil))))))))))) (bl_cons (bnd_cons (sl_b (kb_I _)) (bnd_cons (pl_bnd _ _ _) bnd_nil)) (bl_cons (bnd_cons (pl_bnd _ _ _) (bnd_cons (pl_bnd _ _ _) (bnd_cons (pl_bnd _ _ _) (bnd_cons (pl_bnd _ _ _) (bnd_cons (pl_bnd _ _ _) (bnd_cons (pl_bnd _ _ _) (bnd_cons (pl_bnd _ _ _) (bnd_cons (pl_bnd _ _ _) (bnd_cons (pl_bnd _ _ _) (bnd_cons (pl_bnd _ _ _) (bnd_cons (pl_bnd _ _ _) bnd_nil))))))))))) bl_nil))) ?_
                  exact ⟨(decide ((byteAt x_2 t_4.1) = 107)), ⟨le_of_eq (eg oz), le_of_eq (eg (os rfl oz)), le_of_eq (eg (os rfl (os rfl oz))), le_of_eq (eg (os rfl (os rfl (os rfl oz)))), le_of_eq (eg (os rfl (os rfl (os rfl (os rfl oz))))), le_of_eq (eg (os rfl (os rfl (os rfl (os rfl (os rfl oz)))))), le_of_eq (eg (os rfl (os rfl (os rfl (os rfl (os rfl (os rfl oz))))))), le_of_eq (eg (os rfl (os rfl (os rfl (os rfl (os rfl (os rfl (os rfl oz)))))))), le_of_eq (eg (os rfl (os rfl (os rfl (os rfl (os rfl (os rfl (os rfl (os rfl oz))))))))), le_of_eq (eg (os rfl (os rfl (os rfl (os rfl (os rfl (os rfl (os rfl (os rfl (os rfl oz)))))))))), trivial⟩, rfl, some_of hz_10⟩
                · skip
                  replace hz_10 := ifb_f hz_10 hc
                  clear hc
                  refine aw_region (by decide) ?_
                  refine rts _ rfl (opD_eql (os rfl (os rfl (os rfl (os rfl (os rfl (os rfl (os rfl (os rfl (os rfl oz))))))))) (ev_const _ _)) ?_
                  refine rts _ rfl (opD_assign lz) ?_
                  refine .nil ?_
                  refine wk_yesN rfl (l := [(0, sl (kI .u8) none none p0), (2, ptr (s.boxes.length + 0) 0), (4, ptr (s.boxes.length + 1) 0), (6, ptr (s.boxes.length + 2) 0), (7, pl (.string x_2)), (8, pl (.int .i64 t_4.1)), (9, pl (.int .u64 0)), (10, pl (.slice none 0 0)), (11, pl (.int .u8 0)), (53, pl (.bool (decide ((byteAt x_2 t_4.1) = 118))))]) (bs' := [⟨114, [pl (.int .u8 0), pl (.int .u64 0), pl (.int .u64 0), pl (.int .i64 0), pl (.int .u64 0), pl (.int .u64 0), pl (.string ⟨#[]⟩), pl (.string ⟨#[]⟩), pl (.int .u8 0), pl (.int .u64 0), pl (.bool false)]⟩, ⟨41, [sl (kI .u8) none none t_4.2.1.b_, pl (.bool t_4.2.1.wrong_)]⟩, ⟨114, [pl (.int .u8 t_4.2.2.Kind), pl (.int .u64 t_4.2.2.Space), pl (.int .u64 t_4.2.2.Handle), pl (.int .i64 t_4.2.2.Ref.Slot), pl (.int .u64 t_4.2.2.Ref.Gen), pl (.int .u64 t_4.2.2.To), pl (.string t_4.2.2.Key), pl (.string t_4.2.2.Value), pl (.int .u8 t_4.2.2.Rights), pl (.int .u64 t_4.2.2.Most), pl (.bool t_4.2.2.Flag)]⟩]) ⟨le_of_eq (eg (ls rfl (ls rfl oz))), le_of_eq (eg (ls rfl (ls rfl (os rfl oz)))), le_of_eq (eg (ls rfl (ls rfl (os rfl (os rfl oz))))), le_of_eq (eg (ls rfl (ls rfl (os rfl (os rfl (os rfl oz)))))), le_of_eq (eg (ls rfl (ls rfl (os rfl (os rfl (os rfl (os rfl oz))))))), le_of_eq (eg (ls rfl (ls rfl (os rfl (os rfl (os rfl (os rfl (os rfl oz)))))))), le_of_eq (eg (ls rfl (ls rfl (os rfl (os rfl (os rfl (os rfl (os rfl (os rfl oz))))))))), le_of_eq (eg (ls rfl (ls rfl (os rfl (os rfl (os rfl (os rfl (os rfl (os rfl (os rfl oz)))))))))), le_of_eq (eg (ls rfl (ls rfl (os rfl (os rfl (os rfl (os rfl (os rfl (os rfl (os rfl (os rfl oz))))))))))), le_of_eq (eg lz), trivial⟩ (bnd_cons (sl_b (kb_I _)) (bnd_cons (ptr_bnd _ (by first | omega | (simp only [List.length_append, List.length_cons, List.length_nil]; omega))) (bnd_cons (ptr_bnd _ (by first | omega | (simp only [List.length_append, List.length_cons, List.length_nil]; omega))) (bnd_cons (ptr_bnd _ (by first | omega | (simp only [List.length_append, List.length_cons, List.length_nil]; omega))) (bnd_cons (pl_bnd _ _ _) (bnd_cons (pl_bnd _ _ _) (bnd_cons (pl_bnd _ _ _) (bnd_cons (pl_bnd _ _ _) (bnd_cons (pl_bnd _ _ _) (bnd_cons (pl_bnd _ _ _) bnd_nil)))))))))) (Nat.le_of_ble_eq_true rfl) (by simp only [na, nb, nc, nd, nf, ng, nh, ni, nj, nk] <;> rfl) (bxle_same (bxle_same (bxle_same bxle_nil))) rfl (by simp only [na, nb, nc, nd, nf, ng, nh, ni, nj, nk] <;> rfl) (bl_cons (bnd_cons (pl_bnd _ _ _) (bnd_cons (pl_bnd _ _ _) (bnd_cons (pl_bnd _ _ _) (bnd_cons (pl_bnd _ _ _) (bnd_cons (pl_bnd _ _ _) (bnd_cons (pl_bnd _ _ _) (bnd_cons (pl_bnd _ _ _) (bnd_cons (pl_bnd _ _ _) (bnd_cons (pl_bnd _ _ _) (bnd_cons (pl_bnd _ _ _) (bnd_cons (pl_bnd _ _ _) bnd_nil))))))))))) (bl_cons (bnd_cons (sl_b (kb_I _)) (bnd_cons (pl_bnd _ _ _) bnd_nil)) (bl_cons (bnd_cons (pl_bnd _ _ _) (bnd_cons (pl_bnd _ _ _) (bnd_cons (pl_bnd _ _ _) (bnd_cons (pl_bnd _ _ _) (bnd_cons (pl_bnd _ _ _) (bnd_cons (pl_bnd _ _ _) (bnd_cons (pl_bnd _ _ _) (bnd_cons (pl_bnd _ _ _) (bnd_cons (pl_bnd _ _ _) (bnd_cons (pl_bnd _ _ _) (bnd_cons (pl_bnd _ _ _) bnd_nil))))))))))) bl_nil))) ?_
                  exact ⟨(decide ((byteAt x_2 t_4.1) = 118)), ⟨le_of_eq (eg oz), le_of_eq (eg (os rfl oz)), le_of_eq (eg (os rfl (os rfl oz))), le_of_eq (eg (os rfl (os rfl (os rfl oz)))), le_of_eq (eg (os rfl (os rfl (os rfl (os rfl oz))))), le_of_eq (eg (os rfl (os rfl (os rfl (os rfl (os rfl oz)))))), le_of_eq (eg (os rfl (os rfl (os rfl (os rfl (os rfl (os rfl oz))))))), le_of_eq (eg (os rfl (os rfl (os rfl (os rfl (os rfl (os rfl (os rfl oz)))))))), le_of_eq (eg (os rfl (os rfl (os rfl (os rfl (os rfl (os rfl (os rfl (os rfl oz))))))))), le_of_eq (eg (os rfl (os rfl (os rfl (os rfl (os rfl (os rfl (os rfl (os rfl (os rfl oz)))))))))), trivial⟩, rfl, some_of hz_10⟩
              · rintro e st ⟨vz_10, hH, rfl, rfl⟩
                refine aw_keep _ hH ?_
                refine aw_keep [(0, _), (2, _), (4, _), (6, _), (7, _), (8, _), (9, _), (10, _), (11, _), (53, _)] ⟨lg oz, lg (os rfl oz), lg (os rfl (os rfl oz)), lg (os rfl (os rfl (os rfl oz))), lg (os rfl (os rfl (os rfl (os rfl oz)))), lg (os rfl (os rfl (os rfl (os rfl (os rfl oz))))), lg (os rfl (os rfl (os rfl (os rfl (os rfl (os rfl oz)))))), lg (os rfl (os rfl (os rfl (os rfl (os rfl (os rfl (os rfl oz))))))), lg (os rfl (os rfl (os rfl (os rfl (os rfl (os rfl (os rfl (os rfl oz)))))))), lg (os rfl (os rfl (os rfl (os rfl (os rfl (os rfl (os rfl (os rfl (os rfl oz))))))))), trivial⟩ ?_
                refine aw_cond _ (os rfl (os rfl (os rfl (os rfl (os rfl (os rfl (os rfl (os rfl (os rfl oz))))))))) (fun hc => ?_) (fun hc => ?_)
                · skip
                  replace hz_7 := ifb_t hz_7 hc
                  clear hc
                  refine aw_region (by decide) ?_
                  refine rts _ rfl (opD_load_aggX (qs := [_, _]) ag41_u4b sz41_u4b (os rfl (os rfl oz)) (loc_getN rfl rfl) (Nat.le_of_ble_eq_true rfl) rfl) ?_
                  replace hz_7 := bnd_some hz_7
                  obtain ⟨x_11, hx_11, hz_7⟩ := hz_7
                  refine rts _ rfl (opD_pure ht33_u4b (c_oDBytes hx_11) ⟨(le_of_eq lz).trans (agg_le ⟨(Pd.le_refl _), (Pd.le_refl _), trivial⟩), le_of_eq (ev_const _ _), trivial⟩) ?_
                  refine rts _ rfl (opD_move lz) ?_
                  refine rts _ rfl (opD_extract lz rfl) ?_
                  refine rts _ rfl (opD_extract (ls rfl lz) rfl) ?_
                  refine rts _ rfl (storeAN rfl sz41_u4b (ls rfl (ls rfl (ls rfl (ls rfl (ls rfl (os rfl (os rfl oz))))))) (ls rfl lz) (ones_cons (one_sl _ _ _ _) (ones_cons (one_pl rfl) ones_nil)) rfl rfl (Nat.le_of_ble_eq_true rfl) (List.cons_ne_nil _ _) (bnd_cons (sl_b (kb_I _)) (bnd_cons (pl_bnd _ _ _) bnd_nil)) (by simp only [na, nb, nc, nd, nf, ng, nh, ni, nj, nk] <;> rfl) (by simp only [na, nb, nc, nd, nf, ng, nh, ni, nj, nk] <;> rfl)) ?_
                  refine rts _ rfl (opD_assign (lx lz)) ?_
                  refine .nil ?_
                  refine wk_yesN rfl (l := [(0, sl (kI .u8) none none p0), (2, ptr (s.boxes.length + 0) 0), (4, ptr (s.boxes.length + 1) 0), (6, ptr (s.boxes.length + 2) 0), (7, pl (.string x_2)), (8, pl (.int .i64 t_4.1)), (9, pl (.int .u64 0)), (10, sl (kI .u8) none none x_11.2), (11, pl (.int .u8 0))]) (bs' := [⟨114, [pl (.int .u8 0), pl (.int .u64 0), pl (.int .u64 0), pl (.int .i64 0), pl (.int .u64 0), pl (.int .u64 0), pl (.string ⟨#[]⟩), pl (.string ⟨#[]⟩), pl (.int .u8 0), pl (.int .u64 0), pl (.bool false)]⟩, ⟨41, [sl (kI .u8) none none x_11.1.b_, pl (.bool x_11.1.wrong_)]⟩, ⟨114, [pl (.int .u8 t_4.2.2.Kind), pl (.int .u64 t_4.2.2.Space), pl (.int .u64 t_4.2.2.Handle), pl (.int .i64 t_4.2.2.Ref.Slot), pl (.int .u64 t_4.2.2.Ref.Gen), pl (.int .u64 t_4.2.2.To), pl (.string t_4.2.2.Key), pl (.string t_4.2.2.Value), pl (.int .u8 t_4.2.2.Rights), pl (.int .u64 t_4.2.2.Most), pl (.bool t_4.2.2.Flag)]⟩]) ⟨le_of_eq (eg (ls rfl (lx (ls rfl (ls rfl (ls rfl (ls rfl (ls rfl oz)))))))), le_of_eq (eg (ls rfl (lx (ls rfl (ls rfl (ls rfl (ls rfl (ls rfl (os rfl oz))))))))), le_of_eq (eg (ls rfl (lx (ls rfl (ls rfl (ls rfl (ls rfl (ls rfl (os rfl (os rfl oz)))))))))), le_of_eq (eg (ls rfl (lx (ls rfl (ls rfl (ls rfl (ls rfl (ls rfl (os rfl (os rfl (os rfl oz))))))))))), le_of_eq (eg (ls rfl (lx (ls rfl (ls rfl (ls rfl (ls rfl (ls rfl (os rfl (os rfl (os rfl (os rfl oz)))))))))))), le_of_eq (eg (ls rfl (lx (ls rfl (ls rfl (ls rfl (ls rfl (ls rfl (os rfl (os rfl (os rfl (os rfl (os rfl oz))))))))))))), le_of_eq (eg (ls rfl (lx (ls rfl (ls rfl (ls rfl (ls rfl (ls rfl (os rfl (os rfl (os rfl (os rfl (os rfl (os rfl oz)))))))))))))), le_of_eq (eg lz), le_of_eq (eg (ls rfl (lx (ls rfl (ls rfl (ls rfl (ls rfl (ls rfl (os rfl (os rfl (os rfl (os rfl (os rfl (os rfl (os rfl (os rfl oz)))))))))))))))), trivial⟩ (bnd_cons (sl_b (kb_I _)) (bnd_cons (ptr_bnd _ (by first | omega | (simp only [List.length_append, List.length_cons, List.length_nil]; omega))) (bnd_cons (ptr_bnd _ (by first | omega | (simp only [List.length_append, List.length_cons, List.length_nil]; omega))) (bnd_cons (ptr_bnd _ (by first | omega | (simp only [List.length_append, List.length_cons, List.length_nil]; omega))) (bnd_cons (pl_bnd _ _ _) (bnd_cons (pl_bnd _ _ _) (bnd_cons (pl_bnd _ _ _) (bnd_cons (sl_b (kb_I _)) (bnd_cons (pl_bnd _ _ _) bnd_nil))))))))) (Nat.le_of_ble_eq_true rfl) (by simp only [na, nb, nc, nd, nf, ng, nh, ni, nj, nk] <;> rfl) (bxle_same (bxle_same (bxle_same bxle_nil))) rfl (by simp only [na, nb, nc, nd, nf, ng, nh, ni, nj, nk] <;> rfl) (bl_cons (bnd_cons (pl_bnd _ _ _) (bnd_cons (pl_bnd _ _ _) (bnd_cons (pl_bnd _ _ _) (bnd_cons (pl_bnd _ _ _) (bnd_cons (pl_bnd _ _ _) (bnd_cons (pl_bnd _ _ _) (bnd_cons (pl_bnd _ _ _) (bnd_cons (pl_bnd _ _ _) (bnd_cons (pl_bnd _ _ _) (bnd_cons (pl_bnd _ _ _) (bnd_cons (pl_bnd _ _ _) bnd_nil))))))))))) (bl_cons (bnd_cons (sl_b (kb_I _)) (bnd_cons (pl_bnd _ _ _) bnd_nil)) (bl_cons (bnd_cons (pl_bnd _ _ _) (bnd_cons (pl_bnd _ _ _) (bnd_cons (pl_bnd _ _ _) (bnd_cons (pl_bnd _ _ _) (bnd_cons (pl_bnd _ _ _) (bnd_cons (pl_bnd _ _ _) (bnd_cons (pl_bnd _ _ _) (bnd_cons (pl_bnd _ _ _) (bnd_cons (pl_bnd _ _ _) (bnd_cons (pl_bnd _ _ _) (bnd_cons (pl_bnd _ _ _) bnd_nil))))))))))) bl_nil))) ?_
                  exact ⟨(0, x_11.2, 0, x_11.1), ⟨le_of_eq (eg oz), le_of_eq (eg (os rfl oz)), le_of_eq (eg (os rfl (os rfl oz))), le_of_eq (eg (os rfl (os rfl (os rfl oz)))), le_of_eq (eg (os rfl (os rfl (os rfl (os rfl oz))))), le_of_eq (eg (os rfl (os rfl (os rfl (os rfl (os rfl oz)))))), le_of_eq (eg (os rfl (os rfl (os rfl (os rfl (os rfl (os rfl oz))))))), le_of_eq (eg (os rfl (os rfl (os rfl (os rfl (os rfl (os rfl (os rfl oz)))))))), le_of_eq (eg (os rfl (os rfl (os rfl (os rfl (os rfl (os rfl (os rfl (os rfl oz))))))))), trivial⟩, rfl, some_of hz_7⟩
                · skip
                  replace hz_7 := ifb_f hz_7 hc
                  clear hc
                  refine aw_region (by decide) ?_
                  refine rts _ rfl (opD_load_aggX (qs := [_, _]) ag41_u4b sz41_u4b (os rfl (os rfl oz)) (loc_getN rfl rfl) (Nat.le_of_ble_eq_true rfl) rfl) ?_
                  replace hz_7 := bnd_some hz_7
                  obtain ⟨x_12, hx_12, hz_7⟩ := hz_7
                  refine rts _ rfl (opD_pure ht31_u4b (c_oDByte hx_12) ⟨(le_of_eq lz).trans (agg_le ⟨(Pd.le_refl _), (Pd.le_refl _), trivial⟩), trivial⟩) ?_
                  refine rts _ rfl (opD_move lz) ?_
                  refine rts _ rfl (opD_extract lz rfl) ?_
                  refine rts _ rfl (opD_extract (ls rfl lz) rfl) ?_
                  refine rts _ rfl (storeAN rfl sz41_u4b (ls rfl (ls rfl (ls rfl (ls rfl (ls rfl (os rfl (os rfl oz))))))) (ls rfl lz) (ones_cons (one_sl _ _ _ _) (ones_cons (one_pl rfl) ones_nil)) rfl rfl (Nat.le_of_ble_eq_true rfl) (List.cons_ne_nil _ _) (bnd_cons (sl_b (kb_I _)) (bnd_cons (pl_bnd _ _ _) bnd_nil)) (by simp only [na, nb, nc, nd, nf, ng, nh, ni, nj, nk] <;> rfl) (by simp only [na, nb, nc, nd, nf, ng, nh, ni, nj, nk] <;> rfl)) ?_
                  refine rts _ rfl (opD_assign (lx lz)) ?_
                  refine .nil ?_
                  refine wk_yesN rfl (l := [(0, sl (kI .u8) none none p0), (2, ptr (s.boxes.length + 0) 0), (4, ptr (s.boxes.length + 1) 0), (6, ptr (s.boxes.length + 2) 0), (7, pl (.string x_2)), (8, pl (.int .i64 t_4.1)), (9, pl (.int .u64 0)), (10, sl (kI .u8) none none []), (11, pl (.int .u8 x_12.2))]) (bs' := [⟨114, [pl (.int .u8 0), pl (.int .u64 0), pl (.int .u64 0), pl (.int .i64 0), pl (.int .u64 0), pl (.int .u64 0), pl (.string ⟨#[]⟩), pl (.string ⟨#[]⟩), pl (.int .u8 0), pl (.int .u64 0), pl (.bool false)]⟩, ⟨41, [sl (kI .u8) none none x_12.1.b_, pl (.bool x_12.1.wrong_)]⟩, ⟨114, [pl (.int .u8 t_4.2.2.Kind), pl (.int .u64 t_4.2.2.Space), pl (.int .u64 t_4.2.2.Handle), pl (.int .i64 t_4.2.2.Ref.Slot), pl (.int .u64 t_4.2.2.Ref.Gen), pl (.int .u64 t_4.2.2.To), pl (.string t_4.2.2.Key), pl (.string t_4.2.2.Value), pl (.int .u8 t_4.2.2.Rights), pl (.int .u64 t_4.2.2.Most), pl (.bool t_4.2.2.Flag)]⟩]) ⟨le_of_eq (eg (ls rfl (lx (ls rfl (ls rfl (ls rfl (ls rfl (ls rfl oz)))))))), le_of_eq (eg (ls rfl (lx (ls rfl (ls rfl (ls rfl (ls rfl (ls rfl (os rfl oz))))))))), le_of_eq (eg (ls rfl (lx (ls rfl (ls rfl (ls rfl (ls rfl (ls rfl (os rfl (os rfl oz)))))))))), le_of_eq (eg (ls rfl (lx (ls rfl (ls rfl (ls rfl (ls rfl (ls rfl (os rfl (os rfl (os rfl oz))))))))))), le_of_eq (eg (ls rfl (lx (ls rfl (ls rfl (ls rfl (ls rfl (ls rfl (os rfl (os rfl (os rfl (os rfl oz)))))))))))), le_of_eq (eg (ls rfl (lx (ls rfl (ls rfl (ls rfl (ls rfl (ls rfl (os rfl (os rfl (os rfl (os rfl (os rfl oz))))))))))))), le_of_eq (eg (ls rfl (lx (ls rfl (ls rfl (ls rfl (ls rfl (ls rfl (os rfl (os rfl (os rfl (os rfl (os rfl (os rfl oz)))))))))))))), (le_of_eq (eg (ls rfl (lx (ls rfl (ls rfl (ls rfl (ls rfl (ls rfl (os rfl (os rfl (os rfl (os rfl (os rfl (os rfl (os rfl oz)))))))))))))))).trans (nil_own rfl), le_of_eq (eg lz), trivial⟩ (bnd_cons (sl_b (kb_I _)) (bnd_cons (ptr_bnd _ (by first | omega | (simp only [List.length_append, List.length_cons, List.length_nil]; omega))) (bnd_cons (ptr_bnd _ (by first | omega | (simp only [List.length_append, List.length_cons, List.length_nil]; omega))) (bnd_cons (ptr_bnd _ (by first | omega | (simp only [List.length_append, List.length_cons, List.length_nil]; omega))) (bnd_cons (pl_bnd _ _ _) (bnd_cons (pl_bnd _ _ _) (bnd_cons (pl_bnd _ _ _) (bnd_cons (sl_b (kb_I _)) (bnd_cons (pl_bnd _ _ _) bnd_nil))))))))) (Nat.le_of_ble_eq_true rfl) (by simp only [na, nb, nc, nd, nf, ng, nh, ni, nj, nk] <;> rfl) (bxle_same (bxle_same (bxle_same bxle_nil))) rfl (by simp only [na, nb, nc, nd, nf, ng, nh, ni, nj, nk] <;> rfl) (bl_cons (bnd_cons (pl_bnd _ _ _) (bnd_cons (pl_bnd _ _ _) (bnd_cons (pl_bnd _ _ _) (bnd_cons (pl_bnd _ _ _) (bnd_cons (pl_bnd _ _ _) (bnd_cons (pl_bnd _ _ _) (bnd_cons (pl_bnd _ _ _) (bnd_cons (pl_bnd _ _ _) (bnd_cons (pl_bnd _ _ _) (bnd_cons (pl_bnd _ _ _) (bnd_cons (pl_bnd _ _ _) bnd_nil))))))))))) (bl_cons (bnd_cons (sl_b (kb_I _)) (bnd_cons (pl_bnd _ _ _) bnd_nil)) (bl_cons (bnd_cons (pl_bnd _ _ _) (bnd_cons (pl_bnd _ _ _) (bnd_cons (pl_bnd _ _ _) (bnd_cons (pl_bnd _ _ _) (bnd_cons (pl_bnd _ _ _) (bnd_cons (pl_bnd _ _ _) (bnd_cons (pl_bnd _ _ _) (bnd_cons (pl_bnd _ _ _) (bnd_cons (pl_bnd _ _ _) (bnd_cons (pl_bnd _ _ _) (bnd_cons (pl_bnd _ _ _) bnd_nil))))))))))) bl_nil))) ?_
                  exact ⟨(0, ([] : (List Int)), x_12.2, x_12.1), ⟨le_of_eq (eg oz), le_of_eq (eg (os rfl oz)), le_of_eq (eg (os rfl (os rfl oz))), le_of_eq (eg (os rfl (os rfl (os rfl oz)))), le_of_eq (eg (os rfl (os rfl (os rfl (os rfl oz))))), le_of_eq (eg (os rfl (os rfl (os rfl (os rfl (os rfl oz)))))), le_of_eq (eg (os rfl (os rfl (os rfl (os rfl (os rfl (os rfl oz))))))), le_of_eq (eg (os rfl (os rfl (os rfl (os rfl (os rfl (os rfl (os rfl oz)))))))), le_of_eq (eg (os rfl (os rfl (os rfl (os rfl (os rfl (os rfl (os rfl (os rfl oz))))))))), trivial⟩, rfl, some_of hz_7⟩
        · rintro e st ⟨vz_7, hH, rfl, rfl⟩
          refine aw_keep _ hH ?_
          refine aw_keep [(0, _), (2, _), (4, _), (6, _), (7, _), (8, _), (9, _), (10, _), (11, _)] ⟨lg oz, lg (os rfl oz), lg (os rfl (os rfl oz)), lg (os rfl (os rfl (os rfl oz))), lg (os rfl (os rfl (os rfl (os rfl oz)))), lg (os rfl (os rfl (os rfl (os rfl (os rfl oz))))), lg (os rfl (os rfl (os rfl (os rfl (os rfl (os rfl oz)))))), lg (os rfl (os rfl (os rfl (os rfl (os rfl (os rfl (os rfl oz))))))), lg (os rfl (os rfl (os rfl (os rfl (os rfl (os rfl (os rfl (os rfl oz)))))))), trivial⟩ ?_
          refine aw_seq ?_
          refine aw_region (by decide) ?_
          refine rts _ rfl (opD_move (os rfl (os rfl (os rfl (os rfl oz))))) ?_
          refine rts _ rfl (opD_move (ls rfl (os rfl (os rfl (os rfl (os rfl (os rfl oz))))))) ?_
          replace hz_6 := grd_some hz_6
          obtain ⟨hg_28, hz_6⟩ := hz_6
          refine rts _ rfl (opD_index_str Go.Proofs.Tryd.underlying9 (ls rfl lz) lz hg_28) ?_
          refine .nil ?_
          refine aw_keep [(0, _), (2, _), (4, _), (6, _), (7, _), (8, _), (9, _), (10, _), (11, _), (63, _)] ⟨lg (ls rfl (ls rfl (ls rfl oz))), lg (ls rfl (ls rfl (ls rfl (os rfl oz)))), lg (ls rfl (ls rfl (ls rfl (os rfl (os rfl oz))))), lg (ls rfl (ls rfl (ls rfl (os rfl (os rfl (os rfl oz)))))), lg (ls rfl (ls rfl (ls rfl (os rfl (os rfl (os rfl (os rfl oz))))))), lg (ls rfl (ls rfl (ls rfl (os rfl (os rfl (os rfl (os rfl (os rfl oz)))))))), lg (ls rfl (ls rfl (ls rfl (os rfl (os rfl (os rfl (os rfl (os rfl (os rfl oz))))))))), lg (ls rfl (ls rfl (ls rfl (os rfl (os rfl (os rfl (os rfl (os rfl (os rfl (os rfl oz)))))))))), lg (ls rfl (ls rfl (ls rfl (os rfl (os rfl (os rfl (os rfl (os rfl (os rfl (os rfl (os rfl oz))))))))))), lg lz, trivial⟩ ?_
          refine aw_block ?_
          refine aw_seq ?_
          refine aw_region (by decide) ?_
          refine rts _ rfl (opD_eql (os rfl (os rfl (os rfl (os rfl (os rfl (os rfl (os rfl (os rfl (os rfl oz))))))))) (ev_const _ _)) ?_
          refine rts _ rfl (opD_assign lz) ?_
          refine .nil ?_
          refine aw_keep [(0, _), (2, _), (4, _), (6, _), (7, _), (8, _), (9, _), (10, _), (11, _), (63, _), (78, _)] ⟨lg (ls rfl (ls rfl oz)), lg (ls rfl (ls rfl (os rfl oz))), lg (ls rfl (ls rfl (os rfl (os rfl oz)))), lg (ls rfl (ls rfl (os rfl (os rfl (os rfl oz))))), lg (ls rfl (ls rfl (os rfl (os rfl (os rfl (os rfl oz)))))), lg (ls rfl (ls rfl (os rfl (os rfl (os rfl (os rfl (os rfl oz))))))), lg (ls rfl (ls rfl (os rfl (os rfl (os rfl (os rfl (os rfl (os rfl oz)))))))), lg (ls rfl (ls rfl (os rfl (os rfl (os rfl (os rfl (os rfl (os rfl (os rfl oz))))))))), lg (ls rfl (ls rfl (os rfl (os rfl (os rfl (os rfl (os rfl (os rfl (os rfl (os rfl oz)))))))))), lg (ls rfl (ls rfl (os rfl (os rfl (os rfl (os rfl (os rfl (os rfl (os rfl (os rfl (os rfl oz))))))))))), lg lz, trivial⟩ ?_
          refine aw_cond _ (os rfl (os rfl (os rfl (os rfl (os rfl (os rfl (os rfl (os rfl (os rfl (os rfl oz)))))))))) (fun hc => ?_) (fun hc => ?_)
          · skip
            replace hz_6 := ifb_t hz_6 hc
            clear hc
            refine aw_region (by decide) ?_
            refine rts _ rfl (opD_move (os rfl (os rfl (os rfl (os rfl (os rfl (os rfl oz))))))) ?_
            refine rts _ rfl (opD_fieldAddr fo114_1_u4b (ls rfl (os rfl (os rfl (os rfl oz))))) ?_
            refine rts _ rfl (storeON rfl sz22_u4b lz (le_of_eq (ls rfl lz)) (one_pl rfl) rfl (Nat.le_of_ble_eq_true rfl) (pl_bnd _ _ _) (by simp only [na, nb, nc, nd, nf, ng, nh, ni, nj, nk] <;> rfl) (by simp only [na, nb, nc, nd, nf, ng, nh, ni, nj, nk] <;> rfl)) ?_
            refine .nil ?_
            refine wk_yesN rfl (l := [(0, sl (kI .u8) none none p0), (2, ptr (s.boxes.length + 0) 0), (4, ptr (s.boxes.length + 1) 0), (6, ptr (s.boxes.length + 2) 0), (7, pl (.string x_2)), (8, pl (.int .i64 t_4.1))]) (bs' := [⟨114, [pl (.int .u8 0), pl (.int .u64 0), pl (.int .u64 0), pl (.int .i64 0), pl (.int .u64 0), pl (.int .u64 0), pl (.string ⟨#[]⟩), pl (.string ⟨#[]⟩), pl (.int .u8 0), pl (.int .u64 0), pl (.bool false)]⟩, ⟨41, [sl (kI .u8) none none vz_7.2.2.2.b_, pl (.bool vz_7.2.2.2.wrong_)]⟩, ⟨114, [pl (.int .u8 t_4.2.2.Kind), pl (.int .u64 vz_7.1), pl (.int .u64 t_4.2.2.Handle), pl (.int .i64 t_4.2.2.Ref.Slot), pl (.int .u64 t_4.2.2.Ref.Gen), pl (.int .u64 t_4.2.2.To), pl (.string t_4.2.2.Key), pl (.string t_4.2.2.Value), pl (.int .u8 t_4.2.2.Rights), pl (.int .u64 t_4.2.2.Most), pl (.bool t_4.2.2.Flag)]⟩]) ⟨le_of_eq (eg (lx (ls rfl (ls rfl oz)))), le_of_eq (eg (lx (ls rfl (ls rfl (os rfl oz))))), le_of_eq (eg (lx (ls rfl (ls rfl (os rfl (os rfl oz)))))), le_of_eq (eg (lx (ls rfl (ls rfl (os rfl (os rfl (os rfl oz))))))), le_of_eq (eg (lx (ls rfl (ls rfl (os rfl (os rfl (os rfl (os rfl oz)))))))), le_of_eq (eg (lx (ls rfl (ls rfl (os rfl (os rfl (os rfl (os rfl (os rfl oz))))))))), trivial⟩ (bnd_cons (sl_b (kb_I _)) (bnd_cons (ptr_bnd _ (by first | omega | (simp only [List.length_append, List.length_cons, List.length_nil]; omega))) (bnd_cons (ptr_bnd _ (by first | omega | (simp only [List.length_append, List.length_cons, List.length_nil]; omega))) (bnd_cons (ptr_bnd _ (by first | omega | (simp only [List.length_append, List.length_cons, List.length_nil]; omega))) (bnd_cons (pl_bnd _ _ _) (bnd_cons (pl_bnd _ _ _) bnd_nil)))))) (Nat.le_of_ble_eq_true rfl) (by simp only [na, nb, nc, nd, nf, ng, nh, ni, nj, nk] <;> rfl) (bxle_same (bxle_same (bxle_same bxle_nil))) rfl (by simp only [na, nb, nc, nd, nf, ng, nh, ni, nj, nk] <;> rfl) (bl_cons (bnd_cons (pl_bnd _ _ _) (bnd_cons (pl_bnd _ _ _) (bnd_cons (pl_bnd _ _ _) (bnd_cons (pl_bnd _ _ _) (bnd_cons (pl_bnd _ _ _) (bnd_cons (pl_bnd _ _ _) (bnd_cons (pl_bnd _ _ _) (bnd_cons (pl_bnd _ _ _) (bnd_cons (pl_bnd _ _ _) (bnd_cons (pl_bnd _ _ _) (bnd_cons (pl_bnd _ _ _) bnd_nil))))))))))) (bl_cons (bnd_cons (sl_b (kb_I _)) (bnd_cons (pl_bnd _ _ _) bnd_nil)) (bl_cons (bnd_cons (pl_bnd _ _ _) (bnd_cons (pl_bnd _ _ _) (bnd_cons (pl_bnd _ _ _) (bnd_cons (pl_bnd _ _ _) (bnd_cons (pl_bnd _ _ _) (bnd_cons (pl_bnd _ _ _) (bnd_cons (pl_bnd _ _ _) (bnd_cons (pl_bnd _ _ _) (bnd_cons (pl_bnd _ _ _) (bnd_cons (pl_bnd _ _ _) (bnd_cons (pl_bnd _ _ _) bnd_nil))))))))))) bl_nil))) ?_
            exact ⟨(vz_7.2.2.2, (⟨t_4.2.2.Kind, vz_7.1, t_4.2.2.Handle, t_4.2.2.Ref, t_4.2.2.To, t_4.2.2.Key, t_4.2.2.Value, t_4.2.2.Rights, t_4.2.2.Most, t_4.2.2.Flag⟩ : Rq)), ⟨le_of_eq (eg oz), le_of_eq (eg (os rfl oz)), le_of_eq (eg (os rfl (os rfl oz))), le_of_eq (eg (os rfl (os rfl (os rfl oz)))), le_of_eq (eg (os rfl (os rfl (os rfl (os rfl oz))))), le_of_eq (eg (os rfl (os rfl (os rfl (os rfl (os rfl oz)))))), trivial⟩, rfl, some_of hz_6⟩
          · skip
            replace hz_6 := ifb_f hz_6 hc
            clear hc
            refine aw_seq ?_
            refine aw_region (by decide) ?_
            refine rts _ rfl (opD_eql (os rfl (os rfl (os rfl (os rfl (os rfl (os rfl (os rfl (os rfl (os rfl oz))))))))) (ev_const _ _)) ?_
            refine rts _ rfl (opD_assign lz) ?_
            refine .nil ?_
            refine aw_keep [(0, _), (2, _), (4, _), (6, _), (7, _), (8, _), (9, _), (10, _), (11, _), (63, _), (82, _)] ⟨lg (ls rfl (ls rfl oz)), lg (ls rfl (ls rfl (os rfl oz))), lg (ls rfl (ls rfl (os rfl (os rfl oz)))), lg (ls rfl (ls rfl (os rfl (os rfl (os rfl oz))))), lg (ls rfl (ls rfl (os rfl (os rfl (os rfl (os rfl oz)))))), lg (ls rfl (ls rfl (os rfl (os rfl (os rfl (os rfl (os rfl oz))))))), lg (ls rfl (ls rfl (os rfl (os rfl (os rfl (os rfl (os rfl (os rfl oz)))))))), lg (ls rfl (ls rfl (os rfl (os rfl (os rfl (os rfl (os rfl (os rfl (os rfl oz))))))))), lg (ls rfl (ls rfl (os rfl (os rfl (os rfl (os rfl (os rfl (os rfl (os rfl (os rfl oz)))))))))), lg (ls rfl (ls rfl (os rfl (os rfl (os rfl (os rfl (os rfl (os rfl (os rfl (os rfl (os rfl oz))))))))))), lg lz, trivial⟩ ?_
            refine aw_cond _ (os rfl (os rfl (os rfl (os rfl (os rfl (os rfl (os rfl (os rfl (os rfl (os rfl oz)))))))))) (fun hc => ?_) (fun hc => ?_)
            · skip
              replace hz_6 := ifb_t hz_6 hc
              clear hc
              refine aw_region (by decide) ?_
              refine rts _ rfl (opD_move (os rfl (os rfl (os rfl (os rfl (os rfl (os rfl oz))))))) ?_
              refine rts _ rfl (opD_fieldAddr fo114_2_u4b (ls rfl (os rfl (os rfl (os rfl oz))))) ?_
              refine rts _ rfl (storeON rfl sz22_u4b lz (le_of_eq (ls rfl lz)) (one_pl rfl) rfl (Nat.le_of_ble_eq_true rfl) (pl_bnd _ _ _) (by simp only [na, nb, nc, nd, nf, ng, nh, ni, nj, nk] <;> rfl) (by simp only [na, nb, nc, nd, nf, ng, nh, ni, nj, nk] <;> rfl)) ?_
              refine .nil ?_
              refine wk_yesN rfl (l := [(0, sl (kI .u8) none none p0), (2, ptr (s.boxes.length + 0) 0), (4, ptr (s.boxes.length + 1) 0), (6, ptr (s.boxes.length + 2) 0), (7, pl (.string x_2)), (8, pl (.int .i64 t_4.1))]) (bs' := [⟨114, [pl (.int .u8 0), pl (.int .u64 0), pl (.int .u64 0), pl (.int .i64 0), pl (.int .u64 0), pl (.int .u64 0), pl (.string ⟨#[]⟩), pl (.string ⟨#[]⟩), pl (.int .u8 0), pl (.int .u64 0), pl (.bool false)]⟩, ⟨41, [sl (kI .u8) none none vz_7.2.2.2.b_, pl (.bool vz_7.2.2.2.wrong_)]⟩, ⟨114, [pl (.int .u8 t_4.2.2.Kind), pl (.int .u64 t_4.2.2.Space), pl (.int .u64 vz_7.1), pl (.int .i64 t_4.2.2.Ref.Slot), pl (.int .u64 t_4.2.2.Ref.Gen), pl (.int .u64 t_4.2.2.To), pl (.string t_4.2.2.Key), pl (.string t_4.2.2.Value), pl (.int .u8 t_4.2.2.Rights), pl (.int .u64 t_4.2.2.Most), pl (.bool t_4.2.2.Flag)]⟩]) ⟨le_of_eq (eg (lx (ls rfl (ls rfl oz)))), le_of_eq (eg (lx (ls rfl (ls rfl (os rfl oz))))), le_of_eq (eg (lx (ls rfl (ls rfl (os rfl (os rfl oz)))))), le_of_eq (eg (lx (ls rfl (ls rfl (os rfl (os rfl (os rfl oz))))))), le_of_eq (eg (lx (ls rfl (ls rfl (os rfl (os rfl (os rfl (os rfl oz)))))))), le_of_eq (eg (lx (ls rfl (ls rfl (os rfl (os rfl (os rfl (os rfl (os rfl oz))))))))), trivial⟩ (bnd_cons (sl_b (kb_I _)) (bnd_cons (ptr_bnd _ (by first | omega | (simp only [List.length_append, List.length_cons, List.length_nil]; omega))) (bnd_cons (ptr_bnd _ (by first | omega | (simp only [List.length_append, List.length_cons, List.length_nil]; omega))) (bnd_cons (ptr_bnd _ (by first | omega | (simp only [List.length_append, List.length_cons, List.length_nil]; omega))) (bnd_cons (pl_bnd _ _ _) (bnd_cons (pl_bnd _ _ _) bnd_nil)))))) (Nat.le_of_ble_eq_true rfl) (by simp only [na, nb, nc, nd, nf, ng, nh, ni, nj, nk] <;> rfl) (bxle_same (bxle_same (bxle_same bxle_nil))) rfl (by simp only [na, nb, nc, nd, nf, ng, nh, ni, nj, nk] <;> rfl) (bl_cons (bnd_cons (pl_bnd _ _ _) (bnd_cons (pl_bnd _ _ _) (bnd_cons (pl_bnd _ _ _) (bnd_cons (pl_bnd _ _ _) (bnd_cons (pl_bnd _ _ _) (bnd_cons (pl_bnd _ _ _) (bnd_cons (pl_bnd _ _ _) (bnd_cons (pl_bnd _ _ _) (bnd_cons (pl_bnd _ _ _) (bnd_cons (pl_bnd _ _ _) (bnd_cons (pl_bnd _ _ _) bnd_nil))))))))))) (bl_cons (bnd_cons (sl_b (kb_I _)) (bnd_cons (pl_bnd _ _ _) bnd_nil)) (bl_cons (bnd_cons (pl_bnd _ _ _) (bnd_cons (pl_bnd _ _ _) (bnd_cons (pl_bnd _ _ _) (bnd_cons (pl_bnd _ _ _) (bnd_cons (pl_bnd _ _ _) (bnd_cons (pl_bnd _ _ _) (bnd_cons (pl_bnd _ _ _) (bnd_cons (pl_bnd _ _ _) (bnd_cons (pl_bnd _ _ _) (bnd_cons (pl_bnd _ _ _) (bnd_cons (pl_bnd _ _ _) bnd_nil))))))))))) bl_nil))) ?_
              exact ⟨(vz_7.2.2.2, (⟨t_4.2.2.Kind, t_4.2.2.Space, vz_7.1, t_4.2.2.Ref, t_4.2.2.To, t_4.2.2.Key, t_4.2.2.Value, t_4.2.2.Rights, t_4.2.2.Most, t_4.2.2.Flag⟩ : Rq)), ⟨le_of_eq (eg oz), le_of_eq (eg (os rfl oz)), le_of_eq (eg (os rfl (os rfl oz))), le_of_eq (eg (os rfl (os rfl (os rfl oz)))), le_of_eq (eg (os rfl (os rfl (os rfl (os rfl oz))))), le_of_eq (eg (os rfl (os rfl (os rfl (os rfl (os rfl oz)))))), trivial⟩, rfl, some_of hz_6⟩
            · skip
              replace hz_6 := ifb_f hz_6 hc
              clear hc
              refine aw_seq ?_
              refine aw_region (by decide) ?_
              refine rts _ rfl (opD_eql (os rfl (os rfl (os rfl (os rfl (os rfl (os rfl (os rfl (os rfl (os rfl oz))))))))) (ev_const _ _)) ?_
              refine rts _ rfl (opD_assign lz) ?_
              refine .nil ?_
              refine aw_keep [(0, _), (2, _), (4, _), (6, _), (7, _), (8, _), (9, _), (10, _), (11, _), (63, _), (86, _)] ⟨lg (ls rfl (ls rfl oz)), lg (ls rfl (ls rfl (os rfl oz))), lg (ls rfl (ls rfl (os rfl (os rfl oz)))), lg (ls rfl (ls rfl (os rfl (os rfl (os rfl oz))))), lg (ls rfl (ls rfl (os rfl (os rfl (os rfl (os rfl oz)))))), lg (ls rfl (ls rfl (os rfl (os rfl (os rfl (os rfl (os rfl oz))))))), lg (ls rfl (ls rfl (os rfl (os rfl (os rfl (os rfl (os rfl (os rfl oz)))))))), lg (ls rfl (ls rfl (os rfl (os rfl (os rfl (os rfl (os rfl (os rfl (os rfl oz))))))))), lg (ls rfl (ls rfl (os rfl (os rfl (os rfl (os rfl (os rfl (os rfl (os rfl (os rfl oz)))))))))), lg (ls rfl (ls rfl (os rfl (os rfl (os rfl (os rfl (os rfl (os rfl (os rfl (os rfl (os rfl oz))))))))))), lg lz, trivial⟩ ?_
              refine aw_cond _ (os rfl (os rfl (os rfl (os rfl (os rfl (os rfl (os rfl (os rfl (os rfl (os rfl oz)))))))))) (fun hc => ?_) (fun hc => ?_)
              · skip
                replace hz_6 := ifb_t hz_6 hc
                clear hc
                refine aw_region (by decide) ?_
                refine rts _ rfl (opD_move (os rfl (os rfl (os rfl (os rfl (os rfl (os rfl oz))))))) ?_
                refine rts _ rfl (opD_fieldAddr fo114_4_u4b (ls rfl (os rfl (os rfl (os rfl oz))))) ?_
                refine rts _ rfl (storeON rfl sz22_u4b lz (le_of_eq (ls rfl lz)) (one_pl rfl) rfl (Nat.le_of_ble_eq_true rfl) (pl_bnd _ _ _) (by simp only [na, nb, nc, nd, nf, ng, nh, ni, nj, nk] <;> rfl) (by simp only [na, nb, nc, nd, nf, ng, nh, ni, nj, nk] <;> rfl)) ?_
                refine .nil ?_
                refine wk_yesN rfl (l := [(0, sl (kI .u8) none none p0), (2, ptr (s.boxes.length + 0) 0), (4, ptr (s.boxes.length + 1) 0), (6, ptr (s.boxes.length + 2) 0), (7, pl (.string x_2)), (8, pl (.int .i64 t_4.1))]) (bs' := [⟨114, [pl (.int .u8 0), pl (.int .u64 0), pl (.int .u64 0), pl (.int .i64 0), pl (.int .u64 0), pl (.int .u64 0), pl (.string ⟨#[]⟩), pl (.string ⟨#[]⟩), pl (.int .u8 0), pl (.int .u64 0), pl (.bool false)]⟩, ⟨41, [sl (kI .u8) none none vz_7.2.2.2.b_, pl (.bool vz_7.2.2.2.wrong_)]⟩, ⟨114, [pl (.int .u8 t_4.2.2.Kind), pl (.int .u64 t_4.2.2.Space), pl (.int .u64 t_4.2.2.Handle), pl (.int .i64 t_4.2.2.Ref.Slot), pl (.int .u64 t_4.2.2.Ref.Gen), pl (.int .u64 vz_7.1), pl (.string t_4.2.2.Key), pl (.string t_4.2.2.Value), pl (.int .u8 t_4.2.2.Rights), pl (.int .u64 t_4.2.2.Most), pl (.bool t_4.2.2.Flag)]⟩]) ⟨le_of_eq (eg (lx (ls rfl (ls rfl oz)))), le_of_eq (eg (lx (ls rfl (ls rfl (os rfl oz))))), le_of_eq (eg (lx (ls rfl (ls rfl (os rfl (os rfl oz)))))), le_of_eq (eg (lx (ls rfl (ls rfl (os rfl (os rfl (os rfl oz))))))), le_of_eq (eg (lx (ls rfl (ls rfl (os rfl (os rfl (os rfl (os rfl oz)))))))), le_of_eq (eg (lx (ls rfl (ls rfl (os rfl (os rfl (os rfl (os rfl (os rfl oz))))))))), trivial⟩ (bnd_cons (sl_b (kb_I _)) (bnd_cons (ptr_bnd _ (by first | omega | (simp only [List.length_append, List.length_cons, List.length_nil]; omega))) (bnd_cons (ptr_bnd _ (by first | omega | (simp only [List.length_append, List.length_cons, List.length_nil]; omega))) (bnd_cons (ptr_bnd _ (by first | omega | (simp only [List.length_append, List.length_cons, List.length_nil]; omega))) (bnd_cons (pl_bnd _ _ _) (bnd_cons (pl_bnd _ _ _) bnd_nil)))))) (Nat.le_of_ble_eq_true rfl) (by simp only [na, nb, nc, nd, nf, ng, nh, ni, nj, nk] <;> rfl) (bxle_same (bxle_same (bxle_same bxle_nil))) rfl (by simp only [na, nb, nc, nd, nf, ng, nh, ni, nj, nk] <;> rfl) (bl_cons (bnd_cons (pl_bnd _ _ _) (bnd_cons (pl_bnd _ _ _) (bnd_cons (pl_bnd _ _ _) (bnd_cons (pl_bnd _ _ _) (bnd_cons (pl_bnd _ _ _) (bnd_cons (pl_bnd _ _ _) (bnd_cons (pl_bnd _ _ _) (bnd_cons (pl_bnd _ _ _) (bnd_cons (pl_bnd _ _ _) (bnd_cons (pl_bnd _ _ _) (bnd_cons (pl_bnd _ _ _) bnd_nil))))))))))) (bl_cons (bnd_cons (sl_b (kb_I _)) (bnd_cons (pl_bnd _ _ _) bnd_nil)) (bl_cons (bnd_cons (pl_bnd _ _ _) (bnd_cons (pl_bnd _ _ _) (bnd_cons (pl_bnd _ _ _) (bnd_cons (pl_bnd _ _ _) (bnd_cons (pl_bnd _ _ _) (bnd_cons (pl_bnd _ _ _) (bnd_cons (pl_bnd _ _ _) (bnd_cons (pl_bnd _ _ _) (bnd_cons (pl_bnd _ _ _) (bnd_cons (pl_bnd _ _ _) (bnd_cons (pl_bnd _ _ _) bnd_nil))))))))))) bl_nil))) ?_
                exact ⟨(vz_7.2.2.2, (⟨t_4.2.2.Kind, t_4.2.2.Space, t_4.2.2.Handle, t_4.2.2.Ref, vz_7.1, t_4.2.2.Key, t_4.2.2.Value, t_4.2.2.Rights, t_4.2.2.Most, t_4.2.2.Flag⟩ : Rq)), ⟨le_of_eq (eg oz), le_of_eq (eg (os rfl oz)), le_of_eq (eg (os rfl (os rfl oz))), le_of_eq (eg (os rfl (os rfl (os rfl oz)))), le_of_eq (eg (os rfl (os rfl (os rfl (os rfl oz))))), le_of_eq (eg (os rfl (os rfl (os rfl (os rfl (os rfl oz)))))), trivial⟩, rfl, some_of hz_6⟩
              · skip
                replace hz_6 := ifb_f hz_6 hc
                clear hc
                refine aw_seq ?_
                refine aw_region (by decide) ?_
                refine rts _ rfl (opD_eql (os rfl (os rfl (os rfl (os rfl (os rfl (os rfl (os rfl (os rfl (os rfl oz))))))))) (ev_const _ _)) ?_
                refine rts _ rfl (opD_assign lz) ?_
                refine .nil ?_
                refine aw_keep [(0, _), (2, _), (4, _), (6, _), (7, _), (8, _), (9, _), (10, _), (11, _), (63, _), (90, _)] ⟨lg (ls rfl (ls rfl oz)), lg (ls rfl (ls rfl (os rfl oz))), lg (ls rfl (ls rfl (os rfl (os rfl oz)))), lg (ls rfl (ls rfl (os rfl (os rfl (os rfl oz))))), lg (ls rfl (ls rfl (os rfl (os rfl (os rfl (os rfl oz)))))), lg (ls rfl (ls rfl (os rfl (os rfl (os rfl (os rfl (os rfl oz))))))), lg (ls rfl (ls rfl (os rfl (os rfl (os rfl (os rfl (os rfl (os rfl oz)))))))), lg (ls rfl (ls rfl (os rfl (os rfl (os rfl (os rfl (os rfl (os rfl (os rfl oz))))))))), lg (ls rfl (ls rfl (os rfl (os rfl (os rfl (os rfl (os rfl (os rfl (os rfl (os rfl oz)))))))))), lg (ls rfl (ls rfl (os rfl (os rfl (os rfl (os rfl (os rfl (os rfl (os rfl (os rfl (os rfl oz))))))))))), lg lz, trivial⟩ ?_
                refine aw_cond _ (os rfl (os rfl (os rfl (os rfl (os rfl (os rfl (os rfl (os rfl (os rfl (os rfl oz)))))))))) (fun hc => ?_) (fun hc => ?_)
                · skip
                  replace hz_6 := ifb_t hz_6 hc
                  clear hc
                  refine aw_region (by decide) ?_
                  refine rts _ rfl (opD_move (os rfl (os rfl (os rfl (os rfl (os rfl (os rfl oz))))))) ?_
                  refine rts _ rfl (opD_fieldAddr fo114_8_u4b (ls rfl (os rfl (os rfl (os rfl oz))))) ?_
                  refine rts _ rfl (storeON rfl sz22_u4b lz (le_of_eq (ls rfl lz)) (one_pl rfl) rfl (Nat.le_of_ble_eq_true rfl) (pl_bnd _ _ _) (by simp only [na, nb, nc, nd, nf, ng, nh, ni, nj, nk] <;> rfl) (by simp only [na, nb, nc, nd, nf, ng, nh, ni, nj, nk] <;> rfl)) ?_
                  refine .nil ?_
                  refine wk_yesN rfl (l := [(0, sl (kI .u8) none none p0), (2, ptr (s.boxes.length + 0) 0), (4, ptr (s.boxes.length + 1) 0), (6, ptr (s.boxes.length + 2) 0), (7, pl (.string x_2)), (8, pl (.int .i64 t_4.1))]) (bs' := [⟨114, [pl (.int .u8 0), pl (.int .u64 0), pl (.int .u64 0), pl (.int .i64 0), pl (.int .u64 0), pl (.int .u64 0), pl (.string ⟨#[]⟩), pl (.string ⟨#[]⟩), pl (.int .u8 0), pl (.int .u64 0), pl (.bool false)]⟩, ⟨41, [sl (kI .u8) none none vz_7.2.2.2.b_, pl (.bool vz_7.2.2.2.wrong_)]⟩, ⟨114, [pl (.int .u8 t_4.2.2.Kind), pl (.int .u64 t_4.2.2.Space), pl (.int .u64 t_4.2.2.Handle), pl (.int .i64 t_4.2.2.Ref.Slot), pl (.int .u64 t_4.2.2.Ref.Gen), pl (.int .u64 t_4.2.2.To), pl (.string t_4.2.2.Key), pl (.string t_4.2.2.Value), pl (.int .u8 t_4.2.2.Rights), pl (.int .u64 vz_7.1), pl (.bool t_4.2.2.Flag)]⟩]) ⟨le_of_eq (eg (lx (ls rfl (ls rfl oz)))), le_of_eq (eg (lx (ls rfl (ls rfl (os rfl oz))))), le_of_eq (eg (lx (ls rfl (ls rfl (os rfl (os rfl oz)))))), le_of_eq (eg (lx (ls rfl (ls rfl (os rfl (os rfl (os rfl oz))))))), le_of_eq (eg (lx (ls rfl (ls rfl (os rfl (os rfl (os rfl (os rfl oz)))))))), le_of_eq (eg (lx (ls rfl (ls rfl (os rfl (os rfl (os rfl (os rfl (os rfl oz))))))))), trivial⟩ (bnd_cons (sl_b (kb_I _)) (bnd_cons (ptr_bnd _ (by first | omega | (simp only [List.length_append, List.length_cons, List.length_nil]; omega))) (bnd_cons (ptr_bnd _ (by first | omega | (simp only [List.length_append, List.length_cons, List.length_nil]; omega))) (bnd_cons (ptr_bnd _ (by first | omega | (simp only [List.length_append, List.length_cons, List.length_nil]; omega))) (bnd_cons (pl_bnd _ _ _) (bnd_cons (pl_bnd _ _ _) bnd_nil)))))) (Nat.le_of_ble_eq_true rfl) (by simp only [na, nb, nc, nd, nf, ng, nh, ni, nj, nk] <;> rfl) (bxle_same (bxle_same (bxle_same bxle_nil))) rfl (by simp only [na, nb, nc, nd, nf, ng, nh, ni, nj, nk] <;> rfl) (bl_cons (bnd_cons (pl_bnd _ _ _) (bnd_cons (pl_bnd _ _ _) (bnd_cons (pl_bnd _ _ _) (bnd_cons (pl_bnd _ _ _) (bnd_cons (pl_bnd _ _ _) (bnd_cons (pl_bnd _ _ _) (bnd_cons (pl_bnd _ _ _) (bnd_cons (pl_bnd _ _ _) (bnd_cons (pl_bnd _ _ _) (bnd_cons (pl_bnd _ _ _) (bnd_cons (pl_bnd _ _ _) bnd_nil))))))))))) (bl_cons (bnd_cons (sl_b (kb_I _)) (bnd_cons (pl_bnd _ _ _) bnd_nil)) (bl_cons (bnd_cons (pl_bnd _ _ _) (bnd_cons (pl_bnd _ _ _) (bnd_cons (pl_bnd _ _ _) (bnd_cons (pl_bnd _ _ _) (bnd_cons (pl_bnd _ _ _) (bnd_cons (pl_bnd _ _ _) (bnd_cons (pl_bnd _ _ _) (bnd_cons (pl_bnd _ _ _) (bnd_cons (pl_bnd _ _ _) (bnd_cons (pl_bnd _ _ _) (bnd_cons (pl_bnd _ _ _) bnd_nil))))))))))) bl_nil))) ?_
                  exact ⟨(vz_7.2.2.2, (⟨t_4.2.2.Kind, t_4.2.2.Space, t_4.2.2.Handle, t_4.2.2.Ref, t_4.2.2.To, t_4.2.2.Key, t_4.2.2.Value, t_4.2.2.Rights, vz_7.1, t_4.2.2.Flag⟩ : Rq)), ⟨le_of_eq (eg oz), le_of_eq (eg (os rfl oz)), le_of_eq (eg (os rfl (os rfl oz))), le_of_eq (eg (os rfl (os rfl (os rfl oz)))), le_of_eq (eg (os rfl (os rfl (os rfl (os rfl oz))))), le_of_eq (eg (os rfl (os rfl (os rfl (os rfl (os rfl oz)))))), trivial⟩, rfl, some_of hz_6⟩
                · skip
                  replace hz_6 := ifb_f hz_6 hc
                  clear hc
                  refine aw_seq ?_
                  refine aw_region (by decide) ?_
                  refine rts _ rfl (opD_eql (os rfl (os rfl (os rfl (os rfl (os rfl (os rfl (os rfl (os rfl (os rfl oz))))))))) (ev_const _ _)) ?_
                  refine rts _ rfl (opD_assign lz) ?_
                  refine .nil ?_
                  refine aw_keep [(0, _), (2, _), (4, _), (6, _), (7, _), (8, _), (10, _), (11, _), (63, _), (94, _)] ⟨lg (ls rfl (ls rfl oz)), lg (ls rfl (ls rfl (os rfl oz))), lg (ls rfl (ls rfl (os rfl (os rfl oz)))), lg (ls rfl (ls rfl (os rfl (os rfl (os rfl oz))))), lg (ls rfl (ls rfl (os rfl (os rfl (os rfl (os rfl oz)))))), lg (ls rfl (ls rfl (os rfl (os rfl (os rfl (os rfl (os rfl oz))))))), lg (ls rfl (ls rfl (os rfl (os rfl (os rfl (os rfl (os rfl (os rfl (os rfl oz))))))))), lg (ls rfl (ls rfl (os rfl (os rfl (os rfl (os rfl (os rfl (os rfl (os rfl (os rfl oz)))))))))), lg (ls rfl (ls rfl (os rfl (os rfl (os rfl (os rfl (os rfl (os rfl (os rfl (os rfl (os rfl oz))))))))))), lg lz, trivial⟩ ?_
                  refine aw_cond _ (os rfl (os rfl (os rfl (os rfl (os rfl (os rfl (os rfl (os rfl (os rfl oz))))))))) (fun hc => ?_) (fun hc => ?_)
                  · skip
                    replace hz_6 := ifb_t hz_6 hc
                    clear hc
                    refine aw_region (by decide) ?_
                    refine rts _ rfl (opD_move (os rfl (os rfl (os rfl (os rfl (os rfl (os rfl oz))))))) ?_
                    refine rts _ rfl (opD_bytes_str Go.Proofs.Tryd.underlying23 Go.Proofs.Tryd.underlying5 Go.Proofs.Tryd.underlying9 lz) ?_
                    refine rts _ rfl (opD_fieldAddr fo114_5_u4b (ls rfl (ls rfl (os rfl (os rfl (os rfl oz)))))) ?_
                    refine rts _ rfl (storeON rfl sz9_u4b lz (le_of_eq (ls rfl lz)) (one_pl rfl) rfl (Nat.le_of_ble_eq_true rfl) (pl_bnd _ _ _) (by simp only [na, nb, nc, nd, nf, ng, nh, ni, nj, nk] <;> rfl) (by simp only [na, nb, nc, nd, nf, ng, nh, ni, nj, nk] <;> rfl)) ?_
                    refine .nil ?_
                    refine wk_yesN rfl (l := [(0, sl (kI .u8) none none p0), (2, ptr (s.boxes.length + 0) 0), (4, ptr (s.boxes.length + 1) 0), (6, ptr (s.boxes.length + 2) 0), (7, pl (.string x_2)), (8, pl (.int .i64 t_4.1))]) (bs' := [⟨114, [pl (.int .u8 0), pl (.int .u64 0), pl (.int .u64 0), pl (.int .i64 0), pl (.int .u64 0), pl (.int .u64 0), pl (.string ⟨#[]⟩), pl (.string ⟨#[]⟩), pl (.int .u8 0), pl (.int .u64 0), pl (.bool false)]⟩, ⟨41, [sl (kI .u8) none none vz_7.2.2.2.b_, pl (.bool vz_7.2.2.2.wrong_)]⟩, ⟨114, [pl (.int .u8 t_4.2.2.Kind), pl (.int .u64 t_4.2.2.Space), pl (.int .u64 t_4.2.2.Handle), pl (.int .i64 t_4.2.2.Ref.Slot), pl (.int .u64 t_4.2.2.Ref.Gen), pl (.int .u64 t_4.2.2.To), pl (.string (strOf vz_7.2.1)), pl (.string t_4.2.2.Value), pl (.int .u8 t_4.2.2.Rights), pl (.int .u64 t_4.2.2.Most), pl (.bool t_4.2.2.Flag)]⟩]) ⟨le_of_eq (eg (lx (ls rfl (ls rfl (ls rfl oz))))), le_of_eq (eg (lx (ls rfl (ls rfl (ls rfl (os rfl oz)))))), le_of_eq (eg (lx (ls rfl (ls rfl (ls rfl (os rfl (os rfl oz))))))), le_of_eq (eg (lx (ls rfl (ls rfl (ls rfl (os rfl (os rfl (os rfl oz)))))))), le_of_eq (eg (lx (ls rfl (ls rfl (ls rfl (os rfl (os rfl (os rfl (os rfl oz))))))))), le_of_eq (eg (lx (ls rfl (ls rfl (ls rfl (os rfl (os rfl (os rfl (os rfl (os rfl oz)))))))))), trivial⟩ (bnd_cons (sl_b (kb_I _)) (bnd_cons (ptr_bnd _ (by first | omega | (simp only [List.length_append, List.length_cons, List.length_nil]; omega))) (bnd_cons (ptr_bnd _ (by first | omega | (simp only [List.length_append, List.length_cons, List.length_nil]; omega))) (bnd_cons (ptr_bnd _ (by first | omega | (simp only [List.length_append, List.length_cons, List.length_nil]; omega))) (bnd_cons (pl_bnd _ _ _) (bnd_cons (pl_bnd _ _ _) bnd_nil)))))) (Nat.le_of_ble_eq_true rfl) (by simp only [na, nb, nc, nd, nf, ng, nh, ni, nj, nk] <;> rfl) (bxle_same (bxle_same (bxle_same bxle_nil))) rfl (by simp only [na, nb, nc, nd, nf, ng, nh, ni, nj, nk] <;> rfl) (bl_cons (bnd_cons (pl_bnd _ _ _) (bnd_cons (pl_bnd _ _ _) (bnd_cons (pl_bnd _ _ _) (bnd_cons (pl_bnd _ _ _) (bnd_cons (pl_bnd _ _ _) (bnd_cons (pl_bnd _ _ _) (bnd_cons (pl_bnd _ _ _) (bnd_cons (pl_bnd _ _ _) (bnd_cons (pl_bnd _ _ _) (bnd_cons (pl_bnd _ _ _) (bnd_cons (pl_bnd _ _ _) bnd_nil))))))))))) (bl_cons (bnd_cons (sl_b (kb_I _)) (bnd_cons (pl_bnd _ _ _) bnd_nil)) (bl_cons (bnd_cons (pl_bnd _ _ _) (bnd_cons (pl_bnd _ _ _) (bnd_cons (pl_bnd _ _ _) (bnd_cons (pl_bnd _ _ _) (bnd_cons (pl_bnd _ _ _) (bnd_cons (pl_bnd _ _ _) (bnd_cons (pl_bnd _ _ _) (bnd_cons (pl_bnd _ _ _) (bnd_cons (pl_bnd _ _ _) (bnd_cons (pl_bnd _ _ _) (bnd_cons (pl_bnd _ _ _) bnd_nil))))))))))) bl_nil))) ?_
                    exact ⟨(vz_7.2.2.2, (⟨t_4.2.2.Kind, t_4.2.2.Space, t_4.2.2.Handle, t_4.2.2.Ref, t_4.2.2.To, (strOf vz_7.2.1), t_4.2.2.Value, t_4.2.2.Rights, t_4.2.2.Most, t_4.2.2.Flag⟩ : Rq)), ⟨le_of_eq (eg oz), le_of_eq (eg (os rfl oz)), le_of_eq (eg (os rfl (os rfl oz))), le_of_eq (eg (os rfl (os rfl (os rfl oz)))), le_of_eq (eg (os rfl (os rfl (os rfl (os rfl oz))))), le_of_eq (eg (os rfl (os rfl (os rfl (os rfl (os rfl oz)))))), trivial⟩, rfl, some_of hz_6⟩
                  · skip
                    replace hz_6 := ifb_f hz_6 hc
                    clear hc
                    refine aw_seq ?_
                    refine aw_region (by decide) ?_
                    refine rts _ rfl (opD_eql (os rfl (os rfl (os rfl (os rfl (os rfl (os rfl (os rfl (os rfl oz)))))))) (ev_const _ _)) ?_
                    refine rts _ rfl (opD_assign lz) ?_
                    refine .nil ?_
                    refine aw_keep [(0, _), (2, _), (4, _), (6, _), (7, _), (8, _), (10, _), (11, _), (63, _), (99, _)] ⟨lg (ls rfl (ls rfl oz)), lg (ls rfl (ls rfl (os rfl oz))), lg (ls rfl (ls rfl (os rfl (os rfl oz)))), lg (ls rfl (ls rfl (os rfl (os rfl (os rfl oz))))), lg (ls rfl (ls rfl (os rfl (os rfl (os rfl (os rfl oz)))))), lg (ls rfl (ls rfl (os rfl (os rfl (os rfl (os rfl (os rfl oz))))))), lg (ls rfl (ls rfl (os rfl (os rfl (os rfl (os rfl (os rfl (os rfl oz)))))))), lg (ls rfl (ls rfl (os rfl (os rfl (os rfl (os rfl (os rfl (os rfl (os rfl oz))))))))), lg (ls rfl (ls rfl (os rfl (os rfl (os rfl (os rfl (os rfl (os rfl (os rfl (os rfl oz)))))))))), lg lz, trivial⟩ ?_
                    refine aw_cond _ (os rfl (os rfl (os rfl (os rfl (os rfl (os rfl (os rfl (os rfl (os rfl oz))))))))) (fun hc => ?_) (fun hc => ?_)
                    · skip
                      replace hz_6 := ifb_t hz_6 hc
                      clear hc
                      refine aw_region (by decide) ?_
                      refine rts _ rfl (opD_move (os rfl (os rfl (os rfl (os rfl (os rfl (os rfl oz))))))) ?_
                      refine rts _ rfl (opD_bytes_str Go.Proofs.Tryd.underlying23 Go.Proofs.Tryd.underlying5 Go.Proofs.Tryd.underlying9 lz) ?_
                      refine rts _ rfl (opD_fieldAddr fo114_6_u4b (ls rfl (ls rfl (os rfl (os rfl (os rfl oz)))))) ?_
                      refine rts _ rfl (storeON rfl sz9_u4b lz (le_of_eq (ls rfl lz)) (one_pl rfl) rfl (Nat.le_of_ble_eq_true rfl) (pl_bnd _ _ _) (by simp only [na, nb, nc, nd, nf, ng, nh, ni, nj, nk] <;> rfl) (by simp only [na, nb, nc, nd, nf, ng, nh, ni, nj, nk] <;> rfl)) ?_
                      refine .nil ?_
                      refine wk_yesN rfl (l := [(0, sl (kI .u8) none none p0), (2, ptr (s.boxes.length + 0) 0), (4, ptr (s.boxes.length + 1) 0), (6, ptr (s.boxes.length + 2) 0), (7, pl (.string x_2)), (8, pl (.int .i64 t_4.1))]) (bs' := [⟨114, [pl (.int .u8 0), pl (.int .u64 0), pl (.int .u64 0), pl (.int .i64 0), pl (.int .u64 0), pl (.int .u64 0), pl (.string ⟨#[]⟩), pl (.string ⟨#[]⟩), pl (.int .u8 0), pl (.int .u64 0), pl (.bool false)]⟩, ⟨41, [sl (kI .u8) none none vz_7.2.2.2.b_, pl (.bool vz_7.2.2.2.wrong_)]⟩, ⟨114, [pl (.int .u8 t_4.2.2.Kind), pl (.int .u64 t_4.2.2.Space), pl (.int .u64 t_4.2.2.Handle), pl (.int .i64 t_4.2.2.Ref.Slot), pl (.int .u64 t_4.2.2.Ref.Gen), pl (.int .u64 t_4.2.2.To), pl (.string t_4.2.2.Key), pl (.string (strOf vz_7.2.1)), pl (.int .u8 t_4.2.2.Rights), pl (.int .u64 t_4.2.2.Most), pl (.bool t_4.2.2.Flag)]⟩]) ⟨le_of_eq (eg (lx (ls rfl (ls rfl (ls rfl oz))))), le_of_eq (eg (lx (ls rfl (ls rfl (ls rfl (os rfl oz)))))), le_of_eq (eg (lx (ls rfl (ls rfl (ls rfl (os rfl (os rfl oz))))))), le_of_eq (eg (lx (ls rfl (ls rfl (ls rfl (os rfl (os rfl (os rfl oz)))))))), le_of_eq (eg (lx (ls rfl (ls rfl (ls rfl (os rfl (os rfl (os rfl (os rfl oz))))))))), le_of_eq (eg (lx (ls rfl (ls rfl (ls rfl (os rfl (os rfl (os rfl (os rfl (os rfl oz)))))))))), trivial⟩ (bnd_cons (sl_b (kb_I _)) (bnd_cons (ptr_bnd _ (by first | omega | (simp only [List.length_append, List.length_cons, List.length_nil]; omega))) (bnd_cons (ptr_bnd _ (by first | omega | (simp only [List.length_append, List.length_cons, List.length_nil]; omega))) (bnd_cons (ptr_bnd _ (by first | omega | (simp only [List.length_append, List.length_cons, List.length_nil]; omega))) (bnd_cons (pl_bnd _ _ _) (bnd_cons (pl_bnd _ _ _) bnd_nil)))))) (Nat.le_of_ble_eq_true rfl) (by simp only [na, nb, nc, nd, nf, ng, nh, ni, nj, nk] <;> rfl) (bxle_same (bxle_same (bxle_same bxle_nil))) rfl (by simp only [na, nb, nc, nd, nf, ng, nh, ni, nj, nk] <;> rfl) (bl_cons (bnd_cons (pl_bnd _ _ _) (bnd_cons (pl_bnd _ _ _) (bnd_cons (pl_bnd _ _ _) (bnd_cons (pl_bnd _ _ _) (bnd_cons (pl_bnd _ _ _) (bnd_cons (pl_bnd _ _ _) (bnd_cons (pl_bnd _ _ _) (bnd_cons (pl_bnd _ _ _) (bnd_cons (pl_bnd _ _ _) (bnd_cons (pl_bnd _ _ _) (bnd_cons (pl_bnd _ _ _) bnd_nil))))))))))) (bl_cons (bnd_cons (sl_b (kb_I _)) (bnd_cons (pl_bnd _ _ _) bnd_nil)) (bl_cons (bnd_cons (pl_bnd _ _ _) (bnd_cons (pl_bnd _ _ _) (bnd_cons (pl_bnd _ _ _) (bnd_cons (pl_bnd _ _ _) (bnd_cons (pl_bnd _ _ _) (bnd_cons (pl_bnd _ _ _) (bnd_cons (pl_bnd _ _ _) (bnd_cons (pl_bnd _ _ _) (bnd_cons (pl_bnd _ _ _) (bnd_cons (pl_bnd _ _ _) (bnd_cons (pl_bnd _ _ _) bnd_nil))))))))))) bl_nil))) ?_
                      exact ⟨(vz_7.2.2.2, (⟨t_4.2.2.Kind, t_4.2.2.Space, t_4.2.2.Handle, t_4.2.2.Ref, t_4.2.2.To, t_4.2.2.Key, (strOf vz_7.2.1), t_4.2.2.Rights, t_4.2.2.Most, t_4.2.2.Flag⟩ : Rq)), ⟨le_of_eq (eg oz), le_of_eq (eg (os rfl oz)), le_of_eq (eg (os rfl (os rfl oz))), le_of_eq (eg (os rfl (os rfl (os rfl oz)))), le_of_eq (eg (os rfl (os rfl (os rfl (os rfl oz))))), le_of_eq (eg (os rfl (os rfl (os rfl (os rfl (os rfl oz)))))), trivial⟩, rfl, some_of hz_6⟩
                    · skip
                      replace hz_6 := ifb_f hz_6 hc
                      clear hc
                      refine aw_seq ?_
                      refine aw_region (by decide) ?_
                      refine rts _ rfl (opD_eql (os rfl (os rfl (os rfl (os rfl (os rfl (os rfl (os rfl (os rfl oz)))))))) (ev_const _ _)) ?_
                      refine rts _ rfl (opD_assign lz) ?_
                      refine .nil ?_
                      refine aw_keep [(0, _), (2, _), (4, _), (6, _), (7, _), (8, _), (11, _), (63, _), (104, _)] ⟨lg (ls rfl (ls rfl oz)), lg (ls rfl (ls rfl (os rfl oz))), lg (ls rfl (ls rfl (os rfl (os rfl oz)))), lg (ls rfl (ls rfl (os rfl (os rfl (os rfl oz))))), lg (ls rfl (ls rfl (os rfl (os rfl (os rfl (os rfl oz)))))), lg (ls rfl (ls rfl (os rfl (os rfl (os rfl (os rfl (os rfl oz))))))), lg (ls rfl (ls rfl (os rfl (os rfl (os rfl (os rfl (os rfl (os rfl (os rfl oz))))))))), lg (ls rfl (ls rfl (os rfl (os rfl (os rfl (os rfl (os rfl (os rfl (os rfl (os rfl oz)))))))))), lg lz, trivial⟩ ?_
                      refine aw_cond _ (os rfl (os rfl (os rfl (os rfl (os rfl (os rfl (os rfl (os rfl oz)))))))) (fun hc => ?_) (fun hc => ?_)
                      · skip
                        replace hz_6 := ifb_t hz_6 hc
                        clear hc
                        refine aw_region (by decide) ?_
                        refine rts _ rfl (opD_move (os rfl (os rfl (os rfl (os rfl (os rfl (os rfl oz))))))) ?_
                        refine rts _ rfl (opD_fieldAddr fo114_7_u4b (ls rfl (os rfl (os rfl (os rfl oz))))) ?_
                        refine rts _ rfl (storeON rfl sz5_u4b lz (le_of_eq (ls rfl lz)) (one_pl rfl) rfl (Nat.le_of_ble_eq_true rfl) (pl_bnd _ _ _) (by simp only [na, nb, nc, nd, nf, ng, nh, ni, nj, nk] <;> rfl) (by simp only [na, nb, nc, nd, nf, ng, nh, ni, nj, nk] <;> rfl)) ?_
                        refine .nil ?_
                        refine wk_yesN rfl (l := [(0, sl (kI .u8) none none p0), (2, ptr (s.boxes.length + 0) 0), (4, ptr (s.boxes.length + 1) 0), (6, ptr (s.boxes.length + 2) 0), (7, pl (.string x_2)), (8, pl (.int .i64 t_4.1))]) (bs' := [⟨114, [pl (.int .u8 0), pl (.int .u64 0), pl (.int .u64 0), pl (.int .i64 0), pl (.int .u64 0), pl (.int .u64 0), pl (.string ⟨#[]⟩), pl (.string ⟨#[]⟩), pl (.int .u8 0), pl (.int .u64 0), pl (.bool false)]⟩, ⟨41, [sl (kI .u8) none none vz_7.2.2.2.b_, pl (.bool vz_7.2.2.2.wrong_)]⟩, ⟨114, [pl (.int .u8 t_4.2.2.Kind), pl (.int .u64 t_4.2.2.Space), pl (.int .u64 t_4.2.2.Handle), pl (.int .i64 t_4.2.2.Ref.Slot), pl (.int .u64 t_4.2.2.Ref.Gen), pl (.int .u64 t_4.2.2.To), pl (.string t_4.2.2.Key), pl (.string t_4.2.2.Value), pl (.int .u8 vz_7.2.2.1), pl (.int .u64 t_4.2.2.Most), pl (.bool t_4.2.2.Flag)]⟩]) ⟨le_of_eq (eg (lx (ls rfl (ls rfl oz)))), le_of_eq (eg (lx (ls rfl (ls rfl (os rfl oz))))), le_of_eq (eg (lx (ls rfl (ls rfl (os rfl (os rfl oz)))))), le_of_eq (eg (lx (ls rfl (ls rfl (os rfl (os rfl (os rfl oz))))))), le_of_eq (eg (lx (ls rfl (ls rfl (os rfl (os rfl (os rfl (os rfl oz)))))))), le_of_eq (eg (lx (ls rfl (ls rfl (os rfl (os rfl (os rfl (os rfl (os rfl oz))))))))), trivial⟩ (bnd_cons (sl_b (kb_I _)) (bnd_cons (ptr_bnd _ (by first | omega | (simp only [List.length_append, List.length_cons, List.length_nil]; omega))) (bnd_cons (ptr_bnd _ (by first | omega | (simp only [List.length_append, List.length_cons, List.length_nil]; omega))) (bnd_cons (ptr_bnd _ (by first | omega | (simp only [List.length_append, List.length_cons, List.length_nil]; omega))) (bnd_cons (pl_bnd _ _ _) (bnd_cons (pl_bnd _ _ _) bnd_nil)))))) (Nat.le_of_ble_eq_true rfl) (by simp only [na, nb, nc, nd, nf, ng, nh, ni, nj, nk] <;> rfl) (bxle_same (bxle_same (bxle_same bxle_nil))) rfl (by simp only [na, nb, nc, nd, nf, ng, nh, ni, nj, nk] <;> rfl) (bl_cons (bnd_cons (pl_bnd _ _ _) (bnd_cons (pl_bnd _ _ _) (bnd_cons (pl_bnd _ _ _) (bnd_cons (pl_bnd _ _ _) (bnd_cons (pl_bnd _ _ _) (bnd_cons (pl_bnd _ _ _) (bnd_cons (pl_bnd _ _ _) (bnd_cons (pl_bnd _ _ _) (bnd_cons (pl_bnd _ _ _) (bnd_cons (pl_bnd _ _ _) (bnd_cons (pl_bnd _ _ _) bnd_nil))))))))))) (bl_cons (bnd_cons (sl_b (kb_I _)) (bnd_cons (pl_bnd _ _ _) bnd_nil)) (bl_cons (bnd_cons (pl_bnd _ _ _) (bnd_cons (pl_bnd _ _ _) (bnd_cons (pl_bnd _ _ _) (bnd_cons (pl_bnd _ _ _) (bnd_cons (pl_bnd _ _ _) (bnd_cons (pl_bnd _ _ _) (bnd_cons (pl_bnd _ _ _) (bnd_cons (pl_bnd _ _ _) (bnd_cons (pl_bnd _ _ _) (bnd_cons (pl_bnd _ _ _) (bnd_cons (pl_bnd _ _ _) bnd_nil))))))))))) bl_nil))) ?_
                        exact ⟨(vz_7.2.2.2, (⟨t_4.2.2.Kind, t_4.2.2.Space, t_4.2.2.Handle, t_4.2.2.Ref, t_4.2.2.To, t_4.2.2.Key, t_4.2.2.Value, vz_7.2.2.1, t_4.2.2.Most, t_4.2.2.Flag⟩ : Rq)), ⟨le_of_eq (eg oz), le_of_eq (eg (os rfl oz)), le_of_eq (eg (os rfl (os rfl oz))), le_of_eq (eg (os rfl (os rfl (os rfl oz)))), le_of_eq (eg (os rfl (os rfl (os rfl (os rfl oz))))), le_of_eq (eg (os rfl (os rfl (os rfl (os rfl (os rfl oz)))))), trivial⟩, rfl, some_of hz_6⟩
                      · skip
                        replace hz_6 := ifb_f hz_6 hc
                        clear hc
                        refine aw_seq ?_
                        refine aw_region (by decide) ?_
                        refine rts _ rfl (opD_eql (os rfl (os rfl (os rfl (os rfl (os rfl (os rfl (os rfl oz))))))) (ev_const _ _)) ?_
                        refine rts _ rfl (opD_assign lz) ?_
                        refine .nil ?_
                        refine aw_keep [(0, _), (2, _), (4, _), (6, _), (7, _), (8, _), (11, _), (108, _)] ⟨lg (ls rfl (ls rfl oz)), lg (ls rfl (ls rfl (os rfl oz))), lg (ls rfl (ls rfl (os rfl (os rfl oz)))), lg (ls rfl (ls rfl (os rfl (os rfl (os rfl oz))))), lg (ls rfl (ls rfl (os rfl (os rfl (os rfl (os rfl oz)))))), lg (ls rfl (ls rfl (os rfl (os rfl (os rfl (os rfl (os rfl oz))))))), lg (ls rfl (ls rfl (os rfl (os rfl (os rfl (os rfl (os rfl (os rfl oz)))))))), lg lz, trivial⟩ ?_
                        refine aw_cond _ (os rfl (os rfl (os rfl (os rfl (os rfl (os rfl (os rfl oz))))))) (fun hc => ?_) (fun hc => ?_)
                        · skip
                          replace hz_6 := ifb_t hz_6 hc
                          clear hc
                          refine aw_region (by decide) ?_
                          refine rts _ rfl (opD_move (os rfl (os rfl (os rfl (os rfl (os rfl (os rfl oz))))))) ?_
                          refine rts _ rfl (opD_eql lz (ev_const _ _)) ?_
                          refine rts _ rfl (opD_fieldAddr fo114_9_u4b (ls rfl (ls rfl (os rfl (os rfl (os rfl oz)))))) ?_
                          refine rts _ rfl (storeON rfl sz4_u4b lz (le_of_eq (ls rfl lz)) (one_pl rfl) rfl (Nat.le_of_ble_eq_true rfl) (pl_bnd _ _ _) (by simp only [na, nb, nc, nd, nf, ng, nh, ni, nj, nk] <;> rfl) (by simp only [na, nb, nc, nd, nf, ng, nh, ni, nj, nk] <;> rfl)) ?_
                          refine .nil ?_
                          refine wk_yesN rfl (l := [(0, sl (kI .u8) none none p0), (2, ptr (s.boxes.length + 0) 0), (4, ptr (s.boxes.length + 1) 0), (6, ptr (s.boxes.length + 2) 0), (7, pl (.string x_2)), (8, pl (.int .i64 t_4.1))]) (bs' := [⟨114, [pl (.int .u8 0), pl (.int .u64 0), pl (.int .u64 0), pl (.int .i64 0), pl (.int .u64 0), pl (.int .u64 0), pl (.string ⟨#[]⟩), pl (.string ⟨#[]⟩), pl (.int .u8 0), pl (.int .u64 0), pl (.bool false)]⟩, ⟨41, [sl (kI .u8) none none vz_7.2.2.2.b_, pl (.bool vz_7.2.2.2.wrong_)]⟩, ⟨114, [pl (.int .u8 t_4.2.2.Kind), pl (.int .u64 t_4.2.2.Space), pl (.int .u64 t_4.2.2.Handle), pl (.int .i64 t_4.2.2.Ref.Slot), pl (.int .u64 t_4.2.2.Ref.Gen), pl (.int .u64 t_4.2.2.To), pl (.string t_4.2.2.Key), pl (.string t_4.2.2.Value), pl (.int .u8 t_4.2.2.Rights), pl (.int .u64 t_4.2.2.Most), pl (.bool (decide (vz_7.2.2.1 = 1)))]⟩]) ⟨le_of_eq (eg (lx (ls rfl (ls rfl (ls rfl oz))))), le_of_eq (eg (lx (ls rfl (ls rfl (ls rfl (os rfl oz)))))), le_of_eq (eg (lx (ls rfl (ls rfl (ls rfl (os rfl (os rfl oz))))))), le_of_eq (eg (lx (ls rfl (ls rfl (ls rfl (os rfl (os rfl (os rfl oz)))))))), le_of_eq (eg (lx (ls rfl (ls rfl (ls rfl (os rfl (os rfl (os rfl (os rfl oz))))))))), le_of_eq (eg (lx (ls rfl (ls rfl (ls rfl (os rfl (os rfl (os rfl (os rfl (os rfl oz)))))))))), trivial⟩ (bnd_cons (sl_b (kb_I _)) (bnd_cons (ptr_bnd _ (by first | omega | (simp only [List.length_append, List.length_cons, List.length_nil]; omega))) (bnd_cons (ptr_bnd _ (by first | omega | (simp only [List.length_append, List.length_cons, List.length_nil]; omega))) (bnd_cons (ptr_bnd _ (by first | omega | (simp only [List.length_append, List.length_cons, List.length_nil]; omega))) (bnd_cons (pl_bnd _ _ _) (bnd_cons (pl_bnd _ _ _) bnd_nil)))))) (Nat.le_of_ble_eq_true rfl) (by simp only [na, nb, nc, nd, nf, ng, nh, ni, nj, nk] <;> rfl) (bxle_same (bxle_same (bxle_same bxle_nil))) rfl (by simp only [na, nb, nc, nd, nf, ng, nh, ni, nj, nk] <;> rfl) (bl_cons (bnd_cons (pl_bnd _ _ _) (bnd_cons (pl_bnd _ _ _) (bnd_cons (pl_bnd _ _ _) (bnd_cons (pl_bnd _ _ _) (bnd_cons (pl_bnd _ _ _) (bnd_cons (pl_bnd _ _ _) (bnd_cons (pl_bnd _ _ _) (bnd_cons (pl_bnd _ _ _) (bnd_cons (pl_bnd _ _ _) (bnd_cons (pl_bnd _ _ _) (bnd_cons (pl_bnd _ _ _) bnd_nil))))))))))) (bl_cons (bnd_cons (sl_b (kb_I _)) (bnd_cons (pl_bnd _ _ _) bnd_nil)) (bl_cons (bnd_cons (pl_bnd _ _ _) (bnd_cons (pl_bnd _ _ _) (bnd_cons (pl_bnd _ _ _) (bnd_cons (pl_bnd _ _ _) (bnd_cons (pl_bnd _ _ _) (bnd_cons (pl_bnd _ _ _) (bnd_cons (pl_bnd _ _ _) (bnd_cons (pl_bnd _ _ _) (bnd_cons (pl_bnd _ _ _) (bnd_cons (pl_bnd _ _ _) (bnd_cons (pl_bnd _ _ _) bnd_nil))))))))))) bl_nil))) ?_
                          exact ⟨(vz_7.2.2.2, (⟨t_4.2.2.Kind, t_4.2.2.Space, t_4.2.2.Handle, t_4.2.2.Ref, t_4.2.2.To, t_4.2.2.Key, t_4.2.2.Value, t_4.2.2.Rights, t_4.2.2.Most, (decide (vz_7.2.2.1 = 1))⟩ : Rq)), ⟨le_of_eq (eg oz), le_of_eq (eg (os rfl oz)), le_of_eq (eg (os rfl (os rfl oz))), le_of_eq (eg (os rfl (os rfl (os rfl oz)))), le_of_eq (eg (os rfl (os rfl (os rfl (os rfl oz))))), le_of_eq (eg (os rfl (os rfl (os rfl (os rfl (os rfl oz)))))), trivial⟩, rfl, some_of hz_6⟩
                        · skip
                          replace hz_6 := ifb_f hz_6 hc
                          clear hc
                          refine aw_seq ?_
                          refine aw_region (by decide) ?_
                          refine rts _ rfl (opD_move (os rfl (os rfl (os rfl (os rfl (os rfl (os rfl oz))))))) ?_
                          refine rts _ rfl (opD_conv_int Go.Proofs.Tryd.underlying5 Go.Proofs.Tryd.underlying3 lz rfl) ?_
                          refine rts _ rfl (opD_fieldAddr fo114_3_u4b (ls rfl (ls rfl (os rfl (os rfl (os rfl oz)))))) ?_
                          refine rts _ rfl (opD_fieldAddr fo112_0_u4b lz) ?_
                          refine rts _ rfl (storeON rfl sz3_u4b lz (le_of_eq (ls rfl (ls rfl lz))) (one_pl rfl) rfl (Nat.le_of_ble_eq_true rfl) (pl_bnd _ _ _) (by simp only [na, nb, nc, nd, nf, ng, nh, ni, nj, nk] <;> rfl) (by simp only [na, nb, nc, nd, nf, ng, nh, ni, nj, nk] <;> rfl)) ?_
                          refine .nil ?_
                          refine aw_keep [(0, _), (2, _), (4, _), (6, _), (7, _), (8, _)] ⟨lg (lx (ls rfl (ls rfl (ls rfl (ls rfl oz))))), lg (lx (ls rfl (ls rfl (ls rfl (ls rfl (os rfl oz)))))), lg (lx (ls rfl (ls rfl (ls rfl (ls rfl (os rfl (os rfl oz))))))), lg (lx (ls rfl (ls rfl (ls rfl (ls rfl (os rfl (os rfl (os rfl oz)))))))), lg (lx (ls rfl (ls rfl (ls rfl (ls rfl (os rfl (os rfl (os rfl (os rfl oz))))))))), lg (lx (ls rfl (ls rfl (ls rfl (ls rfl (os rfl (os rfl (os rfl (os rfl (os rfl oz)))))))))), trivial⟩ ?_
                          refine aw_seq ?_
                          refine aw_region (by decide) ?_
                          refine rts _ rfl (opD_fieldAddr fo41_1_u4b (os rfl (os rfl oz))) ?_
                          refine rts _ rfl (opD_load_one ag4_u4b lz (loc_getN rfl rfl) rfl) ?_
                          refine rts _ rfl (opD_not lz) ?_
                          refine .nil ?_
                          refine aw_keep [(0, _), (2, _), (4, _), (6, _), (7, _), (8, _), (70, _)] ⟨lg (ls rfl (ls rfl (ls rfl oz))), lg (ls rfl (ls rfl (ls rfl (os rfl oz)))), lg (ls rfl (ls rfl (ls rfl (os rfl (os rfl oz))))), lg (ls rfl (ls rfl (ls rfl (os rfl (os rfl (os rfl oz)))))), lg (ls rfl (ls rfl (ls rfl (os rfl (os rfl (os rfl (os rfl oz))))))), lg (ls rfl (ls rfl (ls rfl (os rfl (os rfl (os rfl (os rfl (os rfl oz)))))))), lg lz, trivial⟩ ?_
                          refine aw_cond _ (os rfl (os rfl (os rfl (os rfl (os rfl (os rfl oz)))))) (fun hc => ?_) (fun hc => ?_)
                          · skip
                            replace hz_6 := ifb_t hz_6 hc
                            clear hc
                            refine aw_region (by decide) ?_
                            refine rts _ rfl (opD_load_aggX (qs := [_, _]) ag41_u4b sz41_u4b (os rfl (os rfl oz)) (loc_getN rfl rfl) (Nat.le_of_ble_eq_true rfl) rfl) ?_
                            replace hz_6 := bnd_some hz_6
                            obtain ⟨x_13, hx_13, hz_6⟩ := hz_6
                            refine rts _ rfl (opD_pure ht32_u4b (c_oDNum hx_13) ⟨(le_of_eq lz).trans (agg_le ⟨(Pd.le_refl _), (Pd.le_refl _), trivial⟩), le_of_eq (ev_const _ _), trivial⟩) ?_
                            refine rts _ rfl (opD_move lz) ?_
                            refine rts _ rfl (opD_extract lz rfl) ?_
                            refine rts _ rfl (opD_extract (ls rfl lz) rfl) ?_
                            refine rts _ rfl (storeAN rfl sz41_u4b (ls rfl (ls rfl (ls rfl (ls rfl (ls rfl (os rfl (os rfl oz))))))) (ls rfl lz) (ones_cons (one_sl _ _ _ _) (ones_cons (one_pl rfl) ones_nil)) rfl rfl (Nat.le_of_ble_eq_true rfl) (List.cons_ne_nil _ _) (bnd_cons (sl_b (kb_I _)) (bnd_cons (pl_bnd _ _ _) bnd_nil)) (by simp only [na, nb, nc, nd, nf, ng, nh, ni, nj, nk] <;> rfl) (by simp only [na, nb, nc, nd, nf, ng, nh, ni, nj, nk] <;> rfl)) ?_
                            refine rts _ rfl (opD_fieldAddr fo114_3_u4b (lx (ls rfl (ls rfl (ls rfl (ls rfl (ls rfl (os rfl (os rfl (os rfl oz)))))))))) ?_
                            refine rts _ rfl (opD_fieldAddr fo112_1_u4b lz) ?_
                            refine rts _ rfl (storeON rfl sz22_u4b lz (le_of_eq (ls rfl (ls rfl (lx lz)))) (one_pl rfl) rfl (Nat.le_of_ble_eq_true rfl) (pl_bnd _ _ _) (by simp only [na, nb, nc, nd, nf, ng, nh, ni, nj, nk] <;> rfl) (by simp only [na, nb, nc, nd, nf, ng, nh, ni, nj, nk] <;> rfl)) ?_
                            refine .nil ?_
                            refine wk_yesN rfl (l := [(0, sl (kI .u8) none none p0), (2, ptr (s.boxes.length + 0) 0), (4, ptr (s.boxes.length + 1) 0), (6, ptr (s.boxes.length + 2) 0), (7, pl (.string x_2)), (8, pl (.int .i64 t_4.1))]) (bs' := [⟨114, [pl (.int .u8 0), pl (.int .u64 0), pl (.int .u64 0), pl (.int .i64 0), pl (.int .u64 0), pl (.int .u64 0), pl (.string ⟨#[]⟩), pl (.string ⟨#[]⟩), pl (.int .u8 0), pl (.int .u64 0), pl (.bool false)]⟩, ⟨41, [sl (kI .u8) none none x_13.1.b_, pl (.bool x_13.1.wrong_)]⟩, ⟨114, [pl (.int .u8 t_4.2.2.Kind), pl (.int .u64 t_4.2.2.Space), pl (.int .u64 t_4.2.2.Handle), pl (.int .i64 (IntKind.i64.wrap (vz_7.2.2.1))), pl (.int .u64 x_13.2), pl (.int .u64 t_4.2.2.To), pl (.string t_4.2.2.Key), pl (.string t_4.2.2.Value), pl (.int .u8 t_4.2.2.Rights), pl (.int .u64 t_4.2.2.Most), pl (.bool t_4.2.2.Flag)]⟩]) ⟨le_of_eq (eg (lx (ls rfl (ls rfl (lx (ls rfl (ls rfl (ls rfl (ls rfl (ls rfl oz)))))))))), le_of_eq (eg (lx (ls rfl (ls rfl (lx (ls rfl (ls rfl (ls rfl (ls rfl (ls rfl (os rfl oz))))))))))), le_of_eq (eg (lx (ls rfl (ls rfl (lx (ls rfl (ls rfl (ls rfl (ls rfl (ls rfl (os rfl (os rfl oz)))))))))))), le_of_eq (eg (lx (ls rfl (ls rfl (lx (ls rfl (ls rfl (ls rfl (ls rfl (ls rfl (os rfl (os rfl (os rfl oz))))))))))))), le_of_eq (eg (lx (ls rfl (ls rfl (lx (ls rfl (ls rfl (ls rfl (ls rfl (ls rfl (os rfl (os rfl (os rfl (os rfl oz)))))))))))))), le_of_eq (eg (lx (ls rfl (ls rfl (lx (ls rfl (ls rfl (ls rfl (ls rfl (ls rfl (os rfl (os rfl (os rfl (os rfl (os rfl oz))))))))))))))), trivial⟩ (bnd_cons (sl_b (kb_I _)) (bnd_cons (ptr_bnd _ (by first | omega | (simp only [List.length_append, List.length_cons, List.length_nil]; omega))) (bnd_cons (ptr_bnd _ (by first | omega | (simp only [List.length_append, List.length_cons, List.length_nil]; omega))) (bnd_cons (ptr_bnd _ (by first | omega | (simp only [List.length_append, List.length_cons, List.length_nil]; omega))) (bnd_cons (pl_bnd _ _ _) (bnd_cons (pl_bnd _ _ _) bnd_nil)))))) (Nat.le_of_ble_eq_true rfl) (by simp only [na, nb, nc, nd, nf, ng, nh, ni, nj, nk] <;> rfl) (bxle_same (bxle_same (bxle_same bxle_nil))) rfl (by simp only [na, nb, nc, nd, nf, ng, nh, ni, nj, nk] <;> rfl) (bl_cons (bnd_cons (pl_bnd _ _ _) (bnd_cons (pl_bnd _ _ _) (bnd_cons (pl_bnd _ _ _) (bnd_cons (pl_bnd _ _ _) (bnd_cons (pl_bnd _ _ _) (bnd_cons (pl_bnd _ _ _) (bnd_cons (pl_bnd _ _ _) (bnd_cons (pl_bnd _ _ _) (bnd_cons (pl_bnd _ _ _) (bnd_cons (pl_bnd _ _ _) (bnd_cons (pl_bnd _ _ _) bnd_nil))))))))))) (bl_cons (bnd_cons (sl_b (kb_I _)) (bnd_cons (pl_bnd _ _ _) bnd_nil)) (bl_cons (bnd_cons (pl_bnd _ _ _) (bnd_cons (pl_bnd _ _ _) (bnd_cons (pl_bnd _ _ _) (bnd_cons (pl_bnd _ _ _) (bnd_cons (pl_bnd _ _ _) (bnd_cons (pl_bnd _ _ _) (bnd_cons (pl_bnd _ _ _) (bnd_cons (pl_bnd _ _ _) (bnd_cons (pl_bnd _ _ _) (bnd_cons (pl_bnd _ _ _) (bnd_cons (pl_bnd _ _ _) bnd_nil))))))))))) bl_nil))) ?_
                            exact ⟨(x_13.1, (⟨t_4.2.2.Kind, t_4.2.2.Space, t_4.2.2.Handle, (⟨IntKind.i64.wrap (vz_7.2.2.1), x_13.2⟩ : Rf), t_4.2.2.To, t_4.2.2.Key, t_4.2.2.Value, t_4.2.2.Rights, t_4.2.2.Most, t_4.2.2.Flag⟩ : Rq)), ⟨le_of_eq (eg oz), le_of_eq (eg (os rfl oz)), le_of_eq (eg (os rfl (os rfl oz))), le_of_eq (eg (os rfl (os rfl (os rfl oz)))), le_of_eq (eg (os rfl (os rfl (os rfl (os rfl oz))))), le_of_eq (eg (os rfl (os rfl (os rfl (os rfl (os rfl oz)))))), trivial⟩, rfl, some_of hz_6⟩
                          · skip
                            replace hz_6 := ifb_f hz_6 hc
                            clear hc
                            refine aw_skip ?_
                            refine wk_yesN rfl (l := [(0, sl (kI .u8) none none p0), (2, ptr (s.boxes.length + 0) 0), (4, ptr (s.boxes.length + 1) 0), (6, ptr (s.boxes.length + 2) 0), (7, pl (.string x_2)), (8, pl (.int .i64 t_4.1))]) (bs' := [⟨114, [pl (.int .u8 0), pl (.int .u64 0), pl (.int .u64 0), pl (.int .i64 0), pl (.int .u64 0), pl (.int .u64 0), pl (.string ⟨#[]⟩), pl (.string ⟨#[]⟩), pl (.int .u8 0), pl (.int .u64 0), pl (.bool false)]⟩, ⟨41, [sl (kI .u8) none none vz_7.2.2.2.b_, pl (.bool vz_7.2.2.2.wrong_)]⟩, ⟨114, [pl (.int .u8 t_4.2.2.Kind), pl (.int .u64 t_4.2.2.Space), pl (.int .u64 t_4.2.2.Handle), pl (.int .i64 (IntKind.i64.wrap (vz_7.2.2.1))), pl (.int .u64 t_4.2.2.Ref.Gen), pl (.int .u64 t_4.2.2.To), pl (.string t_4.2.2.Key), pl (.string t_4.2.2.Value), pl (.int .u8 t_4.2.2.Rights), pl (.int .u64 t_4.2.2.Most), pl (.bool t_4.2.2.Flag)]⟩]) ⟨le_of_eq (eg oz), le_of_eq (eg (os rfl oz)), le_of_eq (eg (os rfl (os rfl oz))), le_of_eq (eg (os rfl (os rfl (os rfl oz)))), le_of_eq (eg (os rfl (os rfl (os rfl (os rfl oz))))), le_of_eq (eg (os rfl (os rfl (os rfl (os rfl (os rfl oz)))))), trivial⟩ (bnd_cons (sl_b (kb_I _)) (bnd_cons (ptr_bnd _ (by first | omega | (simp only [List.length_append, List.length_cons, List.length_nil]; omega))) (bnd_cons (ptr_bnd _ (by first | omega | (simp only [List.length_append, List.length_cons, List.length_nil]; omega))) (bnd_cons (ptr_bnd _ (by first | omega | (simp only [List.length_append, List.length_cons, List.length_nil]; omega))) (bnd_cons (pl_bnd _ _ _) (bnd_cons (pl_bnd _ _ _) bnd_nil)))))) (Nat.le_of_ble_eq_true rfl) (by simp only [na, nb, nc, nd, nf, ng, nh, ni, nj, nk] <;> rfl) (bxle_same (bxle_same (bxle_same bxle_nil))) rfl (by simp only [na, nb, nc, nd, nf, ng, nh, ni, nj, nk] <;> rfl) (bl_cons (bnd_cons (pl_bnd _ _ _) (bnd_cons (pl_bnd _ _ _) (bnd_cons (pl_bnd _ _ _) (bnd_cons (pl_bnd _ _ _) (bnd_cons (pl_bnd _ _ _) (bnd_cons (pl_bnd _ _ _) (bnd_cons (pl_bnd _ _ _) (bnd_cons (pl_bnd _ _ _) (bnd_cons (pl_bnd _ _ _) (bnd_cons (pl_bnd _ _ _) (bnd_cons (pl_bnd _ _ _) bnd_nil))))))))))) (bl_cons (bnd_cons (sl_b (kb_I _)) (bnd_cons (pl_bnd _ _ _) bnd_nil)) (bl_cons (bnd_cons (pl_bnd _ _ _) (bnd_cons (pl_bnd _ _ _) (bnd_cons (pl_bnd _ _ _) (bnd_cons (pl_bnd _ _ _) (bnd_cons (pl_bnd _ _ _) (bnd_cons (pl_bnd _ _ _) (bnd_cons (pl_bnd _ _ _) (bnd_cons (pl_bnd _ _ _) (bnd_cons (pl_bnd _ _ _) (bnd_cons (pl_bnd _ _ _) (bnd_cons (pl_bnd _ _ _) bnd_nil))))))))))) bl_nil))) ?_
                            exact ⟨(vz_7.2.2.2, (⟨t_4.2.2.Kind, t_4.2.2.Space, t_4.2.2.Handle, (⟨IntKind.i64.wrap (vz_7.2.2.1), t_4.2.2.Ref.Gen⟩ : Rf), t_4.2.2.To, t_4.2.2.Key, t_4.2.2.Value, t_4.2.2.Rights, t_4.2.2.Most, t_4.2.2.Flag⟩ : Rq)), ⟨le_of_eq (eg oz), le_of_eq (eg (os rfl oz)), le_of_eq (eg (os rfl (os rfl oz))), le_of_eq (eg (os rfl (os rfl (os rfl oz)))), le_of_eq (eg (os rfl (os rfl (os rfl (os rfl oz))))), le_of_eq (eg (os rfl (os rfl (os rfl (os rfl (os rfl oz)))))), trivial⟩, rfl, some_of hz_6⟩
      · rintro e st ⟨vz_6, hH, rfl, rfl⟩
        refine aw_keep _ hH ?_
        refine aw_keep [(0, _), (2, _), (4, _), (6, _), (7, _), (8, _)] ⟨lg oz, lg (os rfl oz), lg (os rfl (os rfl oz)), lg (os rfl (os rfl (os rfl oz))), lg (os rfl (os rfl (os rfl (os rfl oz)))), lg (os rfl (os rfl (os rfl (os rfl (os rfl oz))))), trivial⟩ ?_
        refine aw_region (by decide) ?_
        refine rts _ rfl (opD_move (os rfl (os rfl (os rfl (os rfl (os rfl oz)))))) ?_
        refine rts _ rfl (opD_add lz (ev_const _ _) rfl) ?_
        refine rts _ rfl (opD_assign lz) ?_
        refine .nil ?_
        obtain rfl := some_of hz_5
        replace hz_3 := ocs_l hz_3
        refine wk_yesN rfl (l := [(0, sl (kI .u8) none none p0), (2, ptr (s.boxes.length + 0) 0), (4, ptr (s.boxes.length + 1) 0), (6, ptr (s.boxes.length + 2) 0), (7, pl (.string x_2)), (8, pl (.int .i64 (IntKind.i64.wrap (t_4.1 + 1))))]) (bs' := [⟨114, [pl (.int .u8 0), pl (.int .u64 0), pl (.int .u64 0), pl (.int .i64 0), pl (.int .u64 0), pl (.int .u64 0), pl (.string ⟨#[]⟩), pl (.string ⟨#[]⟩), pl (.int .u8 0), pl (.int .u64 0), pl (.bool false)]⟩, ⟨41, [sl (kI .u8) none none vz_6.1.b_, pl (.bool vz_6.1.wrong_)]⟩, ⟨114, [pl (.int .u8 vz_6.2.Kind), pl (.int .u64 vz_6.2.Space), pl (.int .u64 vz_6.2.Handle), pl (.int .i64 vz_6.2.Ref.Slot), pl (.int .u64 vz_6.2.Ref.Gen), pl (.int .u64 vz_6.2.To), pl (.string vz_6.2.Key), pl (.string vz_6.2.Value), pl (.int .u8 vz_6.2.Rights), pl (.int .u64 vz_6.2.Most), pl (.bool vz_6.2.Flag)]⟩]) ⟨le_of_eq (eg (ls rfl (ls rfl (ls rfl oz)))), le_of_eq (eg (ls rfl (ls rfl (ls rfl (os rfl oz))))), le_of_eq (eg (ls rfl (ls rfl (ls rfl (os rfl (os rfl oz)))))), le_of_eq (eg (ls rfl (ls rfl (ls rfl (os rfl (os rfl (os rfl oz))))))), le_of_eq (eg (ls rfl (ls rfl (ls rfl (os rfl (os rfl (os rfl (os rfl oz)))))))), le_of_eq (eg lz), trivial⟩ (bnd_cons (sl_b (kb_I _)) (bnd_cons (ptr_bnd _ (by first | omega | (simp only [List.length_append, List.length_cons, List.length_nil]; omega))) (bnd_cons (ptr_bnd _ (by first | omega | (simp only [List.length_append, List.length_cons, List.length_nil]; omega))) (bnd_cons (ptr_bnd _ (by first | omega | (simp only [List.length_append, List.length_cons, List.length_nil]; omega))) (bnd_cons (pl_bnd _ _ _) (bnd_cons (pl_bnd _ _ _) bnd_nil)))))) (Nat.le_of_ble_eq_true rfl) (by simp only [na, nb, nc, nd, nf, ng, nh, ni, nj, nk] <;> rfl) (bxle_same (bxle_same (bxle_same bxle_nil))) rfl (by simp only [na, nb, nc, nd, nf, ng, nh, ni, nj, nk] <;> rfl) (bl_cons (bnd_cons (pl_bnd _ _ _) (bnd_cons (pl_bnd _ _ _) (bnd_cons (pl_bnd _ _ _) (bnd_cons (pl_bnd _ _ _) (bnd_cons (pl_bnd _ _ _) (bnd_cons (pl_bnd _ _ _) (bnd_cons (pl_bnd _ _ _) (bnd_cons (pl_bnd _ _ _) (bnd_cons (pl_bnd _ _ _) (bnd_cons (pl_bnd _ _ _) (bnd_cons (pl_bnd _ _ _) bnd_nil))))))))))) (bl_cons (bnd_cons (sl_b (kb_I _)) (bnd_cons (pl_bnd _ _ _) bnd_nil)) (bl_cons (bnd_cons (pl_bnd _ _ _) (bnd_cons (pl_bnd _ _ _) (bnd_cons (pl_bnd _ _ _) (bnd_cons (pl_bnd _ _ _) (bnd_cons (pl_bnd _ _ _) (bnd_cons (pl_bnd _ _ _) (bnd_cons (pl_bnd _ _ _) (bnd_cons (pl_bnd _ _ _) (bnd_cons (pl_bnd _ _ _) (bnd_cons (pl_bnd _ _ _) (bnd_cons (pl_bnd _ _ _) bnd_nil))))))))))) bl_nil))) ?_
        exact ⟨m_z_5, Nat.lt_succ_self _, (IntKind.i64.wrap (t_4.1 + 1), vz_6.1, vz_6.2), ⟨le_of_eq (eg oz), le_of_eq (eg (os rfl oz)), le_of_eq (eg (os rfl (os rfl oz))), le_of_eq (eg (os rfl (os rfl (os rfl oz)))), le_of_eq (eg (os rfl (os rfl (os rfl (os rfl oz))))), le_of_eq (eg (os rfl (os rfl (os rfl (os rfl (os rfl oz)))))), trivial⟩, rfl, hz_3⟩
    · skip
      replace hz_5 := ifb_f hz_5 hc
      clear hc
      refine aw_exit ?_
      obtain rfl := some_of hz_5
      replace hz_3 := ocs_r hz_3
      refine wk_no ?_
      refine wk_yesN rfl (l := [(0, sl (kI .u8) none none p0), (2, ptr (s.boxes.length + 0) 0), (4, ptr (s.boxes.length + 1) 0), (6, ptr (s.boxes.length + 2) 0)]) (bs' := [⟨114, [pl (.int .u8 0), pl (.int .u64 0), pl (.int .u64 0), pl (.int .i64 0), pl (.int .u64 0), pl (.int .u64 0), pl (.string ⟨#[]⟩), pl (.string ⟨#[]⟩), pl (.int .u8 0), pl (.int .u64 0), pl (.bool false)]⟩, ⟨41, [sl (kI .u8) none none t_4.2.1.b_, pl (.bool t_4.2.1.wrong_)]⟩, ⟨114, [pl (.int .u8 t_4.2.2.Kind), pl (.int .u64 t_4.2.2.Space), pl (.int .u64 t_4.2.2.Handle), pl (.int .i64 t_4.2.2.Ref.Slot), pl (.int .u64 t_4.2.2.Ref.Gen), pl (.int .u64 t_4.2.2.To), pl (.string t_4.2.2.Key), pl (.string t_4.2.2.Value), pl (.int .u8 t_4.2.2.Rights), pl (.int .u64 t_4.2.2.Most), pl (.bool t_4.2.2.Flag)]⟩]) ⟨le_of_eq (eg oz), le_of_eq (eg (os rfl oz)), le_of_eq (eg (os rfl (os rfl oz))), le_of_eq (eg (os rfl (os rfl (os rfl oz)))), trivial⟩ (bnd_cons (sl_b (kb_I _)) (bnd_cons (ptr_bnd _ (by first | omega | (simp only [List.length_append, List.length_cons, List.length_nil]; omega))) (bnd_cons (ptr_bnd _ (by first | omega | (simp only [List.length_append, List.length_cons, List.length_nil]; omega))) (bnd_cons (ptr_bnd _ (by first | omega | (simp only [List.length_append, List.length_cons, List.length_nil]; omega))) bnd_nil)))) (Nat.le_of_ble_eq_true rfl) (by simp only [na, nb, nc, nd, nf, ng, nh, ni, nj, nk] <;> rfl) (bxle_same (bxle_same (bxle_same bxle_nil))) rfl (by simp only [na, nb, nc, nd, nf, ng, nh, ni, nj, nk] <;> rfl) (bl_cons (bnd_cons (pl_bnd _ _ _) (bnd_cons (pl_bnd _ _ _) (bnd_cons (pl_bnd _ _ _) (bnd_cons (pl_bnd _ _ _) (bnd_cons (pl_bnd _ _ _) (bnd_cons (pl_bnd _ _ _) (bnd_cons (pl_bnd _ _ _) (bnd_cons (pl_bnd _ _ _) (bnd_cons (pl_bnd _ _ _) (bnd_cons (pl_bnd _ _ _) (bnd_cons (pl_bnd _ _ _) bnd_nil))))))))))) (bl_cons (bnd_cons (sl_b (kb_I _)) (bnd_cons (pl_bnd _ _ _) bnd_nil)) (bl_cons (bnd_cons (pl_bnd _ _ _) (bnd_cons (pl_bnd _ _ _) (bnd_cons (pl_bnd _ _ _) (bnd_cons (pl_bnd _ _ _) (bnd_cons (pl_bnd _ _ _) (bnd_cons (pl_bnd _ _ _) (bnd_cons (pl_bnd _ _ _) (bnd_cons (pl_bnd _ _ _) (bnd_cons (pl_bnd _ _ _) (bnd_cons (pl_bnd _ _ _) (bnd_cons (pl_bnd _ _ _) bnd_nil))))))))))) bl_nil))) ?_
      exact ⟨(t_4.2.1, t_4.2.2), ⟨le_of_eq (eg oz), le_of_eq (eg (os rfl oz)), le_of_eq (eg (os rfl (os rfl oz))), le_of_eq (eg (os rfl (os rfl (os rfl oz)))), trivial⟩, rfl, some_of hz_3⟩
  · rintro e st ⟨vz_3, hH, rfl, rfl⟩
    refine aw_keep _ hH ?_
    refine aw_keep [(0, _), (2, _), (4, _), (6, _)] ⟨lg oz, lg (os rfl oz), lg (os rfl (os rfl oz)), lg (os rfl (os rfl (os rfl oz))), trivial⟩ ?_
    refine aw_seq ?_
    refine aw_region (by decide) ?_
    refine rts _ rfl (opD_load_aggX (qs := [_, _, _, _, _, _, _, _, _, _, _]) ag114_u4b sz114_u4b (os rfl (os rfl (os rfl oz))) (loc_getN rfl rfl) (Nat.le_of_ble_eq_true rfl) rfl) ?_
    replace h0 := bnd_some h0
    obtain ⟨x_14, hx_14, h0⟩ := h0
    refine rts _ rfl (opD_pure ht65_u4b (c_qenc2 hx_14) ⟨(le_of_eq lz).trans (agg_le ⟨(Pd.le_refl _), (Pd.le_refl _), (Pd.le_refl _), (Pd.le_refl _), (Pd.le_refl _), (Pd.le_refl _), (Pd.le_refl _), (Pd.le_refl _), (Pd.le_refl _), (Pd.le_refl _), (Pd.le_refl _), trivial⟩), trivial⟩) ?_
    refine rts _ rfl (opD_move lz) ?_
    refine rts _ rfl (opD_extract lz rfl) ?_
    refine rts _ rfl (opD_extract (ls rfl lz) rfl) ?_
    refine rts _ rfl (opD_assign (ls rfl lz)) ?_
    refine rts _ rfl (opD_assign (ls rfl lz)) ?_
    refine .nil ?_
    refine aw_keep [(0, _), (2, _), (4, _), (6, _), (12, _), (13, _)] ⟨lg (ls rfl (ls rfl (ls rfl (ls rfl (ls rfl (ls rfl (ls rfl oz))))))), lg (ls rfl (ls rfl (ls rfl (ls rfl (ls rfl (ls rfl (ls rfl (os rfl oz)))))))), lg (ls rfl (ls rfl (ls rfl (ls rfl (ls rfl (ls rfl (ls rfl (os rfl (os rfl oz))))))))), lg (ls rfl (ls rfl (ls rfl (ls rfl (ls rfl (ls rfl (ls rfl (os rfl (os rfl (os rfl oz)))))))))), lg (ls rfl lz), lg lz, trivial⟩ ?_
    refine aw_seq ?_
    refine aw_seq ?_
    refine aw_region (by decide) ?_
    refine rts _ rfl (opD_fieldAddr fo41_1_u4b (os rfl (os rfl oz))) ?_
    refine rts _ rfl (opD_load_one ag4_u4b lz (loc_getN rfl rfl) rfl) ?_
    refine rts _ rfl (opD_move lz) ?_
    refine rtg _ rfl lz (fun hg41_3_29 => opD_move (ls rfl (ls rfl (ls rfl (os rfl (os rfl (os rfl (os rfl (os rfl oz))))))))) ?_
    refine rtg _ rfl (ls rfl lz) (fun hg41_4_30 => opD_neq (lz.trans (pif_pos hg41_4_30)) (ev_const _ _)) ?_
    refine rts _ rfl (opD_or (ls rfl (ls rfl lz)) lz) ?_
    refine rts _ rfl (opD_move lz) ?_
    refine rtg _ rfl lz (fun hg41_7_31 => opD_move (ls rfl (ls rfl (ls rfl (ls rfl (ls rfl (ls rfl (ls rfl (os rfl (os rfl (os rfl (os rfl oz)))))))))))) ?_
    refine rtg _ rfl (ls rfl lz) (fun hg41_8_32 => opD_bytes_str Go.Proofs.Tryd.underlying23 Go.Proofs.Tryd.underlying5 Go.Proofs.Tryd.underlying9 (lz.trans (pif_pos hg41_8_32))) ?_
    refine rtg _ rfl (ls rfl (ls rfl lz)) (fun hg41_9_33 => opD_move (ls rfl (ls rfl (ls rfl (ls rfl (ls rfl (ls rfl (ls rfl (ls rfl (ls rfl oz)))))))))) ?_
    refine rtg _ rfl (ls rfl (ls rfl (ls rfl lz))) (fun hg41_10_34 => opD_bytes_str Go.Proofs.Tryd.underlying23 Go.Proofs.Tryd.underlying5 Go.Proofs.Tryd.underlying9 (lz.trans (pif_pos hg41_10_34))) ?_
    refine rtg _ rfl (ls rfl (ls rfl (ls rfl (ls rfl lz)))) (fun hg41_11_35 => opD_sneq ((ls rfl (ls rfl lz)).trans (pif_pos hg41_11_35)) (lz.trans (pif_pos hg41_11_35))) ?_
    refine rts _ rfl (opD_or (ls rfl (ls rfl (ls rfl (ls rfl (ls rfl lz))))) lz) ?_
    refine .nil ?_
    refine aw_keep [(2, _), (6, _), (130, _)] ⟨lg (ls rfl (ls rfl (ls rfl (ls rfl (ls rfl (ls rfl (ls rfl (ls rfl (ls rfl (ls rfl (ls rfl (ls rfl (ls rfl (os rfl oz)))))))))))))), lg (ls rfl (ls rfl (ls rfl (ls rfl (ls rfl (ls rfl (ls rfl (ls rfl (ls rfl (ls rfl (ls rfl (ls rfl (ls rfl (os rfl (os rfl (os rfl oz)))))))))))))))), lg lz, trivial⟩ ?_
    refine aw_cond _ (os rfl (os rfl oz)) (fun hc => ?_) (fun hc => ?_)
    · skip
      replace h0 := ifb_t h0 hc
      clear hc
      refine aw_seq ?_
      refine aw_region (by decide) ?_
      refine rts _ rfl (opD_build_struct (rs := [_, _, _, _, _, _, _, _, _, _, _]) Go.Proofs.Tryd.underlying114 pt114_u4b zt114_u4b parts_nil rfl) ?_
      refine rts _ rfl (storeAN rfl sz114_u4b (ls rfl oz) lz (ones_cons (one_pl rfl) (ones_cons (one_pl rfl) (ones_cons (one_pl rfl) (ones_cons (one_pl rfl) (ones_cons (one_pl rfl) (ones_cons (one_pl rfl) (ones_cons (one_pl rfl) (ones_cons (one_pl rfl) (ones_cons (one_pl rfl) (ones_cons (one_pl rfl) (ones_cons (one_pl rfl) ones_nil))))))))))) rfl rfl (Nat.le_of_ble_eq_true rfl) (List.cons_ne_nil _ _) (bnd_cons (pl_bnd _ _ _) (bnd_cons (pl_bnd _ _ _) (bnd_cons (pl_bnd _ _ _) (bnd_cons (pl_bnd _ _ _) (bnd_cons (pl_bnd _ _ _) (bnd_cons (pl_bnd _ _ _) (bnd_cons (pl_bnd _ _ _) (bnd_cons (pl_bnd _ _ _) (bnd_cons (pl_bnd _ _ _) (bnd_cons (pl_bnd _ _ _) (bnd_cons (pl_bnd _ _ _) bnd_nil))))))))))) (by simp only [na, nb, nc, nd, nf, ng, nh, ni, nj, nk] <;> rfl) (by simp only [na, nb, nc, nd, nf, ng, nh, ni, nj, nk] <;> rfl)) ?_
      refine rts _ rfl (opD_assign (ev_const _ _)) ?_
      refine .nil ?_
      refine aw_keep [(2, _), (3, _)] ⟨lg (ls rfl (lx (ls rfl oz))), lg lz, trivial⟩ ?_
      refine aw_ret ?_
      obtain rfl := some_of h0
      exact done_ext (.inr rfl) ((res_list (rs := [_, _]) (ps := [_, _]) rfl rfl ⟨it_cellA (B := ⟨114, [_, _, _, _, _, _, _, _, _, _, _]⟩) ag114_u4b sz114_u4b oz (loc_getN rfl rfl) rfl, it_tmp (os rfl oz), trivial⟩).le (tup_le ⟨(agg_le ⟨(Pd.le_refl _), (Pd.le_refl _), (Pd.le_refl _), (Pd.le_refl _), (Pd.le_refl _), (Pd.le_refl _), (Pd.le_refl _), (Pd.le_refl _), (Pd.le_refl _), (Pd.le_refl _), (Pd.le_refl _), trivial⟩), (Pd.le_refl _), trivial⟩)) (tup_bnd (bnd_cons (agg_bnd (bnd_cons (pl_bnd _ _ _) (bnd_cons (pl_bnd _ _ _) (bnd_cons (pl_bnd _ _ _) (bnd_cons (pl_bnd _ _ _) (bnd_cons (pl_bnd _ _ _) (bnd_cons (pl_bnd _ _ _) (bnd_cons (pl_bnd _ _ _) (bnd_cons (pl_bnd _ _ _) (bnd_cons (pl_bnd _ _ _) (bnd_cons (pl_bnd _ _ _) (bnd_cons (pl_bnd _ _ _) bnd_nil)))))))))))) (bnd_cons (pl_bnd _ _ _) bnd_nil)))
    · skip
      replace h0 := ifb_f h0 hc
      clear hc
      refine aw_skip ?_
      refine aw_keep [(2, _), (6, _)] ⟨lg oz, lg (os rfl oz), trivial⟩ ?_
      refine aw_seq ?_
      refine aw_region (by decide) ?_
      refine rts _ rfl (opD_load_aggX (qs := [_, _, _, _, _, _, _, _, _, _, _]) ag114_u4b sz114_u4b (os rfl oz) (loc_getN rfl rfl) (Nat.le_of_ble_eq_true rfl) rfl) ?_
      refine rts _ rfl (storeAN rfl sz114_u4b (ls rfl oz) lz (ones_cons (one_pl rfl) (ones_cons (one_pl rfl) (ones_cons (one_pl rfl) (ones_cons (one_pl rfl) (ones_cons (one_pl rfl) (ones_cons (one_pl rfl) (ones_cons (one_pl rfl) (ones_cons (one_pl rfl) (ones_cons (one_pl rfl) (ones_cons (one_pl rfl) (ones_cons (one_pl rfl) ones_nil))))))))))) rfl rfl (Nat.le_of_ble_eq_true rfl) (List.cons_ne_nil _ _) (bnd_cons (pl_bnd _ _ _) (bnd_cons (pl_bnd _ _ _) (bnd_cons (pl_bnd _ _ _) (bnd_cons (pl_bnd _ _ _) (bnd_cons (pl_bnd _ _ _) (bnd_cons (pl_bnd _ _ _) (bnd_cons (pl_bnd _ _ _) (bnd_cons (pl_bnd _ _ _) (bnd_cons (pl_bnd _ _ _) (bnd_cons (pl_bnd _ _ _) (bnd_cons (pl_bnd _ _ _) bnd_nil))))))))))) (by simp only [na, nb, nc, nd, nf, ng, nh, ni, nj, nk] <;> rfl) (by simp only [na, nb, nc, nd, nf, ng, nh, ni, nj, nk] <;> rfl)) ?_
      refine rts _ rfl (opD_assign (ev_const _ _)) ?_
      refine .nil ?_
      refine aw_keep [(2, _), (3, _)] ⟨lg (ls rfl (lx (ls rfl oz))), lg lz, trivial⟩ ?_
      refine aw_ret ?_
      obtain rfl := some_of h0
      exact done_ext (.inr rfl) ((res_list (rs := [_, _]) (ps := [_, _]) rfl rfl ⟨it_cellA (B := ⟨114, [_, _, _, _, _, _, _, _, _, _, _]⟩) ag114_u4b sz114_u4b oz (loc_getN rfl rfl) rfl, it_tmp (os rfl oz), trivial⟩).le (tup_le ⟨(agg_le ⟨(Pd.le_refl _), (Pd.le_refl _), (Pd.le_refl _), (Pd.le_refl _), (Pd.le_refl _), (Pd.le_refl _), (Pd.le_refl _), (Pd.le_refl _), (Pd.le_refl _), (Pd.le_refl _), (Pd.le_refl _), trivial⟩), (Pd.le_refl _), trivial⟩)) (tup_bnd (bnd_cons (agg_bnd (bnd_cons (pl_bnd _ _ _) (bnd_cons (pl_bnd _ _ _) (bnd_cons (pl_bnd _ _ _) (bnd_cons (pl_bnd _ _ _) (bnd_cons (pl_bnd _ _ _) (bnd_cons (pl_bnd _ _ _) (bnd_cons (pl_bnd _ _ _) (bnd_cons (pl_bnd _ _ _) (bnd_cons (pl_bnd _ _ _) (bnd_cons (pl_bnd _ _ _) (bnd_cons (pl_bnd _ _ _) bnd_nil)))))))))))) (bnd_cons (pl_bnd _ _ _) bnd_nil)))

def F_qgive (p0 : Rq) : Option (Rq) :=
  some p0
set_option maxRecDepth 100000 in
set_option maxHeartbeats 2000000 in
theorem c_qgive {p0 : Rq} {R : Rq} (h0 : F_qgive p0 = some R) : Pure Go.Proofs.Tryd.prog 64 [agg [pl (.int .u8 p0.Kind), pl (.int .u64 p0.Space), pl (.int .u64 p0.Handle), pl (.int .i64 p0.Ref.Slot), pl (.int .u64 p0.Ref.Gen), pl (.int .u64 p0.To), pl (.string p0.Key), pl (.string p0.Value), pl (.int .u8 p0.Rights), pl (.int .u64 p0.Most), pl (.bool p0.Flag)]] (agg [pl (.int .u8 R.Kind), pl (.int .u64 R.Space), pl (.int .u64 R.Handle), pl (.int .i64 R.Ref.Slot), pl (.int .u64 R.Ref.Gen), pl (.int .u64 R.To), pl (.string R.Key), pl (.string R.Value), pl (.int .u8 R.Rights), pl (.int .u64 R.Most), pl (.bool R.Flag)]) := by
  intro s
  unfold F_qgive at h0
  refine ac_of_aw s.boxes.length s.fr.length Go.Proofs.Tryd.func64 rfl (by simp [Go.Proofs.Tryd.ntmps64]) ?_
  refine aw_ext0 ?_
  refine aw_keep [(0, _)] ⟨lg ez, trivial⟩ ?_
  refine aw_seq ?_
  refine aw_region (by decide) ?_
  refine rts _ rfl (boxAN rfl oz (bnd_cons (pl_bnd _ _ _) (bnd_cons (pl_bnd _ _ _) (bnd_cons (pl_bnd _ _ _) (bnd_cons (pl_bnd _ _ _) (bnd_cons (pl_bnd _ _ _) (bnd_cons (pl_bnd _ _ _) (bnd_cons (pl_bnd _ _ _) (bnd_cons (pl_bnd _ _ _) (bnd_cons (pl_bnd _ _ _) (bnd_cons (pl_bnd _ _ _) (bnd_cons (pl_bnd _ _ _) bnd_nil))))))))))) (by first | exact List.length_nil | (simp only [List.length_cons, List.length_nil, Nat.zero_add, Nat.reduceAdd] <;> rfl)) (by simp only [na, nb, nc, nd, nf, ng, nh, ni, nj, nk] <;> rfl)) ?_
  refine rts _ rfl (allocN rfl zt118_u4b (by first | exact List.length_nil | (simp only [List.length_cons, List.length_nil, Nat.zero_add, Nat.reduceAdd] <;> rfl)) (by simp only [na, nb, nc, nd, nf, ng, nh, ni, nj, nk] <;> rfl)) ?_
  refine .nil ?_
  refine aw_keep [(1, _), (2, _)] ⟨lg (ls rfl lz), lg lz, trivial⟩ ?_
  refine aw_seq ?_
  refine aw_region (by decide) ?_
  refine rts _ rfl (opD_fieldAddr fo114_0_u4b oz) ?_
  refine rts _ rfl (opD_load_one ag5_u4b lz (loc_getN rfl rfl) rfl) ?_
  refine rts _ rfl (opD_fieldAddr fo114_1_u4b (ls rfl (ls rfl oz))) ?_
  refine rts _ rfl (opD_load_one ag22_u4b lz (loc_getN rfl rfl) rfl) ?_
  refine rts _ rfl (opD_fieldAddr fo114_2_u4b (ls rfl (ls rfl (ls rfl (ls rfl oz))))) ?_
  refine rts _ rfl (opD_load_one ag22_u4b lz (loc_getN rfl rfl) rfl) ?_
  refine rts _ rfl (opD_fieldAddr fo114_3_u4b (ls rfl (ls rfl (ls rfl (ls rfl (ls rfl (ls rfl oz))))))) ?_
  refine rts _ rfl (opD_load_aggX (qs := [_, _]) ag112_u4b sz112_u4b lz (loc_getN rfl rfl) (Nat.le_of_ble_eq_true rfl) rfl) ?_
  refine rts _ rfl (opD_fieldAddr fo114_4_u4b (ls rfl (ls rfl (ls rfl (ls rfl (ls rfl (ls rfl (ls rfl (ls rfl oz))))))))) ?_
  refine rts _ rfl (opD_load_one ag22_u4b lz (loc_getN rfl rfl) rfl) ?_
  refine rts _ rfl (opD_fieldAddr fo114_5_u4b (ls rfl (ls rfl (ls rfl (ls rfl (ls rfl (ls rfl (ls rfl (ls rfl (ls rfl (ls rfl oz))))))))))) ?_
  refine rts _ rfl (opD_load_one ag9_u4b lz (loc_getN rfl rfl) rfl) ?_
  refine rts _ rfl (opD_fieldAddr fo114_6_u4b (ls rfl (ls rfl (ls rfl (ls rfl (ls rfl (ls rfl (ls rfl (ls rfl (ls rfl (ls rfl (ls rfl (ls rfl oz))))))))))))) ?_
  refine rts _ rfl (opD_load_one ag9_u4b lz (loc_getN rfl rfl) rfl) ?_
  refine rts _ rfl (opD_fieldAddr fo114_7_u4b (ls rfl (ls rfl (ls rfl (ls rfl (ls rfl (ls rfl (ls rfl (ls rfl (ls rfl (ls rfl (ls rfl (ls rfl (ls rfl (ls rfl oz))))))))))))))) ?_
  refine rts _ rfl (opD_load_one ag5_u4b lz (loc_getN rfl rfl) rfl) ?_
  refine rts _ rfl (opD_fieldAddr fo114_8_u4b (ls rfl (ls rfl (ls rfl (ls rfl (ls rfl (ls rfl (ls rfl (ls rfl (ls rfl (ls rfl (ls rfl (ls rfl (ls rfl (ls rfl (ls rfl (ls rfl oz))))))))))))))))) ?_
  refine rts _ rfl (opD_load_one ag22_u4b lz (loc_getN rfl rfl) rfl) ?_
  refine rts _ rfl (opD_fieldAddr fo114_9_u4b (ls rfl (ls rfl (ls rfl (ls rfl (ls rfl (ls rfl (ls rfl (ls rfl (ls rfl (ls rfl (ls rfl (ls rfl (ls rfl (ls rfl (ls rfl (ls rfl (ls rfl (ls rfl oz))))))))))))))))))) ?_
  refine rts _ rfl (opD_load_one ag4_u4b lz (loc_getN rfl rfl) rfl) ?_
  refine rts _ rfl (opD_build_struct (rs := [_, _, _, _, _, _, _, _, _, _, _]) Go.Proofs.Tryd.underlying118 pt118_u4b zt118_u4b (parts_cons (cells1 (ls rfl (ls rfl (ls rfl (ls rfl (ls rfl (ls rfl (ls rfl (ls rfl (ls rfl (ls rfl (ls rfl (ls rfl (ls rfl (ls rfl (ls rfl (ls rfl (ls rfl (ls rfl lz)))))))))))))))))) (one_pl rfl)) (parts_cons (cells1 (ls rfl (ls rfl (ls rfl (ls rfl (ls rfl (ls rfl (ls rfl (ls rfl (ls rfl (ls rfl (ls rfl (ls rfl (ls rfl (ls rfl (ls rfl (ls rfl lz)))))))))))))))) (one_pl rfl)) (parts_cons (cells1 (ls rfl (ls rfl (ls rfl (ls rfl (ls rfl (ls rfl (ls rfl (ls rfl (ls rfl (ls rfl (ls rfl (ls rfl (ls rfl (ls rfl lz)))))))))))))) (one_pl rfl)) (parts_cons (cellsA (ls rfl (ls rfl (ls rfl (ls rfl (ls rfl (ls rfl (ls rfl (ls rfl (ls rfl (ls rfl (ls rfl (ls rfl lz))))))))))))) (parts_cons (cells1 (ls rfl (ls rfl (ls rfl (ls rfl (ls rfl (ls rfl (ls rfl (ls rfl (ls rfl (ls rfl lz)))))))))) (one_pl rfl)) (parts_cons (cells1 (ls rfl (ls rfl (ls rfl (ls rfl (ls rfl (ls rfl (ls rfl (ls rfl lz)))))))) (one_pl rfl)) (parts_cons (cells1 (ls rfl (ls rfl (ls rfl (ls rfl (ls rfl (ls rfl lz)))))) (one_pl rfl)) (parts_cons (cells1 (ls rfl (ls rfl (ls rfl (ls rfl lz)))) (one_pl rfl)) (parts_cons (cells1 (ls rfl (ls rfl lz)) (one_pl rfl)) (parts_cons (cells1 lz (one_pl rfl)) parts_nil)))))))))) (fill_step rfl (by rfl) (by rfl) (by simp only [na, nb, nl, nc, nd, nh, ni, nj, nk, nm, Nat.reduceAdd] <;> rfl) (fill_step rfl (by rfl) (by rfl) (by simp only [na, nb, nl, nc, nd, nh, ni, nj, nk, nm, Nat.reduceAdd] <;> rfl) (fill_step rfl (by rfl) (by rfl) (by simp only [na, nb, nl, nc, nd, nh, ni, nj, nk, nm, Nat.reduceAdd] <;> rfl) (fill_step rfl (by rfl) (by rfl) (by simp only [na, nb, nl, nc, nd, nh, ni, nj, nk, nm, Nat.reduceAdd] <;> rfl) (fill_step rfl (by rfl) (by rfl) (by simp only [na, nb, nl, nc, nd, nh, ni, nj, nk, nm, Nat.reduceAdd] <;> rfl) (fill_step rfl (by rfl) (by rfl) (by simp only [na, nb, nl, nc, nd, nh, ni, nj, nk, nm, Nat.reduceAdd] <;> rfl) (fill_step rfl (by rfl) (by rfl) (by simp only [na, nb, nl, nc, nd, nh, ni, nj, nk, nm, Nat.reduceAdd] <;> rfl) (fill_step rfl (by rfl) (by rfl) (by simp only [na, nb, nl, nc, nd, nh, ni, nj, nk, nm, Nat.reduceAdd] <;> rfl) (fill_step rfl (by rfl) (by rfl) (by simp only [na, nb, nl, nc, nd, nh, ni, nj, nk, nm, Nat.reduceAdd] <;> rfl) (fill_step rfl (by rfl) (by rfl) (by simp only [na, nb, nl, nc, nd, nh, ni, nj, nk, nm, Nat.reduceAdd] <;> rfl) fill_nil))))))))))) ?_
  refine rts _ rfl (storeAN rfl sz118_u4b (ls rfl (ls rfl (ls rfl (ls rfl (ls rfl (ls rfl (ls rfl (ls rfl (ls rfl (ls rfl (ls rfl (ls rfl (ls rfl (ls rfl (ls rfl (ls rfl (ls rfl (ls rfl (ls rfl (ls rfl (ls rfl (os rfl oz)))))))))))))))))))))) lz (ones_cons (one_pl rfl) (ones_cons (one_pl rfl) (ones_cons (one_pl rfl) (ones_cons (one_pl rfl) (ones_cons (one_pl rfl) (ones_cons (one_pl rfl) (ones_cons (one_pl rfl) (ones_cons (one_pl rfl) (ones_cons (one_pl rfl) (ones_cons (one_pl rfl) (ones_cons (one_pl rfl) ones_nil))))))))))) rfl rfl (Nat.le_of_ble_eq_true rfl) (List.cons_ne_nil _ _) (bnd_cons (pl_bnd _ _ _) (bnd_cons (pl_bnd _ _ _) (bnd_cons (pl_bnd _ _ _) (bnd_cons (pl_bnd _ _ _) (bnd_cons (pl_bnd _ _ _) (bnd_cons (pl_bnd _ _ _) (bnd_cons (pl_bnd _ _ _) (bnd_cons (pl_bnd _ _ _) (bnd_cons (pl_bnd _ _ _) (bnd_cons (pl_bnd _ _ _) (bnd_cons (pl_bnd _ _ _) bnd_nil))))))))))) (by simp only [na, nb, nc, nd, nf, ng, nh, ni, nj, nk] <;> rfl) (by simp only [na, nb, nc, nd, nf, ng, nh, ni, nj, nk] <;> rfl)) ?_
  refine .nil ?_
  refine aw_keep [(2, _)] ⟨lg (lx (ls rfl (ls rfl (ls rfl (ls rfl (ls rfl (ls rfl (ls rfl (ls rfl (ls rfl (ls rfl (ls rfl (ls rfl (ls rfl (ls rfl (ls rfl (ls rfl (ls rfl (ls rfl (ls rfl (ls rfl (ls rfl (os rfl oz))))))))))))))))))))))), trivial⟩ ?_
  refine aw_ret ?_
  obtain rfl := some_of h0
  exact done_ext (.inr rfl) ((res_one rfl (it_cellA (B := ⟨118, [_, _, _, _, _, _, _, _, _, _, _]⟩) ag118_u4b sz118_u4b oz (loc_getN rfl rfl) rfl)).le (agg_le ⟨(Pd.le_refl _), (Pd.le_refl _), (Pd.le_refl _), (Pd.le_refl _), (Pd.le_refl _), (Pd.le_refl _), (Pd.le_refl _), (Pd.le_refl _), (Pd.le_refl _), (Pd.le_refl _), (Pd.le_refl _), trivial⟩)) (agg_bnd (bnd_cons (pl_bnd _ _ _) (bnd_cons (pl_bnd _ _ _) (bnd_cons (pl_bnd _ _ _) (bnd_cons (pl_bnd _ _ _) (bnd_cons (pl_bnd _ _ _) (bnd_cons (pl_bnd _ _ _) (bnd_cons (pl_bnd _ _ _) (bnd_cons (pl_bnd _ _ _) (bnd_cons (pl_bnd _ _ _) (bnd_cons (pl_bnd _ _ _) (bnd_cons (pl_bnd _ _ _) bnd_nil))))))))))))
end Go.Proofs.YtmnhfpcbfdgbcaaDoor.Eng.A
