/- EH4: what functions do, walked; used by the laws of this seat. -/
import Derived.Test.YtmnhfpcbfdgbcaaDoorEH3
namespace Go.Proofs.YtmnhfpcbfdgbcaaDoor.Eng.A
set_option linter.unusedVariables false
set_option linter.unusedSimpArgs false
open Go.RowKit Go.Proofs.YtmnhfpcbfdgbcaaDoor.Plain Go.Proofs.YtmnhfpcbfdgbcaaDoor.Eng Go.Proofs.YtmnhfpcbfdgbcaaDoor.Eng.Pk Go.Proofs.YtmnhfpcbfdgbcaaDoor.Eng.Rd

theorem zt137_U12 : zeroT Go.Proofs.Tryd.prog 137 = some [.int .u64 0, .int .u64 0, .int .u64 0, .int .u64 0, .int .u64 0] := by kernel_rfl
theorem pt137_U12 : placesT Go.Proofs.Tryd.prog 137 5 = some [(0, 1), (1, 1), (2, 1), (3, 1), (4, 1)] := by kernel_rfl
theorem cc107_U12 : Go.Proofs.Tryd.prog.concrete 107 = true := by kernel_rfl
theorem sz137_U12 : sizeT Go.Proofs.Tryd.prog 137 = some 5 := by kernel_rfl
theorem ag137_U12 : aggT Go.Proofs.Tryd.prog 137 = some true := by kernel_rfl
theorem ht75_U12 : hasText Go.Proofs.Tryd.prog 75 = true := by kernel_rfl
theorem ht79_U12 : hasText Go.Proofs.Tryd.prog 79 = true := by kernel_rfl
theorem ht74_U12 : hasText Go.Proofs.Tryd.prog 74 = true := by kernel_rfl
theorem ht73_U12 : hasText Go.Proofs.Tryd.prog 73 = true := by kernel_rfl
theorem fo137_4_U12 : fieldOff Go.Proofs.Tryd.prog 137 4 = some 4 := by kernel_rfl
theorem ag22_U12 : aggT Go.Proofs.Tryd.prog 22 = some false := by kernel_rfl
theorem ht76_U12 : hasText Go.Proofs.Tryd.prog 76 = true := by kernel_rfl
theorem ht78_U12 : hasText Go.Proofs.Tryd.prog 78 = true := by kernel_rfl
theorem ht77_U12 : hasText Go.Proofs.Tryd.prog 77 = true := by kernel_rfl
theorem zt147_U12 : zeroT Go.Proofs.Tryd.prog 147 = some [.slice none 0 0, .slice none 0 0] := by kernel_rfl
theorem sz150_U12 : sizeT Go.Proofs.Tryd.prog 150 = some 6 := by kernel_rfl
theorem fo150_1_U12 : fieldOff Go.Proofs.Tryd.prog 150 1 = some 1 := by kernel_rfl
theorem ag148_U12 : aggT Go.Proofs.Tryd.prog 148 = some true := by kernel_rfl
theorem sz148_U12 : sizeT Go.Proofs.Tryd.prog 148 = some 5 := by kernel_rfl
theorem zt148_U12 : zeroT Go.Proofs.Tryd.prog 148 = some [.int .u64 0, .int .u64 0, .int .u64 0, .int .u64 0, .int .u64 0] := by kernel_rfl
theorem fo150_0_U12 : fieldOff Go.Proofs.Tryd.prog 150 0 = some 0 := by kernel_rfl
theorem ag3_U12 : aggT Go.Proofs.Tryd.prog 3 = some false := by kernel_rfl
theorem fo148_0_U12 : fieldOff Go.Proofs.Tryd.prog 148 0 = some 0 := by kernel_rfl
theorem fo148_1_U12 : fieldOff Go.Proofs.Tryd.prog 148 1 = some 1 := by kernel_rfl
theorem ag147_U12 : aggT Go.Proofs.Tryd.prog 147 = some true := by kernel_rfl
theorem sz147_U12 : sizeT Go.Proofs.Tryd.prog 147 = some 2 := by kernel_rfl
theorem ht80_U12 : hasText Go.Proofs.Tryd.prog 80 = true := by kernel_rfl
theorem ht81_U12 : hasText Go.Proofs.Tryd.prog 81 = true := by kernel_rfl
theorem fo148_2_U12 : fieldOff Go.Proofs.Tryd.prog 148 2 = some 2 := by kernel_rfl
theorem ht82_U12 : hasText Go.Proofs.Tryd.prog 82 = true := by kernel_rfl
theorem ht84_U12 : hasText Go.Proofs.Tryd.prog 84 = true := by kernel_rfl
theorem ht83_U12 : hasText Go.Proofs.Tryd.prog 83 = true := by kernel_rfl
theorem mixed_U12 : Go.Proofs.Tryd.prog.follows .mixedOrders = true := by kernel_rfl
theorem ht85_U12 : hasText Go.Proofs.Tryd.prog 85 = true := by kernel_rfl

open Go.Proofs.YtmnhfpcbfdgbcaaDoor.Eng.Er Go.Proofs.YtmnhfpcbfdgbcaaDoor.Eng.Er2 Go.Proofs.YtmnhfpcbfdgbcaaDoor.Eng.Hb Go.Proofs.YtmnhfpcbfdgbcaaDoor.Eng.Hc Go.Proofs.YtmnhfpcbfdgbcaaDoor.Eng.Hd Go.Proofs.YtmnhfpcbfdgbcaaDoor.Eng.He Go.Proofs.YtmnhfpcbfdgbcaaDoor.Eng.Hf

def tNumG (o : Option Int) : Option Int := some (numV o)
theorem c_num34 {p0 : Option Int} {R : Int} {s : St} (h0 : tNumG p0 = some R) (hst : StGV s) : AC Go.Proofs.Tryd.prog 76 [pl (errV p0)] s (pl (.int .i64 R)) s := by obtain rfl := some_of h0; exact num34 hst

def F_nOf (p1 : Int) : Option ((List Itm)) :=
  some []
set_option maxRecDepth 100000 in
set_option maxHeartbeats 2000000 in
theorem c_nOf {p1 : Int} {R : (List Itm)} (h0 : F_nOf p1 = some R) : Pure Go.Proofs.Tryd.prog 78 [pl (.pointer none), pl (.int .u64 p1)] (sl kItm none none R) := by
  intro s
  unfold F_nOf at h0
  refine ac_of_aw s.boxes.length s.fr.length Go.Proofs.Tryd.func78 rfl (by simp [Go.Proofs.Tryd.ntmps78]) ?_
  refine aw_ext0 ?_
  refine aw_keep [(0, _), (1, _)] ⟨lg ez, lg (es ez), trivial⟩ ?_
  refine aw_seq ?_
  refine aw_region (by decide) ?_
  refine rts _ rfl (opD_assign (ev_const _ _)) ?_
  refine .nil ?_
  refine aw_keep [(0, _), (1, _)] ⟨lg (ls rfl oz), lg (ls rfl (os rfl oz)), trivial⟩ ?_
  refine aw_seq ?_
  refine aw_seq ?_
  refine aw_region (by decide) ?_
  refine rts _ rfl (opD_move oz) ?_
  refine rts _ rfl (opD_nilp_eqnil Go.Proofs.Tryd.underlying132 lz) ?_
  refine .nil ?_
  refine aw_keep [(0, _), (1, _), (9, _)] ⟨lg (ls rfl (ls rfl oz)), lg (ls rfl (ls rfl (os rfl oz))), lg lz, trivial⟩ ?_
  refine aw_cond _ (os rfl (os rfl oz)) (fun hc => ?_) (fun hc => ?_)
  · skip
    refine aw_seq ?_
    refine aw_region (by decide) ?_
    refine rts _ rfl (opD_assign (ev_const _ _)) ?_
    refine .nil ?_
    refine aw_keep [(4, _)] ⟨lg lz, trivial⟩ ?_
    refine aw_ret ?_
    obtain rfl := some_of h0
    exact done_ext (.inr rfl) ((res_one rfl (it_tmp oz)).le (le_nil rfl)) (sl_b kb_Itm)
  · skip
    cases hc

def F_nGet (p1 : Int) (p2 : Int) : Option (Itm × (Option Int)) :=
  some ((⟨0, 0, 0, 0, 0⟩ : Itm), some 1)
set_option maxRecDepth 100000 in
set_option maxHeartbeats 2000000 in
theorem c_nGet {p1 : Int} {p2 : Int} {R : Itm × (Option Int)} (h0 : F_nGet p1 p2 = some R) : Pure Go.Proofs.Tryd.prog 75 [pl (.pointer none), pl (.int .u64 p1), pl (.int .u64 p2)] (tup [agg [pl (.int .u64 R.1.Who), pl (.int .u64 R.1.No), pl (.int .u64 R.1.Space), pl (.int .u64 R.1.Gen), pl (.int .u64 R.1.Txn)], pl (errV R.2)]) := by
  intro s
  unfold F_nGet at h0
  refine ac_of_aw s.boxes.length s.fr.length Go.Proofs.Tryd.func75 rfl (by simp [Go.Proofs.Tryd.ntmps75]) ?_
  refine aw_ext0 ?_
  refine aw_keep [(0, _), (1, _), (2, _)] ⟨lg ez, lg (es ez), lg (es (es ez)), trivial⟩ ?_
  refine aw_seq ?_
  refine aw_region (by decide) ?_
  refine rts _ rfl (allocN rfl zt137_U12 (by first | exact List.length_nil | (simp only [List.length_cons, List.length_nil, Nat.zero_add, Nat.reduceAdd] <;> rfl)) (by simp only [na, nb, nc, nd, nf, ng, nh, ni, nj, nk] <;> rfl)) ?_
  refine rts _ rfl (opD_assign (ev_const _ _)) ?_
  refine .nil ?_
  refine aw_keep [(0, _), (1, _), (2, _), (6, _)] ⟨lg (ls rfl (ls rfl oz)), lg (ls rfl (ls rfl (os rfl oz))), lg (ls rfl (ls rfl (os rfl (os rfl oz)))), lg (ls rfl lz), trivial⟩ ?_
  refine aw_seq ?_
  refine aw_seq ?_
  refine aw_region (by decide) ?_
  refine rts _ rfl (opD_move oz) ?_
  refine rts _ rfl (opD_nilp_eqnil Go.Proofs.Tryd.underlying132 lz) ?_
  refine .nil ?_
  refine aw_keep [(0, _), (1, _), (2, _), (6, _), (11, _)] ⟨lg (ls rfl (ls rfl oz)), lg (ls rfl (ls rfl (os rfl oz))), lg (ls rfl (ls rfl (os rfl (os rfl oz)))), lg (ls rfl (ls rfl (os rfl (os rfl (os rfl oz))))), lg lz, trivial⟩ ?_
  refine aw_cond _ (os rfl (os rfl (os rfl (os rfl oz)))) (fun hc => ?_) (fun hc => ?_)
  · skip
    refine aw_seq ?_
    refine aw_region (by decide) ?_
    refine rts _ rfl (opD_build_struct (rs := [_, _, _, _, _]) Go.Proofs.Tryd.underlying137 pt137_U12 zt137_U12 parts_nil rfl) ?_
    refine rts _ rfl (opD_ple (q := pl (errV (some 1))) rfl (opD_makeInterface_pl cc107_U12 (ev_const _ _))) ?_
    refine rts _ rfl (storeAN rfl sz137_U12 (ls rfl (ls rfl (os rfl (os rfl (os rfl oz))))) (ls rfl lz) (ones_cons (one_pl rfl) (ones_cons (one_pl rfl) (ones_cons (one_pl rfl) (ones_cons (one_pl rfl) (ones_cons (one_pl rfl) ones_nil))))) rfl rfl (Nat.le_of_ble_eq_true rfl) (List.cons_ne_nil _ _) (bnd_cons (pl_bnd _ _ _) (bnd_cons (pl_bnd _ _ _) (bnd_cons (pl_bnd _ _ _) (bnd_cons (pl_bnd _ _ _) (bnd_cons (pl_bnd _ _ _) bnd_nil))))) (by simp only [na, nb, nc, nd, nf, ng, nh, ni, nj, nk] <;> rfl) (by simp only [na, nb, nc, nd, nf, ng, nh, ni, nj, nk] <;> rfl)) ?_
    refine rts _ rfl (opD_assign (lx lz)) ?_
    refine .nil ?_
    refine aw_keep [(6, _), (7, _)] ⟨lg (ls rfl (lx (ls rfl (ls rfl (os rfl (os rfl (os rfl oz))))))), lg lz, trivial⟩ ?_
    refine aw_ret ?_
    obtain rfl := some_of h0
    exact done_ext (.inr rfl) ((res_list (rs := [_, _]) (ps := [_, _]) rfl rfl ⟨it_cellA (B := ⟨137, [_, _, _, _, _]⟩) ag137_U12 sz137_U12 oz (loc_getN rfl rfl) rfl, it_tmp (os rfl oz), trivial⟩).le (tup_le ⟨(agg_le ⟨(Pd.le_refl _), (Pd.le_refl _), (Pd.le_refl _), (Pd.le_refl _), (Pd.le_refl _), trivial⟩), (Pd.le_refl _), trivial⟩)) (tup_bnd (bnd_cons (agg_bnd (bnd_cons (pl_bnd _ _ _) (bnd_cons (pl_bnd _ _ _) (bnd_cons (pl_bnd _ _ _) (bnd_cons (pl_bnd _ _ _) (bnd_cons (pl_bnd _ _ _) bnd_nil)))))) (bnd_cons (pl_bnd _ _ _) bnd_nil)))
  · skip
    cases hc

def F_nGive (p1 : Itm) : Option (Int × (Option Int)) :=
  some (0, some 1)
set_option maxRecDepth 100000 in
set_option maxHeartbeats 2000000 in
theorem c_nGive {p1 : Itm} {R : Int × (Option Int)} (h0 : F_nGive p1 = some R) : Pure Go.Proofs.Tryd.prog 74 [pl (.pointer none), agg [pl (.int .u64 p1.Who), pl (.int .u64 p1.No), pl (.int .u64 p1.Space), pl (.int .u64 p1.Gen), pl (.int .u64 p1.Txn)]] (tup [pl (.int .u64 R.1), pl (errV R.2)]) := by
  intro s
  unfold F_nGive at h0
  refine ac_of_aw s.boxes.length s.fr.length Go.Proofs.Tryd.func74 rfl (by simp [Go.Proofs.Tryd.ntmps74]) ?_
  refine aw_ext0 ?_
  refine aw_keep [(0, _), (1, _)] ⟨lg ez, lg (es ez), trivial⟩ ?_
  refine aw_seq ?_
  refine aw_region (by decide) ?_
  refine rts _ rfl (boxAN rfl (os rfl oz) (bnd_cons (pl_bnd _ _ _) (bnd_cons (pl_bnd _ _ _) (bnd_cons (pl_bnd _ _ _) (bnd_cons (pl_bnd _ _ _) (bnd_cons (pl_bnd _ _ _) bnd_nil))))) (by first | exact List.length_nil | (simp only [List.length_cons, List.length_nil, Nat.zero_add, Nat.reduceAdd] <;> rfl)) (by simp only [na, nb, nc, nd, nf, ng, nh, ni, nj, nk] <;> rfl)) ?_
  refine rts _ rfl (opD_assign (ev_const _ _)) ?_
  refine rts _ rfl (opD_assign (ev_const _ _)) ?_
  refine .nil ?_
  refine aw_keep [(0, _), (3, _)] ⟨lg (ls rfl (ls rfl (ls rfl oz))), lg (ls rfl (ls rfl lz)), trivial⟩ ?_
  refine aw_seq ?_
  refine aw_block ?_
  refine aw_seq ?_
  refine aw_region (by decide) ?_
  refine rts _ rfl (opD_move oz) ?_
  refine rts _ rfl (opD_nilp_eqnil Go.Proofs.Tryd.underlying132 lz) ?_
  refine rts _ rfl (opD_assign lz) ?_
  refine .nil ?_
  refine aw_keep [(0, _), (3, _), (6, _)] ⟨lg (ls rfl (ls rfl (ls rfl oz))), lg (ls rfl (ls rfl (ls rfl (os rfl oz)))), lg lz, trivial⟩ ?_
  refine aw_cond _ (os rfl (os rfl oz)) (fun hc => ?_) (fun hc => ?_)
  · skip
    refine aw_seq ?_
    refine aw_region (by decide) ?_
    refine rts _ rfl (opD_ple (q := pl (errV (some 1))) rfl (opD_makeInterface_pl cc107_U12 (ev_const _ _))) ?_
    refine rts _ rfl (opD_assign (ev_const _ _)) ?_
    refine rts _ rfl (opD_assign (ls rfl lz)) ?_
    refine .nil ?_
    refine aw_keep [(4, _), (5, _)] ⟨lg (ls rfl lz), lg lz, trivial⟩ ?_
    refine aw_ret ?_
    obtain rfl := some_of h0
    exact done_ext (.inr rfl) ((res_list (rs := [_, _]) (ps := [_, _]) rfl rfl ⟨it_tmp oz, it_tmp (os rfl oz), trivial⟩).le (tup_le ⟨(Pd.le_refl _), (Pd.le_refl _), trivial⟩)) (tup_bnd (bnd_cons (pl_bnd _ _ _) (bnd_cons (pl_bnd _ _ _) bnd_nil)))
  · skip
    cases hc

def F_nDrop (p1 : Int) (p2 : Int) : Option ((Option Int)) :=
  bnd (F_nGet p1 p2) fun x_1 => grd (x_1.2.isSome = true) <| some x_1.2
set_option maxRecDepth 100000 in
set_option maxHeartbeats 2000000 in
theorem c_nDrop {p1 : Int} {p2 : Int} {R : (Option Int)} (h0 : F_nDrop p1 p2 = some R) : Pure Go.Proofs.Tryd.prog 77 [pl (.pointer none), pl (.int .u64 p1), pl (.int .u64 p2)] (pl (errV R)) := by
  intro s
  unfold F_nDrop at h0
  refine ac_of_aw s.boxes.length s.fr.length Go.Proofs.Tryd.func77 rfl (by simp [Go.Proofs.Tryd.ntmps77]) ?_
  refine aw_ext0 ?_
  refine aw_keep [(0, _), (1, _), (2, _)] ⟨lg ez, lg (es ez), lg (es (es ez)), trivial⟩ ?_
  refine aw_seq ?_
  refine aw_region (by decide) ?_
  refine rts _ rfl (opD_assign (ev_const _ _)) ?_
  refine .nil ?_
  refine aw_keep [(0, _), (1, _), (2, _)] ⟨lg (ls rfl oz), lg (ls rfl (os rfl oz)), lg (ls rfl (os rfl (os rfl oz))), trivial⟩ ?_
  refine aw_seq ?_
  refine aw_seq ?_
  refine aw_region (by decide) ?_
  refine rts _ rfl (opD_move oz) ?_
  refine rts _ rfl (opD_move (ls rfl (os rfl oz))) ?_
  refine rts _ rfl (opD_move (ls rfl (ls rfl (os rfl (os rfl oz))))) ?_
  replace h0 := bnd_some h0
  obtain ⟨x_1, hx_1, h0⟩ := h0
  refine rts _ rfl (opD_pure ht75_U12 (c_nGet hx_1) ⟨le_of_eq (ls rfl (ls rfl lz)), le_of_eq (ls rfl lz), le_of_eq lz, trivial⟩) ?_
  refine rts _ rfl (opD_move lz) ?_
  refine rts _ rfl (opD_extract lz rfl) ?_
  refine rts _ rfl (opD_extract (ls rfl lz) rfl) ?_
  refine rts _ rfl (allocN rfl zt137_U12 (by first | exact List.length_nil | (simp only [List.length_cons, List.length_nil, Nat.zero_add, Nat.reduceAdd] <;> rfl)) (by simp only [na, nb, nc, nd, nf, ng, nh, ni, nj, nk] <;> rfl)) ?_
  refine rts _ rfl (storeAN rfl sz137_U12 lz (ls rfl (ls rfl lz)) (ones_cons (one_pl rfl) (ones_cons (one_pl rfl) (ones_cons (one_pl rfl) (ones_cons (one_pl rfl) (ones_cons (one_pl rfl) ones_nil))))) rfl rfl (Nat.le_of_ble_eq_true rfl) (List.cons_ne_nil _ _) (bnd_cons (pl_bnd _ _ _) (bnd_cons (pl_bnd _ _ _) (bnd_cons (pl_bnd _ _ _) (bnd_cons (pl_bnd _ _ _) (bnd_cons (pl_bnd _ _ _) bnd_nil))))) (by simp only [na, nb, nc, nd, nf, ng, nh, ni, nj, nk] <;> rfl) (by simp only [na, nb, nc, nd, nf, ng, nh, ni, nj, nk] <;> rfl)) ?_
  refine rts _ rfl (opD_assign (lx (ls rfl lz))) ?_
  refine .nil ?_
  refine aw_keep [(0, _), (1, _), (2, _), (8, _)] ⟨lg (ls rfl (lx (ls rfl (ls rfl (ls rfl (ls rfl (ls rfl (ls rfl (ls rfl (ls rfl oz)))))))))), lg (ls rfl (lx (ls rfl (ls rfl (ls rfl (ls rfl (ls rfl (ls rfl (ls rfl (ls rfl (os rfl oz))))))))))), lg (ls rfl (lx (ls rfl (ls rfl (ls rfl (ls rfl (ls rfl (ls rfl (ls rfl (ls rfl (os rfl (os rfl oz)))))))))))), lg lz, trivial⟩ ?_
  refine aw_seq ?_
  refine aw_region (by decide) ?_
  refine rts _ rfl (opD_move (os rfl (os rfl (os rfl oz)))) ?_
  refine rts _ rfl (opD_bin lz (ev_const _ _) (fun w => errV_guard _ w _) (fun w => errV_beq _ w)) ?_
  refine .nil ?_
  refine aw_keep [(0, _), (1, _), (2, _), (8, _), (17, _)] ⟨lg (ls rfl (ls rfl oz)), lg (ls rfl (ls rfl (os rfl oz))), lg (ls rfl (ls rfl (os rfl (os rfl oz)))), lg (ls rfl (ls rfl (os rfl (os rfl (os rfl oz))))), lg lz, trivial⟩ ?_
  replace h0 := grd_some h0
  obtain ⟨hg_1, h0⟩ := h0
  refine aw_cond _ (os rfl (os rfl (os rfl (os rfl oz)))) (fun hc => ?_) (fun hc => ?_)
  · skip
    refine aw_seq ?_
    refine aw_region (by decide) ?_
    refine rts _ rfl (opD_move (os rfl (os rfl (os rfl oz)))) ?_
    refine rts _ rfl (opD_assign lz) ?_
    refine .nil ?_
    refine aw_keep [(6, _)] ⟨lg lz, trivial⟩ ?_
    refine aw_ret ?_
    obtain rfl := some_of h0
    exact done_ext (.inr rfl) ((res_one rfl (it_tmp oz)).le (Pd.le_refl _)) (pl_bnd _ _ _)
  · skip
    rw [hg_1] at hc
    cases hc

def F_nForget (p1 : Int) : Option (Unit) :=
  some ()
set_option maxRecDepth 100000 in
set_option maxHeartbeats 2000000 in
theorem c_nForget {p1 : Int} {R : Unit} (h0 : F_nForget p1 = some R) : Pure Go.Proofs.Tryd.prog 73 [pl (.pointer none), pl (.int .u64 p1)] (pl (.tuple #[])) := by
  intro s
  unfold F_nForget at h0
  refine ac_of_aw s.boxes.length s.fr.length Go.Proofs.Tryd.func73 rfl (by simp [Go.Proofs.Tryd.ntmps73]) ?_
  refine aw_ext0 ?_
  refine aw_keep [(0, _), (1, _)] ⟨lg ez, lg (es ez), trivial⟩ ?_
  refine aw_seq ?_
  refine aw_region (by decide) ?_
  refine rts _ rfl (boxON rfl (os rfl oz) (one_pl rfl) (pl_bnd _ _ _) (by first | exact List.length_nil | (simp only [List.length_cons, List.length_nil, Nat.zero_add, Nat.reduceAdd] <;> rfl)) (by simp only [na, nb, nc, nd, nf, ng, nh, ni, nj, nk] <;> rfl)) ?_
  refine .nil ?_
  refine aw_keep [(0, _), (3, _)] ⟨lg (ls rfl oz), lg lz, trivial⟩ ?_
  refine aw_seq ?_
  refine aw_region (by decide) ?_
  refine rts _ rfl (opD_move oz) ?_
  refine rts _ rfl (opD_nilp_neqnil Go.Proofs.Tryd.underlying132 lz) ?_
  refine .nil ?_
  refine aw_keep [(0, _), (3, _), (5, _)] ⟨lg (ls rfl (ls rfl oz)), lg (ls rfl (ls rfl (os rfl oz))), lg lz, trivial⟩ ?_
  refine aw_cond _ (os rfl (os rfl oz)) (fun hc => ?_) (fun hc => ?_)
  · skip
    cases hc
  · skip
    refine aw_skip ?_
    obtain rfl := some_of h0
    exact done_ext (.inl rfl) (res_0 rfl) (pl_bnd _ _ _)

structure HAct where
  Kind : Int
  X : Itm
  deriving DecidableEq
instance : Inhabited HAct := ⟨⟨0, default⟩⟩
def kHAct : Kn HAct := ⟨6, fun x => [pl (.int .i64 x.Kind), pl (.int .u64 x.X.Who), pl (.int .u64 x.X.No), pl (.int .u64 x.X.Space), pl (.int .u64 x.X.Gen), pl (.int .u64 x.X.Txn)], fun _ => rfl, fun x p hp => by
  have h : ∀ p ∈ [pl (.int .i64 x.Kind), pl (.int .u64 x.X.Who), pl (.int .u64 x.X.No), pl (.int .u64 x.X.Space), pl (.int .u64 x.X.Gen), pl (.int .u64 x.X.Txn)], Pd.One p := (ones_cons (one_pl rfl) (ones_cons (one_pl rfl) (ones_cons (one_pl rfl) (ones_cons (one_pl rfl) (ones_cons (one_pl rfl) (ones_cons (one_pl rfl) ones_nil))))))
  exact h p hp⟩
theorem kb_HAct : KB kHAct := fun x n m p hp => ((bnd_cons (pl_bnd _ _ _) (bnd_cons (pl_bnd _ _ _) (bnd_cons (pl_bnd _ _ _) (bnd_cons (pl_bnd _ _ _) (bnd_cons (pl_bnd _ _ _) (bnd_cons (pl_bnd _ _ _) bnd_nil)))))) : ∀ p ∈ [pl (.int .i64 x.Kind), pl (.int .u64 x.X.Who), pl (.int .u64 x.X.No), pl (.int .u64 x.X.Space), pl (.int .u64 x.X.Gen), pl (.int .u64 x.X.Txn)], p.Bnd n m) p hp

def F_sure34 (fl : Nat) : Option (Bool) :=
  bnd (F_tgive fl ⟨[], []⟩ (⟨7, 0, 3, 0, 9⟩ : Itm)) fun x_1 => bnd (F_tgive fl ⟨x_1.2.2.H, x_1.2.2.N⟩ (⟨8, 0, 4, 0, 0⟩ : Itm)) fun x_2 => bnd (F_tget x_2.2.2.H 7 1) fun x_3 => bnd (F_tforget x_2.2.2.H 3) fun x_4 => bnd (F_tget x_4 7 1) fun x_5 => bnd (gif ((((((x_1.2.1.isNone && x_2.2.1.isNone) && x_3.2.isNone) && (decide (x_1.1 = 1))) && (decide (x_2.1 = 1))) && (decide (x_3.1.Txn = 9))) == true) (tNumG x_5.2)) fun x_6 => bnd (gif (((((((x_1.2.1.isNone && x_2.2.1.isNone) && x_3.2.isNone) && (decide (x_1.1 = 1))) && (decide (x_2.1 = 1))) && (decide (x_3.1.Txn = 9))) && (decide (x_6 = 11))) == true) (F_tof fl x_4 8)) fun x_7 => ifb (((((((x_1.2.1.isNone && x_2.2.1.isNone) && x_3.2.isNone) && (decide (x_1.1 = 1))) && (decide (x_2.1 = 1))) && (decide (x_3.1.Txn = 9))) && (decide (x_6 = 11))) && (decide ((x_7.length : Int) = 1))) (bnd (F_tdrop x_4 8 1) fun x_8 => ifb x_8.1.isNone (bnd (F_tdrop x_8.2 8 1) fun x_9 => bnd (tNumG x_9.1) fun x_10 => some (decide (x_10 = 11))) (some false)) (some false)
set_option maxRecDepth 100000 in
set_option maxHeartbeats 2000000 in
theorem c_sure34 {fl : Nat} {R : Bool} {s : St} (h0 : F_sure34 fl = some R) (hst : StGV s) : AC Go.Proofs.Tryd.prog 85 [] s (pl (.bool R)) s := by
  unfold F_sure34 at h0
  refine ac_of_aw s.boxes.length s.fr.length Go.Proofs.Tryd.func85 rfl (by simp [Go.Proofs.Tryd.ntmps85]) ?_
  refine aw_ext0 ?_
  refine aw_keep [] trivial ?_
  refine aw_seq ?_
  refine aw_region (by decide) ?_
  refine rts _ rfl (opD_assign (ev_const _ _)) ?_
  refine .nil ?_
  refine aw_keep [] trivial ?_
  refine aw_seq ?_
  refine aw_region (by decide) ?_
  refine rts _ rfl (opD_ple (q := ptr (s.boxes.length + 2) 0) rfl (callN3 (n := 0) rfl ht79_U12 (fun s => t_new) trivial rfl rfl)) ?_
  refine rts _ rfl (opD_assign lz) ?_
  refine .nil ?_
  refine aw_keep [(1, _)] ⟨lg lz, trivial⟩ ?_
  refine aw_seq ?_
  refine aw_seq ?_
  refine aw_region (by decide) ?_
  refine rts _ rfl (opD_move oz) ?_
  refine rts _ rfl (opD_ptr_eqnil Go.Proofs.Tryd.underlying132 lz) ?_
  refine .nil ?_
  refine aw_keep [(1, _), (12, _)] ⟨lg (ls rfl (ls rfl oz)), lg lz, trivial⟩ ?_
  refine aw_cond _ (os rfl oz) (fun hc => ?_) (fun hc => ?_)
  · skip
    cases hc
  · skip
    refine aw_skip ?_
    refine aw_keep [(1, _)] ⟨lg oz, trivial⟩ ?_
    refine aw_seq ?_
    refine aw_region (by decide) ?_
    refine rts _ rfl (opD_move oz) ?_
    refine rts _ rfl (opD_build_struct (rs := [_, _, _, _, _]) Go.Proofs.Tryd.underlying137 pt137_U12 zt137_U12 (parts_cons (cells1 (ev_const _ _) (one_pl rfl)) (parts_cons (cells1 (ev_const _ _) (one_pl rfl)) (parts_cons (cells1 (ev_const _ _) (one_pl rfl)) parts_nil))) (fill_step rfl (by rfl) (by rfl) (by simp only [na, nb, nl, nc, nd, nh, ni, nj, nk, nm, Nat.reduceAdd] <;> rfl) (fill_step rfl (by rfl) (by rfl) (by simp only [na, nb, nl, nc, nd, nh, ni, nj, nk, nm, Nat.reduceAdd] <;> rfl) (fill_step rfl (by rfl) (by rfl) (by simp only [na, nb, nl, nc, nd, nh, ni, nj, nk, nm, Nat.reduceAdd] <;> rfl) fill_nil)))) ?_
    replace h0 := bnd_some h0
    obtain ⟨x_1, hx_1, h0⟩ := h0
    refine rts _ rfl (callTU (T := TBx) rfl 0 ht74_U12 (fun s g1 g2 gT h12 h1 h2 hT => ct_give hx_1 h12 h1 h2 hT) rfl rfl rfl ⟨le_of_eq (ls rfl lz), (le_of_eq lz).trans (agg_le ⟨(Pd.le_refl _), (Pd.le_refl _), (Pd.le_refl _), (Pd.le_refl _), (Pd.le_refl _), trivial⟩), trivial⟩ (by simp only [na, nb, nc, nd, nf, ng, nh, ni, nj, nk] <;> rfl)) ?_
    refine rts _ rfl (opD_move lz) ?_
    refine rts _ rfl (opD_extract lz rfl) ?_
    refine rts _ rfl (opD_extract (ls rfl lz) rfl) ?_
    refine rts _ rfl (opD_assign (ls rfl lz)) ?_
    refine rts _ rfl (opD_assign (ls rfl lz)) ?_
    refine .nil ?_
    refine aw_keep [(1, _), (2, _), (3, _)] ⟨lg (ls rfl (ls rfl (ls rfl (ls rfl (ls rfl (ls rfl (ls rfl (ls rfl oz)))))))), lg (ls rfl lz), lg lz, trivial⟩ ?_
    refine aw_seq ?_
    refine aw_region (by decide) ?_
    refine rts _ rfl (opD_move oz) ?_
    refine rts _ rfl (opD_build_struct (rs := [_, _, _, _, _]) Go.Proofs.Tryd.underlying137 pt137_U12 zt137_U12 (parts_cons (cells1 (ev_const _ _) (one_pl rfl)) (parts_cons (cells1 (ev_const _ _) (one_pl rfl)) parts_nil)) rfl) ?_
    replace h0 := bnd_some h0
    obtain ⟨x_2, hx_2, h0⟩ := h0
    refine rts _ rfl (callTU (T := TBx) rfl 0 ht74_U12 (fun s g1 g2 gT h12 h1 h2 hT => ct_give hx_2 h12 h1 h2 hT) rfl rfl rfl ⟨le_of_eq (ls rfl lz), (le_of_eq lz).trans (agg_le ⟨(Pd.le_refl _), (Pd.le_refl _), (Pd.le_refl _), (Pd.le_refl _), (Pd.le_refl _), trivial⟩), trivial⟩ (by simp only [na, nb, nc, nd, nf, ng, nh, ni, nj, nk] <;> rfl)) ?_
    refine rts _ rfl (opD_move lz) ?_
    refine rts _ rfl (opD_extract lz rfl) ?_
    refine rts _ rfl (opD_extract (ls rfl lz) rfl) ?_
    refine rts _ rfl (opD_assign (ls rfl lz)) ?_
    refine rts _ rfl (opD_assign (ls rfl lz)) ?_
    refine .nil ?_
    refine aw_keep [(1, _), (2, _), (3, _), (4, _), (5, _)] ⟨lg (ls rfl (ls rfl (ls rfl (ls rfl (ls rfl (ls rfl (ls rfl (ls rfl oz)))))))), lg (ls rfl (ls rfl (ls rfl (ls rfl (ls rfl (ls rfl (ls rfl (ls rfl (os rfl oz))))))))), lg (ls rfl (ls rfl (ls rfl (ls rfl (ls rfl (ls rfl (ls rfl (ls rfl (os rfl (os rfl oz)))))))))), lg (ls rfl lz), lg lz, trivial⟩ ?_
    refine aw_seq ?_
    refine aw_region (by decide) ?_
    refine rts _ rfl (opD_move oz) ?_
    replace h0 := bnd_some h0
    obtain ⟨x_3, hx_3, h0⟩ := h0
    refine rts _ rfl (callT (T := TBx) rfl 0 ht75_U12 (fun s g1 g2 gT h12 h1 h2 hT => ct_get (p0 := ⟨x_2.2.2.H, x_2.2.2.N⟩) hx_3 h1 h2 hT) rfl rfl rfl ⟨le_of_eq lz, le_of_eq (ev_const _ _), le_of_eq (ev_const _ _), trivial⟩) ?_
    refine rts _ rfl (opD_move lz) ?_
    refine rts _ rfl (opD_extract lz rfl) ?_
    refine rts _ rfl (opD_extract (ls rfl lz) rfl) ?_
    refine rts _ rfl (allocN rfl zt137_U12 (by first | exact List.length_nil | (simp only [List.length_cons, List.length_nil, Nat.zero_add, Nat.reduceAdd] <;> rfl)) (by simp only [na, nb, nc, nd, nf, ng, nh, ni, nj, nk] <;> rfl)) ?_
    refine rts _ rfl (storeAN rfl sz137_U12 lz (ls rfl (ls rfl lz)) (ones_cons (one_pl rfl) (ones_cons (one_pl rfl) (ones_cons (one_pl rfl) (ones_cons (one_pl rfl) (ones_cons (one_pl rfl) ones_nil))))) rfl rfl (Nat.le_of_ble_eq_true rfl) (List.cons_ne_nil _ _) (bnd_cons (pl_bnd _ _ _) (bnd_cons (pl_bnd _ _ _) (bnd_cons (pl_bnd _ _ _) (bnd_cons (pl_bnd _ _ _) (bnd_cons (pl_bnd _ _ _) bnd_nil))))) (by simp only [na, nb, nc, nd, nf, ng, nh, ni, nj, nk] <;> rfl) (by simp only [na, nb, nc, nd, nf, ng, nh, ni, nj, nk] <;> rfl)) ?_
    refine rts _ rfl (opD_assign (lx (ls rfl lz))) ?_
    refine .nil ?_
    refine aw_keep [(1, _), (2, _), (3, _), (4, _), (5, _), (6, _), (7, _)] ⟨lg (ls rfl (lx (ls rfl (ls rfl (ls rfl (ls rfl (ls rfl (ls rfl oz)))))))), lg (ls rfl (lx (ls rfl (ls rfl (ls rfl (ls rfl (ls rfl (ls rfl (os rfl oz))))))))), lg (ls rfl (lx (ls rfl (ls rfl (ls rfl (ls rfl (ls rfl (ls rfl (os rfl (os rfl oz)))))))))), lg (ls rfl (lx (ls rfl (ls rfl (ls rfl (ls rfl (ls rfl (ls rfl (os rfl (os rfl (os rfl oz))))))))))), lg (ls rfl (lx (ls rfl (ls rfl (ls rfl (ls rfl (ls rfl (ls rfl (os rfl (os rfl (os rfl (os rfl oz)))))))))))), lg (ls rfl (lx lz)), lg lz, trivial⟩ ?_
    refine aw_seq ?_
    refine aw_region (by decide) ?_
    refine rts _ rfl (opD_move oz) ?_
    replace h0 := bnd_some h0
    obtain ⟨x_4, hx_4, h0⟩ := h0
    refine rts _ rfl (callTU (T := TBx) rfl 0 ht73_U12 (fun s g1 g2 gT h12 h1 h2 hT => ct_forget (p0 := ⟨x_2.2.2.H, x_2.2.2.N⟩) hx_4 h12 h1 h2 hT) rfl rfl rfl ⟨le_of_eq lz, le_of_eq (ev_const _ _), trivial⟩ (by simp only [na, nb, nc, nd, nf, ng, nh, ni, nj, nk] <;> rfl)) ?_
    refine .nil ?_
    refine aw_keep [(1, _), (2, _), (3, _), (4, _), (5, _), (6, _), (7, _)] ⟨lg (ls rfl (ls rfl oz)), lg (ls rfl (ls rfl (os rfl oz))), lg (ls rfl (ls rfl (os rfl (os rfl oz)))), lg (ls rfl (ls rfl (os rfl (os rfl (os rfl oz))))), lg (ls rfl (ls rfl (os rfl (os rfl (os rfl (os rfl oz)))))), lg (ls rfl (ls rfl (os rfl (os rfl (os rfl (os rfl (os rfl oz))))))), lg (ls rfl (ls rfl (os rfl (os rfl (os rfl (os rfl (os rfl (os rfl oz)))))))), trivial⟩ ?_
    refine aw_seq ?_
    refine aw_region (by decide) ?_
    refine rts _ rfl (opD_move oz) ?_
    replace h0 := bnd_some h0
    obtain ⟨x_5, hx_5, h0⟩ := h0
    refine rts _ rfl (callT (T := TBx) rfl 0 ht75_U12 (fun s g1 g2 gT h12 h1 h2 hT => ct_get (p0 := ⟨x_4, x_2.2.2.N⟩) hx_5 h1 h2 hT) rfl rfl rfl ⟨le_of_eq lz, le_of_eq (ev_const _ _), le_of_eq (ev_const _ _), trivial⟩) ?_
    refine rts _ rfl (opD_move lz) ?_
    refine rts _ rfl (opD_extract lz rfl) ?_
    refine rts _ rfl (opD_extract (ls rfl lz) rfl) ?_
    refine rts _ rfl (allocN rfl zt137_U12 (by first | exact List.length_nil | (simp only [List.length_cons, List.length_nil, Nat.zero_add, Nat.reduceAdd] <;> rfl)) (by simp only [na, nb, nc, nd, nf, ng, nh, ni, nj, nk] <;> rfl)) ?_
    refine rts _ rfl (storeAN rfl sz137_U12 lz (ls rfl (ls rfl lz)) (ones_cons (one_pl rfl) (ones_cons (one_pl rfl) (ones_cons (one_pl rfl) (ones_cons (one_pl rfl) (ones_cons (one_pl rfl) ones_nil))))) rfl rfl (Nat.le_of_ble_eq_true rfl) (List.cons_ne_nil _ _) (bnd_cons (pl_bnd _ _ _) (bnd_cons (pl_bnd _ _ _) (bnd_cons (pl_bnd _ _ _) (bnd_cons (pl_bnd _ _ _) (bnd_cons (pl_bnd _ _ _) bnd_nil))))) (by simp only [na, nb, nc, nd, nf, ng, nh, ni, nj, nk] <;> rfl) (by simp only [na, nb, nc, nd, nf, ng, nh, ni, nj, nk] <;> rfl)) ?_
    refine rts _ rfl (opD_assign (lx (ls rfl lz))) ?_
    refine .nil ?_
    refine aw_keep [(1, _), (2, _), (3, _), (4, _), (5, _), (6, _), (7, _), (9, _)] ⟨lg (ls rfl (lx (ls rfl (ls rfl (ls rfl (ls rfl (ls rfl (ls rfl oz)))))))), lg (ls rfl (lx (ls rfl (ls rfl (ls rfl (ls rfl (ls rfl (ls rfl (os rfl oz))))))))), lg (ls rfl (lx (ls rfl (ls rfl (ls rfl (ls rfl (ls rfl (ls rfl (os rfl (os rfl oz)))))))))), lg (ls rfl (lx (ls rfl (ls rfl (ls rfl (ls rfl (ls rfl (ls rfl (os rfl (os rfl (os rfl oz))))))))))), lg (ls rfl (lx (ls rfl (ls rfl (ls rfl (ls rfl (ls rfl (ls rfl (os rfl (os rfl (os rfl (os rfl oz)))))))))))), lg (ls rfl (lx (ls rfl (ls rfl (ls rfl (ls rfl (ls rfl (ls rfl (os rfl (os rfl (os rfl (os rfl (os rfl oz))))))))))))), lg (ls rfl (lx (ls rfl (ls rfl (ls rfl (ls rfl (ls rfl (ls rfl (os rfl (os rfl (os rfl (os rfl (os rfl (os rfl oz)))))))))))))), lg lz, trivial⟩ ?_
    refine aw_seq ?_
    refine aw_region (by decide) ?_
    refine rts _ rfl (opD_move (os rfl (os rfl oz))) ?_
    refine rts _ rfl (opD_bin lz (ev_const _ _) (fun w => errV_geql _ w _) (fun w => errV_eql _ w)) ?_
    refine rts _ rfl (opD_move lz) ?_
    refine rtg _ rfl lz (fun hg9_3_1 => opD_move (ls rfl (ls rfl (ls rfl (os rfl (os rfl (os rfl (os rfl oz)))))))) ?_
    refine rtg _ rfl (ls rfl lz) (fun hg9_4_2 => opD_bin (lz.trans (pif_pos hg9_4_2)) (ev_const _ _) (fun w => errV_geql _ w _) (fun w => errV_eql _ w)) ?_
    refine rts _ rfl (opD_and (ls rfl (ls rfl lz)) lz) ?_
    refine rts _ rfl (opD_move lz) ?_
    refine rtg _ rfl lz (fun hg9_7_3 => opD_move (ls rfl (ls rfl (ls rfl (ls rfl (ls rfl (ls rfl (ls rfl (os rfl (os rfl (os rfl (os rfl (os rfl (os rfl oz)))))))))))))) ?_
    refine rtg _ rfl (ls rfl lz) (fun hg9_8_4 => opD_bin (lz.trans (pif_pos hg9_8_4)) (ev_const _ _) (fun w => errV_geql _ w _) (fun w => errV_eql _ w)) ?_
    refine rts _ rfl (opD_and (ls rfl (ls rfl lz)) lz) ?_
    refine rts _ rfl (opD_move lz) ?_
    refine rtg _ rfl lz (fun hg9_11_5 => opD_move (ls rfl (ls rfl (ls rfl (ls rfl (ls rfl (ls rfl (ls rfl (ls rfl (ls rfl (ls rfl (ls rfl (os rfl oz))))))))))))) ?_
    refine rtg _ rfl (ls rfl lz) (fun hg9_12_6 => opD_eql (lz.trans (pif_pos hg9_12_6)) (ev_const _ _)) ?_
    refine rts _ rfl (opD_and (ls rfl (ls rfl lz)) lz) ?_
    refine rts _ rfl (opD_move lz) ?_
    refine rtg _ rfl lz (fun hg9_15_7 => opD_move (ls rfl (ls rfl (ls rfl (ls rfl (ls rfl (ls rfl (ls rfl (ls rfl (ls rfl (ls rfl (ls rfl (ls rfl (ls rfl (ls rfl (ls rfl (os rfl (os rfl (os rfl oz))))))))))))))))))) ?_
    refine rtg _ rfl (ls rfl lz) (fun hg9_16_8 => opD_eql (lz.trans (pif_pos hg9_16_8)) (ev_const _ _)) ?_
    refine rts _ rfl (opD_and (ls rfl (ls rfl lz)) lz) ?_
    refine rts _ rfl (opD_move lz) ?_
    refine rtg _ rfl lz (fun hg9_19_9 => opD_fieldAddr fo137_4_U12 (ls rfl (ls rfl (ls rfl (ls rfl (ls rfl (ls rfl (ls rfl (ls rfl (ls rfl (ls rfl (ls rfl (ls rfl (ls rfl (ls rfl (ls rfl (ls rfl (ls rfl (ls rfl (ls rfl (os rfl (os rfl (os rfl (os rfl (os rfl oz))))))))))))))))))))))))) ?_
    refine rtg _ rfl (ls rfl lz) (fun hg9_20_10 => opD_load_one ag22_U12 (lz.trans (pif_pos hg9_20_10)) (loc_getN rfl rfl) rfl) ?_
    refine rtg _ rfl (ls rfl (ls rfl lz)) (fun hg9_21_11 => opD_eql (lz.trans (pif_pos hg9_21_11)) (ev_const _ _)) ?_
    refine rts _ rfl (opD_and (ls rfl (ls rfl (ls rfl lz))) lz) ?_
    refine rts _ rfl (opD_move lz) ?_
    refine rtg _ rfl lz (fun hg9_24_12 => opD_move (ls rfl (ls rfl (ls rfl (ls rfl (ls rfl (ls rfl (ls rfl (ls rfl (ls rfl (ls rfl (ls rfl (ls rfl (ls rfl (ls rfl (ls rfl (ls rfl (ls rfl (ls rfl (ls rfl (ls rfl (ls rfl (ls rfl (ls rfl (ls rfl (os rfl (os rfl (os rfl (os rfl (os rfl (os rfl (os rfl oz)))))))))))))))))))))))))))))))) ?_
    replace h0 := bnd_some h0
    obtain ⟨x_6, hx_6, h0⟩ := h0
    refine rtg _ rfl (ls rfl lz) (fun hg9_25_13 => opD_call ht76_U12 (c_num34 (gif_some hx_6 hg9_25_13) hst) ⟨le_of_eq (lz.trans (pif_pos hg9_25_13)), trivial⟩) ?_
    refine rtg _ rfl (ls rfl (ls rfl lz)) (fun hg9_26_14 => opD_eql (lz.trans (pif_pos hg9_26_14)) (ev_const _ _)) ?_
    refine rts _ rfl (opD_and (ls rfl (ls rfl (ls rfl lz))) lz) ?_
    refine rts _ rfl (opD_move lz) ?_
    refine rtg _ rfl lz (fun hg9_29_15 => opD_move (ls rfl (ls rfl (ls rfl (ls rfl (ls rfl (ls rfl (ls rfl (ls rfl (ls rfl (ls rfl (ls rfl (ls rfl (ls rfl (ls rfl (ls rfl (ls rfl (ls rfl (ls rfl (ls rfl (ls rfl (ls rfl (ls rfl (ls rfl (ls rfl (ls rfl (ls rfl (ls rfl (ls rfl (ls rfl oz)))))))))))))))))))))))))))))) ?_
    replace h0 := bnd_some h0
    obtain ⟨x_7, hx_7, h0⟩ := h0
    refine rtg _ rfl (ls rfl lz) (fun hg9_30_16 => callT (T := TBx) rfl 0 ht78_U12 (fun s g1 g2 gT h12 h1 h2 hT => ct_of (gif_some hx_7 hg9_30_16) h1 hT) rfl rfl rfl ⟨le_of_eq (lz.trans (pif_pos hg9_30_16)), le_of_eq (ev_const _ _), trivial⟩) ?_
    refine rtg _ rfl (ls rfl (ls rfl lz)) (fun hg9_31_17 => opD_len_sl Go.Proofs.Tryd.underlying141 (lz.trans (pif_pos hg9_31_17))) ?_
    refine rtg _ rfl (ls rfl (ls rfl (ls rfl lz))) (fun hg9_32_18 => opD_eql (lz.trans (pif_pos hg9_32_18)) (ev_const _ _)) ?_
    refine rts _ rfl (opD_and (ls rfl (ls rfl (ls rfl (ls rfl lz)))) lz) ?_
    refine rts _ rfl (opD_move lz) ?_
    refine rt_cases 71 (eg lz) (fun hc => ?_) (fun hc => ?_)
    · skip
      replace h0 := ifb_t h0 hc
      clear hc
      refine rts _ ⟨_, rfl, .inl ⟨_, eg lz, rfl⟩⟩ (opD_move (ls rfl (ls rfl (ls rfl (ls rfl (ls rfl (ls rfl (ls rfl (ls rfl (ls rfl (ls rfl (ls rfl (ls rfl (ls rfl (ls rfl (ls rfl (ls rfl (ls rfl (ls rfl (ls rfl (ls rfl (ls rfl (ls rfl (ls rfl (ls rfl (ls rfl (ls rfl (ls rfl (ls rfl (ls rfl (ls rfl (ls rfl (ls rfl (ls rfl (ls rfl (ls rfl (ls rfl oz))))))))))))))))))))))))))))))))))))) ?_
      replace h0 := bnd_some h0
      obtain ⟨x_8, hx_8, h0⟩ := h0
      refine rts _ ⟨_, rfl, .inl ⟨_, eg (ls rfl lz), rfl⟩⟩ (callTU (T := TBx) rfl 0 ht77_U12 (fun s g1 g2 gT h12 h1 h2 hT => ct_drop (p0 := ⟨x_4, x_2.2.2.N⟩) hx_8 h1 h2 hT) rfl rfl rfl ⟨le_of_eq lz, le_of_eq (ev_const _ _), le_of_eq (ev_const _ _), trivial⟩ (by simp only [na, nb, nc, nd, nf, ng, nh, ni, nj, nk] <;> rfl)) ?_
      refine rts _ ⟨_, rfl, .inl ⟨_, eg (ls rfl (ls rfl lz)), rfl⟩⟩ (opD_bin lz (ev_const _ _) (fun w => errV_geql _ w _) (fun w => errV_eql _ w)) ?_
      refine rts _ rfl (opD_pickT (ls rfl (ls rfl (ls rfl lz))) lz) ?_
      refine rts _ rfl (opD_move lz) ?_
      refine rt_cases 76 (eg lz) (fun hc => ?_) (fun hc => ?_)
      · skip
        replace h0 := ifb_t h0 hc
        clear hc
        refine rts _ ⟨_, rfl, .inl ⟨_, eg lz, rfl⟩⟩ (opD_move (ls rfl (ls rfl (ls rfl (ls rfl (ls rfl (ls rfl (ls rfl (ls rfl (ls rfl (ls rfl (ls rfl (ls rfl (ls rfl (ls rfl (ls rfl (ls rfl (ls rfl (ls rfl (ls rfl (ls rfl (ls rfl (ls rfl (ls rfl (ls rfl (ls rfl (ls rfl (ls rfl (ls rfl (ls rfl (ls rfl (ls rfl (ls rfl (ls rfl (ls rfl (ls rfl (ls rfl (ls rfl (ls rfl (ls rfl (ls rfl (ls rfl (ls rfl oz))))))))))))))))))))))))))))))))))))))))))) ?_
        replace h0 := bnd_some h0
        obtain ⟨x_9, hx_9, h0⟩ := h0
        refine rts _ ⟨_, rfl, .inl ⟨_, eg (ls rfl lz), rfl⟩⟩ (callTU (T := TBx) rfl 0 ht77_U12 (fun s g1 g2 gT h12 h1 h2 hT => ct_drop (p0 := ⟨x_8.2, x_2.2.2.N⟩) hx_9 h1 h2 hT) rfl rfl rfl ⟨le_of_eq lz, le_of_eq (ev_const _ _), le_of_eq (ev_const _ _), trivial⟩ (by simp only [na, nb, nc, nd, nf, ng, nh, ni, nj, nk] <;> rfl)) ?_
        replace h0 := bnd_some h0
        obtain ⟨x_10, hx_10, h0⟩ := h0
        refine rts _ ⟨_, rfl, .inl ⟨_, eg (ls rfl (ls rfl lz)), rfl⟩⟩ (opD_call ht76_U12 (c_num34 hx_10 hst) ⟨le_of_eq lz, trivial⟩) ?_
        refine rts _ ⟨_, rfl, .inl ⟨_, eg (ls rfl (ls rfl (ls rfl lz))), rfl⟩⟩ (opD_eql lz (ev_const _ _)) ?_
        refine rts _ rfl (opD_pickT (ls rfl (ls rfl (ls rfl (ls rfl lz)))) lz) ?_
        refine rts _ rfl (opD_assign lz) ?_
        refine .nil ?_
        refine aw_keep [(0, _)] ⟨lg lz, trivial⟩ ?_
        refine aw_ret ?_
        obtain rfl := some_of h0
        exact done_ext (.inr rfl) ((res_one rfl (it_tmp oz)).le (Pd.le_refl _)) (pl_bnd _ _ _)
      · skip
        replace h0 := ifb_f h0 hc
        clear hc
        refine rtk ⟨_, rfl, .inl ⟨_, eg lz, rfl⟩⟩ ?_
        refine rtk ⟨_, rfl, .inl ⟨_, eg (ls rfl lz), rfl⟩⟩ ?_
        refine rtk ⟨_, rfl, .inl ⟨_, eg (ls rfl (ls rfl lz)), rfl⟩⟩ ?_
        refine rtk ⟨_, rfl, .inl ⟨_, eg (ls rfl (ls rfl (ls rfl lz))), rfl⟩⟩ ?_
        refine rts _ rfl (opD_pickF (ls rfl (ls rfl (ls rfl (ls rfl lz)))) (ev_const _ _)) ?_
        refine rts _ rfl (opD_assign lz) ?_
        refine .nil ?_
        refine aw_keep [(0, _)] ⟨lg lz, trivial⟩ ?_
        refine aw_ret ?_
        obtain rfl := some_of h0
        exact done_ext (.inr rfl) ((res_one rfl (it_tmp oz)).le (Pd.le_refl _)) (pl_bnd _ _ _)
    · skip
      replace h0 := ifb_f h0 hc
      clear hc
      refine rtk ⟨_, rfl, .inl ⟨_, eg lz, rfl⟩⟩ ?_
      refine rtk ⟨_, rfl, .inl ⟨_, eg (ls rfl lz), rfl⟩⟩ ?_
      refine rtk ⟨_, rfl, .inl ⟨_, eg (ls rfl (ls rfl lz)), rfl⟩⟩ ?_
      refine rts _ rfl (opD_pickF (ls rfl (ls rfl (ls rfl lz))) (ev_const _ _)) ?_
      refine rts _ rfl (opD_move lz) ?_
      refine rtk ⟨_, rfl, .inl ⟨_, eg lz, rfl⟩⟩ ?_
      refine rtk ⟨_, rfl, .inl ⟨_, eg (ls rfl lz), rfl⟩⟩ ?_
      refine rtk ⟨_, rfl, .inl ⟨_, eg (ls rfl (ls rfl lz)), rfl⟩⟩ ?_
      refine rtk ⟨_, rfl, .inl ⟨_, eg (ls rfl (ls rfl (ls rfl lz))), rfl⟩⟩ ?_
      refine rts _ rfl (opD_pickF (ls rfl (ls rfl (ls rfl (ls rfl lz)))) (ev_const _ _)) ?_
      refine rts _ rfl (opD_assign lz) ?_
      refine .nil ?_
      refine aw_keep [(0, _)] ⟨lg lz, trivial⟩ ?_
      refine aw_ret ?_
      obtain rfl := some_of h0
      exact done_ext (.inr rfl) ((res_one rfl (it_tmp oz)).le (Pd.le_refl _)) (pl_bnd _ _ _)

def F_hRuns_b0 (fl : Nat) (p0 : (List HAct)) (t_10 : Int × (List ((Int × Int) × Itm)) × (List (Int × Int)) × Tab) : Option ((Int × (List ((Int × Int) × Itm)) × (List (Int × Int)) × Tab) ⊕ ((Bool) ⊕ ((List ((Int × Int) × Itm)) × (List (Int × Int)) × Tab))) :=
  ifb ((decide (t_10.1 < (p0.length : Int))) && (decide (t_10.1 < 60))) (ixb p0 t_10.1 fun x_12 => ixb p0 t_10.1 fun x_13 => bnd (ifb (decide (x_13.Kind = 2)) (bnd (F_tget t_10.2.1 x_12.X.Who x_12.X.No) fun x_15 => bnd (F_hget2 fl t_10.2.2.2 x_12.X.Who x_12.X.No) fun x_16 => bnd (gif ((!(decide (x_15.1.Who = x_16.1.Who) && (decide (x_15.1.No = x_16.1.No) && (decide (x_15.1.Space = x_16.1.Space) && (decide (x_15.1.Gen = x_16.1.Gen) && (decide (x_15.1.Txn = x_16.1.Txn) && true)))))) == false) (tNumG x_15.2)) fun x_17 => ifb ((!(decide (x_15.1.Who = x_16.1.Who) && (decide (x_15.1.No = x_16.1.No) && (decide (x_15.1.Space = x_16.1.Space) && (decide (x_15.1.Gen = x_16.1.Gen) && (decide (x_15.1.Txn = x_16.1.Txn) && true)))))) || (decide (x_17 ≠ x_16.2))) (some (.inl false)) (some (.inr (t_10.2.1, t_10.2.2.1, t_10.2.2.2)))) (ifb (decide (x_13.Kind = 3)) (bnd (F_hget2 fl t_10.2.2.2 x_12.X.Who x_12.X.No) fun x_18 => bnd (F_tdrop t_10.2.1 x_12.X.Who x_12.X.No) fun x_19 => bnd (tNumG x_19.1) fun x_20 => ifb (decide (x_20 ≠ x_18.2)) (some (.inl false)) (bnd (F_hdrop2 fl t_10.2.2.2 false x_12.X.Who x_12.X.No) fun x_21 => some (.inr (x_19.2, t_10.2.2.1, x_21)))) (ifb (decide (x_13.Kind = 4)) (bnd (F_tforget t_10.2.1 x_12.X.Space) fun x_22 => bnd (F_hdrop2 fl t_10.2.2.2 true x_12.X.Space 0) fun x_23 => some (.inr (x_22, t_10.2.2.1, x_23))) (bnd (F_tgive fl ⟨t_10.2.1, t_10.2.2.1⟩ x_12.X) fun x_24 => bnd (F_hgive2 fl t_10.2.2.2 x_12.X) fun x_25 => bnd (gif ((decide (x_24.1 ≠ x_25.2.1)) == false) (tNumG x_24.2.1)) fun x_26 => ifb ((decide (x_24.1 ≠ x_25.2.1)) || (decide (x_26 ≠ x_25.2.2))) (some (.inl false)) (some (.inr (x_24.2.2.H, x_24.2.2.N, x_25.1))))))) fun z_14 => ocs z_14 (fun qz_14_0 => some (.inr (.inl qz_14_0))) fun z_14_0 => bnd (F_tof fl z_14_0.1 x_12.X.Who) fun x_27 => bnd (F_hof2 fl z_14_0.2.2 x_12.X.Who) fun x_28 => bnd (F_hitems fl x_27 x_28) fun x_29 => ifb (!x_29) (some (.inr (.inl false))) (some (.inl (IntKind.i64.wrap (t_10.1 + 1), z_14_0.1, z_14_0.2.1, z_14_0.2.2)))) (some (.inr (.inr (t_10.2.1, t_10.2.2.1, t_10.2.2.2))))
def F_hRuns (fl : Nat) (p0 : (List HAct)) : Option (Bool) :=
  bnd (F_nForget 1) fun x_1 => bnd (F_nGive (⟨0, 0, 0, 0, 0⟩ : Itm)) fun x_2 => bnd (F_nGet 0 1) fun x_3 => bnd (tNumG x_2.2) fun x_4 => bnd (gif ((decide (x_4 ≠ 1)) == false) (tNumG x_3.2)) fun x_5 => ifb ((decide (x_4 ≠ 1)) || (decide (x_5 ≠ 1))) (some false) (bnd (F_nDrop 0 1) fun x_6 => bnd (tNumG x_6) fun x_7 => bnd (gif ((decide (x_7 ≠ 1)) == false) (F_nOf 0)) fun x_8 => ifb ((decide (x_7 ≠ 1)) || (decide ((x_8.length : Int) ≠ 0))) (some false) (bnd (lp (F_hRuns_b0 fl p0) fl (0, ([] : (List ((Int × Int) × Itm))), ([] : (List (Int × Int))), (⟨[], []⟩ : Tab))) fun z_9 => ocs z_9 (fun qz_9_0 => some qz_9_0) fun z_9_0 => bnd (F_sure34 fl) fun x_30 => some x_30))
set_option maxRecDepth 100000 in
set_option maxHeartbeats 2000000 in
theorem c_hRuns {fl : Nat} {p0 : (List HAct)} {R : Bool} {s : St} (h0 : F_hRuns fl p0 = some R) (hst : StGV s) : AC Go.Proofs.Tryd.prog 15 [sl kHAct none none p0] s (pl (.bool R)) s := by
  unfold F_hRuns at h0
  refine ac_of_aw s.boxes.length s.fr.length Go.Proofs.Tryd.func15 rfl (by simp [Go.Proofs.Tryd.ntmps15]) ?_
  refine aw_ext0 ?_
  refine aw_keep [(0, _)] ⟨lg ez, trivial⟩ ?_
  refine aw_seq ?_
  refine aw_region (by decide) ?_
  refine rts _ rfl (opD_assign (ev_const _ _)) ?_
  refine .nil ?_
  refine aw_keep [(0, _)] ⟨lg (ls rfl oz), trivial⟩ ?_
  refine aw_seq ?_
  refine aw_region (by decide) ?_
  refine rts _ rfl (opD_assign (ev_const _ _)) ?_
  refine .nil ?_
  refine aw_keep [(0, _), (3, _)] ⟨lg (ls rfl oz), lg lz, trivial⟩ ?_
  refine aw_seq ?_
  refine aw_region (by decide) ?_
  refine rts _ rfl (opD_move (os rfl oz)) ?_
  replace h0 := bnd_some h0
  obtain ⟨x_1, hx_1, h0⟩ := h0
  refine rts _ rfl (opD_pure ht73_U12 (c_nForget hx_1) ⟨le_of_eq lz, le_of_eq (ev_const _ _), trivial⟩) ?_
  refine .nil ?_
  refine aw_keep [(0, _), (3, _)] ⟨lg (ls rfl (ls rfl oz)), lg (ls rfl (ls rfl (os rfl oz))), trivial⟩ ?_
  refine aw_seq ?_
  refine aw_region (by decide) ?_
  refine rts _ rfl (opD_move (os rfl oz)) ?_
  refine rts _ rfl (opD_build_struct (rs := [_, _, _, _, _]) Go.Proofs.Tryd.underlying137 pt137_U12 zt137_U12 parts_nil rfl) ?_
  replace h0 := bnd_some h0
  obtain ⟨x_2, hx_2, h0⟩ := h0
  refine rts _ rfl (opD_pure ht74_U12 (c_nGive hx_2) ⟨le_of_eq (ls rfl lz), (le_of_eq lz).trans (agg_le ⟨(Pd.le_refl _), (Pd.le_refl _), (Pd.le_refl _), (Pd.le_refl _), (Pd.le_refl _), trivial⟩), trivial⟩) ?_
  refine rts _ rfl (opD_move lz) ?_
  refine rts _ rfl (opD_extract lz rfl) ?_
  refine rts _ rfl (opD_extract (ls rfl lz) rfl) ?_
  refine rts _ rfl (opD_assign (ls rfl lz)) ?_
  refine rts _ rfl (opD_assign (ls rfl lz)) ?_
  refine .nil ?_
  refine aw_keep [(0, _), (3, _), (5, _)] ⟨lg (ls rfl (ls rfl (ls rfl (ls rfl (ls rfl (ls rfl (ls rfl (ls rfl oz)))))))), lg (ls rfl (ls rfl (ls rfl (ls rfl (ls rfl (ls rfl (ls rfl (ls rfl (os rfl oz))))))))), lg lz, trivial⟩ ?_
  refine aw_seq ?_
  refine aw_region (by decide) ?_
  refine rts _ rfl (opD_move (os rfl oz)) ?_
  replace h0 := bnd_some h0
  obtain ⟨x_3, hx_3, h0⟩ := h0
  refine rts _ rfl (opD_pure ht75_U12 (c_nGet hx_3) ⟨le_of_eq lz, le_of_eq (ev_const _ _), le_of_eq (ev_const _ _), trivial⟩) ?_
  refine rts _ rfl (opD_move lz) ?_
  refine rts _ rfl (opD_extract lz rfl) ?_
  refine rts _ rfl (opD_extract (ls rfl lz) rfl) ?_
  refine rts _ rfl (allocN rfl zt137_U12 (by first | exact List.length_nil | (simp only [List.length_cons, List.length_nil, Nat.zero_add, Nat.reduceAdd] <;> rfl)) (by simp only [na, nb, nc, nd, nf, ng, nh, ni, nj, nk] <;> rfl)) ?_
  refine rts _ rfl (storeAN rfl sz137_U12 lz (ls rfl (ls rfl lz)) (ones_cons (one_pl rfl) (ones_cons (one_pl rfl) (ones_cons (one_pl rfl) (ones_cons (one_pl rfl) (ones_cons (one_pl rfl) ones_nil))))) rfl rfl (Nat.le_of_ble_eq_true rfl) (List.cons_ne_nil _ _) (bnd_cons (pl_bnd _ _ _) (bnd_cons (pl_bnd _ _ _) (bnd_cons (pl_bnd _ _ _) (bnd_cons (pl_bnd _ _ _) (bnd_cons (pl_bnd _ _ _) bnd_nil))))) (by simp only [na, nb, nc, nd, nf, ng, nh, ni, nj, nk] <;> rfl) (by simp only [na, nb, nc, nd, nf, ng, nh, ni, nj, nk] <;> rfl)) ?_
  refine rts _ rfl (opD_assign (lx (ls rfl lz))) ?_
  refine .nil ?_
  refine aw_keep [(0, _), (3, _), (5, _), (7, _)] ⟨lg (ls rfl (lx (ls rfl (ls rfl (ls rfl (ls rfl (ls rfl (ls rfl oz)))))))), lg (ls rfl (lx (ls rfl (ls rfl (ls rfl (ls rfl (ls rfl (ls rfl (os rfl oz))))))))), lg (ls rfl (lx (ls rfl (ls rfl (ls rfl (ls rfl (ls rfl (ls rfl (os rfl (os rfl oz)))))))))), lg lz, trivial⟩ ?_
  refine aw_seq ?_
  refine aw_seq ?_
  refine aw_region (by decide) ?_
  refine rts _ rfl (opD_move (os rfl (os rfl oz))) ?_
  replace h0 := bnd_some h0
  obtain ⟨x_4, hx_4, h0⟩ := h0
  refine rts _ rfl (opD_call ht76_U12 (c_num34 hx_4 hst) ⟨le_of_eq lz, trivial⟩) ?_
  refine rts _ rfl (opD_neq lz (ev_const _ _)) ?_
  refine rts _ rfl (opD_move lz) ?_
  refine rtg _ rfl lz (fun hg5_4_1 => opD_move (ls rfl (ls rfl (ls rfl (ls rfl (os rfl (os rfl (os rfl oz)))))))) ?_
  replace h0 := bnd_some h0
  obtain ⟨x_5, hx_5, h0⟩ := h0
  refine rtg _ rfl (ls rfl lz) (fun hg5_5_2 => opD_call ht76_U12 (c_num34 (gif_some hx_5 hg5_5_2) hst) ⟨le_of_eq (lz.trans (pif_pos hg5_5_2)), trivial⟩) ?_
  refine rtg _ rfl (ls rfl (ls rfl lz)) (fun hg5_6_3 => opD_neq (lz.trans (pif_pos hg5_6_3)) (ev_const _ _)) ?_
  refine rts _ rfl (opD_or (ls rfl (ls rfl (ls rfl lz))) lz) ?_
  refine rts _ rfl (opD_move lz) ?_
  refine rt_cases 44 (eg lz) (fun hc => ?_) (fun hc => ?_)
  · skip
    replace h0 := ifb_t h0 hc
    clear hc
    refine rtk ⟨_, rfl, .inl ⟨_, eg lz, rfl⟩⟩ ?_
    refine rtk ⟨_, rfl, .inl ⟨_, eg (ls rfl lz), rfl⟩⟩ ?_
    refine rtk ⟨_, rfl, .inl ⟨_, eg (ls rfl (ls rfl lz)), rfl⟩⟩ ?_
    refine rtk ⟨_, rfl, .inl ⟨_, eg (ls rfl (ls rfl (ls rfl lz))), rfl⟩⟩ ?_
    refine rts _ rfl (opD_pickT (ls rfl (ls rfl (ls rfl (ls rfl lz)))) (ev_const _ _)) ?_
    refine rts _ rfl (opD_move lz) ?_
    refine rtk ⟨_, rfl, .inl ⟨_, eg lz, rfl⟩⟩ ?_
    refine rtk ⟨_, rfl, .inl ⟨_, eg (ls rfl lz), rfl⟩⟩ ?_
    refine rtk ⟨_, rfl, .inl ⟨_, eg (ls rfl (ls rfl lz)), rfl⟩⟩ ?_
    refine rtk ⟨_, rfl, .inl ⟨_, eg (ls rfl (ls rfl (ls rfl lz))), rfl⟩⟩ ?_
    refine rts _ rfl (opD_pickT (ls rfl (ls rfl (ls rfl (ls rfl lz)))) (ev_const _ _)) ?_
    refine .nil ?_
    refine aw_keep [(0, _), (55, _)] ⟨lg (ls rfl (ls rfl (ls rfl (ls rfl (ls rfl (ls rfl (ls rfl (ls rfl (ls rfl (ls rfl (ls rfl (ls rfl (ls rfl (ls rfl (ls rfl (ls rfl (ls rfl (ls rfl (ls rfl (ls rfl (ls rfl oz))))))))))))))))))))), lg lz, trivial⟩ ?_
    refine aw_cond _ (os rfl oz) (fun hc => ?_) (fun hc => ?_)
    · skip
      refine aw_seq ?_
      refine aw_region (by decide) ?_
      refine rts _ rfl (opD_assign (ev_const _ _)) ?_
      refine .nil ?_
      refine aw_keep [(2, _)] ⟨lg lz, trivial⟩ ?_
      refine aw_ret ?_
      obtain rfl := some_of h0
      exact done_ext (.inr rfl) ((res_one rfl (it_tmp oz)).le (Pd.le_refl _)) (pl_bnd _ _ _)
    · skip
      cases hc
  · skip
    replace h0 := ifb_f h0 hc
    clear hc
    refine rts _ ⟨_, rfl, .inl ⟨_, eg lz, rfl⟩⟩ (opD_move (ls rfl (ls rfl (ls rfl (ls rfl (ls rfl (ls rfl (ls rfl (ls rfl (ls rfl (ls rfl (os rfl oz)))))))))))) ?_
    replace h0 := bnd_some h0
    obtain ⟨x_6, hx_6, h0⟩ := h0
    refine rts _ ⟨_, rfl, .inl ⟨_, eg (ls rfl lz), rfl⟩⟩ (opD_pure ht77_U12 (c_nDrop hx_6) ⟨le_of_eq lz, le_of_eq (ev_const _ _), le_of_eq (ev_const _ _), trivial⟩) ?_
    replace h0 := bnd_some h0
    obtain ⟨x_7, hx_7, h0⟩ := h0
    refine rts _ ⟨_, rfl, .inl ⟨_, eg (ls rfl (ls rfl lz)), rfl⟩⟩ (opD_call ht76_U12 (c_num34 hx_7 hst) ⟨le_of_eq lz, trivial⟩) ?_
    refine rts _ ⟨_, rfl, .inl ⟨_, eg (ls rfl (ls rfl (ls rfl lz))), rfl⟩⟩ (opD_neq lz (ev_const _ _)) ?_
    refine rts _ rfl (opD_pickF (ls rfl (ls rfl (ls rfl (ls rfl lz)))) lz) ?_
    refine rts _ rfl (opD_move lz) ?_
    refine rtg _ rfl lz (fun hg5_15_4 => opD_move (ls rfl (ls rfl (ls rfl (ls rfl (ls rfl (ls rfl (ls rfl (ls rfl (ls rfl (ls rfl (ls rfl (ls rfl (ls rfl (ls rfl (ls rfl (ls rfl (os rfl oz)))))))))))))))))) ?_
    replace h0 := bnd_some h0
    obtain ⟨x_8, hx_8, h0⟩ := h0
    refine rtg _ rfl (ls rfl lz) (fun hg5_16_5 => opD_pure ht78_U12 (c_nOf (gif_some hx_8 hg5_16_5)) ⟨le_of_eq (lz.trans (pif_pos hg5_16_5)), le_of_eq (ev_const _ _), trivial⟩) ?_
    refine rtg _ rfl (ls rfl (ls rfl lz)) (fun hg5_17_6 => opD_len_sl Go.Proofs.Tryd.underlying141 (lz.trans (pif_pos hg5_17_6))) ?_
    refine rtg _ rfl (ls rfl (ls rfl (ls rfl lz))) (fun hg5_18_7 => opD_neq (lz.trans (pif_pos hg5_18_7)) (ev_const _ _)) ?_
    refine rts _ rfl (opD_or (ls rfl (ls rfl (ls rfl (ls rfl lz)))) lz) ?_
    refine .nil ?_
    refine aw_keep [(0, _), (55, _)] ⟨lg (ls rfl (ls rfl (ls rfl (ls rfl (ls rfl (ls rfl (ls rfl (ls rfl (ls rfl (ls rfl (ls rfl (ls rfl (ls rfl (ls rfl (ls rfl (ls rfl (ls rfl (ls rfl (ls rfl (ls rfl (ls rfl oz))))))))))))))))))))), lg lz, trivial⟩ ?_
    refine aw_cond _ (os rfl oz) (fun hc => ?_) (fun hc => ?_)
    · skip
      replace h0 := ifb_t h0 hc
      clear hc
      refine aw_seq ?_
      refine aw_region (by decide) ?_
      refine rts _ rfl (opD_assign (ev_const _ _)) ?_
      refine .nil ?_
      refine aw_keep [(2, _)] ⟨lg lz, trivial⟩ ?_
      refine aw_ret ?_
      obtain rfl := some_of h0
      exact done_ext (.inr rfl) ((res_one rfl (it_tmp oz)).le (Pd.le_refl _)) (pl_bnd _ _ _)
    · skip
      replace h0 := ifb_f h0 hc
      clear hc
      refine aw_skip ?_
      refine aw_keep [(0, _)] ⟨lg oz, trivial⟩ ?_
      refine aw_seq ?_
      refine aw_region (by decide) ?_
      refine rts _ rfl (opD_ple (q := ptr (s.boxes.length + 3) 0) rfl (callN3 (n := 1) rfl ht79_U12 (fun s => t_new) trivial rfl rfl)) ?_
      refine rts _ rfl (opD_assign lz) ?_
      refine .nil ?_
      refine aw_keep [(0, _), (8, _)] ⟨lg (ls rfl (ls rfl oz)), lg lz, trivial⟩ ?_
      refine aw_seq ?_
      refine aw_region (by decide) ?_
      refine rts _ rfl (allocN rfl zt147_U12 (by first | exact List.length_nil | (simp only [List.length_cons, List.length_nil, Nat.zero_add, Nat.reduceAdd] <;> rfl)) (by simp only [na, nb, nc, nd, nf, ng, nh, ni, nj, nk] <;> rfl)) ?_
      refine .nil ?_
      refine aw_keep [(0, _), (8, _), (9, _)] ⟨lg (ls rfl oz), lg (ls rfl (os rfl oz)), lg lz, trivial⟩ ?_
      refine aw_seq ?_
      refine aw_seq ?_
      refine aw_region (by decide) ?_
      refine rts _ rfl (opD_move (os rfl oz)) ?_
      refine rts _ rfl (opD_ptr_eqnil Go.Proofs.Tryd.underlying132 lz) ?_
      refine .nil ?_
      refine aw_keep [(0, _), (8, _), (9, _), (58, _)] ⟨lg (ls rfl (ls rfl oz)), lg (ls rfl (ls rfl (os rfl oz))), lg (ls rfl (ls rfl (os rfl (os rfl oz)))), lg lz, trivial⟩ ?_
      refine aw_cond _ (os rfl (os rfl (os rfl oz))) (fun hc => ?_) (fun hc => ?_)
      · skip
        cases hc
      · skip
        refine aw_skip ?_
        refine aw_keep [(0, _), (8, _), (9, _)] ⟨lg oz, lg (os rfl oz), lg (os rfl (os rfl oz)), trivial⟩ ?_
        refine aw_seq ?_
        refine aw_seq ?_
        refine aw_region (by decide) ?_
        refine rts _ rfl (opD_assign (ev_const _ _)) ?_
        refine .nil ?_
        refine aw_keep [(0, _), (8, _), (9, _), (10, _)] ⟨lg (ls rfl oz), lg (ls rfl (os rfl oz)), lg (ls rfl (os rfl (os rfl oz))), lg lz, trivial⟩ ?_
        replace h0 := bnd_some h0
        obtain ⟨z_9, hz_9, h0⟩ := h0
        refine aw_mid (fun e st => ∃ v : (List ((Int × Int) × Itm)) × (List (Int × Int)) × Tab, Holds e [] ∧ st = s.ext [⟨137, [pl (.int .u64 x_3.1.Who), pl (.int .u64 x_3.1.No), pl (.int .u64 x_3.1.Space), pl (.int .u64 x_3.1.Gen), pl (.int .u64 x_3.1.Txn)]⟩, ⟨HOT, [mp K1 v.1]⟩, ⟨HOT, [mp K2 v.2.1]⟩, ⟨201, [mref (s.boxes.length + 1), mref (s.boxes.length + 2)]⟩, ⟨147, [sl kItm none none v.2.2.L, sl kB none none v.2.2.There]⟩] [] ∧ (.inr v) = z_9) ?_ ?_
        · skip
          refine aw_wkN rfl 5 0 rfl rfl ?_
          refine aw_block ?_
          refine aw_wkBN rfl (bs' := [⟨137, [pl (.int .u64 x_3.1.Who), pl (.int .u64 x_3.1.No), pl (.int .u64 x_3.1.Space), pl (.int .u64 x_3.1.Gen), pl (.int .u64 x_3.1.Txn)]⟩, ⟨HOT, [mp K1 []]⟩, ⟨HOT, [mp K2 []]⟩, ⟨201, [mref (s.boxes.length + 1), mref (s.boxes.length + 2)]⟩, ⟨147, [sl kItm none none ((⟨[], []⟩ : Tab).L), sl kB none none ((⟨[], []⟩ : Tab).There)]⟩]) (bxle_same (bxle_same (bxle_same (bxle_same (bxle_cons (B := ⟨147, [_, _]⟩) (@Eq.refl TypeId 147) (lel_cons (nil_own rfl) (lel_cons (nil_own rfl) lel_nil)) bxle_nil))))) (bl_cons (bnd_cons (pl_bnd _ _ _) (bnd_cons (pl_bnd _ _ _) (bnd_cons (pl_bnd _ _ _) (bnd_cons (pl_bnd _ _ _) (bnd_cons (pl_bnd _ _ _) bnd_nil))))) (bl_cons (bnd_cons (mp_bnd _ _ _ _) bnd_nil) (bl_cons (bnd_cons (mp_bnd _ _ _ _) bnd_nil) (bl_cons (bnd_cons (mref_bnd _ (by first | omega | (simp only [List.length_append, List.length_cons, List.length_nil]; omega))) (bnd_cons (mref_bnd _ (by first | omega | (simp only [List.length_append, List.length_cons, List.length_nil]; omega))) bnd_nil)) (bl_cons (bnd_cons (sl_b kb_Itm) (bnd_cons (sl_b kb_B) bnd_nil)) bl_nil))))) ?_
          refine aw_loop (fun n e st => ∃ v : Int × (List ((Int × Int) × Itm)) × (List (Int × Int)) × Tab, Holds e [(0, sl kHAct none none p0), (8, ptr (s.boxes.length + 3) 0), (9, ptr (s.boxes.length + 4) 0), (10, pl (.int .i64 v.1))] ∧ st = s.ext [⟨137, [pl (.int .u64 x_3.1.Who), pl (.int .u64 x_3.1.No), pl (.int .u64 x_3.1.Space), pl (.int .u64 x_3.1.Gen), pl (.int .u64 x_3.1.Txn)]⟩, ⟨HOT, [mp K1 v.2.1]⟩, ⟨HOT, [mp K2 v.2.2.1]⟩, ⟨201, [mref (s.boxes.length + 1), mref (s.boxes.length + 2)]⟩, ⟨147, [sl kItm none none v.2.2.2.L, sl kB none none v.2.2.2.There]⟩] [] ∧ lp (F_hRuns_b0 fl p0) n v = some z_9) fl ⟨(0, ([] : (List ((Int × Int) × Itm))), ([] : (List (Int × Int))), (⟨[], []⟩ : Tab)), ⟨le_of_eq (eg oz), le_of_eq (eg (os rfl oz)), le_of_eq (eg (os rfl (os rfl oz))), le_of_eq (eg (os rfl (os rfl (os rfl oz)))), trivial⟩, rfl, hz_9⟩ ?_
          rintro n e st ⟨t_10, hH, rfl, hz_9⟩
          replace hz_9 := lp_some hz_9
          obtain ⟨m_z_11, z_11, rfl, hz_11, hz_9⟩ := hz_9
          unfold F_hRuns_b0 at hz_11
          refine aw_keep _ hH ?_
          refine aw_wkN rfl 5 0 rfl rfl ?_
          refine aw_seq ?_
          refine aw_seq ?_
          refine aw_region (by decide) ?_
          refine rts _ rfl (opD_move (os rfl (os rfl (os rfl oz)))) ?_
          refine rts _ rfl (opD_move (ls rfl oz)) ?_
          refine rts _ rfl (opD_len_sl Go.Proofs.Tryd.underlying131 lz) ?_
          refine rts _ rfl (opD_lss (ls rfl (ls rfl lz)) lz) ?_
          refine rts _ rfl (opD_move lz) ?_
          refine rtg _ rfl lz (fun hg12_5_98 => opD_move (ls rfl (ls rfl (ls rfl (ls rfl (ls rfl (os rfl (os rfl (os rfl oz))))))))) ?_
          refine rtg _ rfl (ls rfl lz) (fun hg12_6_99 => opD_lss (lz.trans (pif_pos hg12_6_99)) (ev_const _ _)) ?_
          refine rts _ rfl (opD_and (ls rfl (ls rfl lz)) lz) ?_
          refine .nil ?_
          refine aw_keep [(0, _), (8, _), (9, _), (10, _), (66, _)] ⟨lg (ls rfl (ls rfl (ls rfl (ls rfl (ls rfl (ls rfl (ls rfl (ls rfl oz)))))))), lg (ls rfl (ls rfl (ls rfl (ls rfl (ls rfl (ls rfl (ls rfl (ls rfl (os rfl oz))))))))), lg (ls rfl (ls rfl (ls rfl (ls rfl (ls rfl (ls rfl (ls rfl (ls rfl (os rfl (os rfl oz)))))))))), lg (ls rfl (ls rfl (ls rfl (ls rfl (ls rfl (ls rfl (ls rfl (ls rfl (os rfl (os rfl (os rfl oz))))))))))), lg lz, trivial⟩ ?_
          refine aw_cond _ (os rfl (os rfl (os rfl (os rfl oz)))) (fun hc => ?_) (fun hc => ?_)
          · skip
            replace hz_11 := ifb_t hz_11 hc
            clear hc
            refine aw_skip ?_
            refine aw_keep [(0, _), (8, _), (9, _), (10, _)] ⟨lg oz, lg (os rfl oz), lg (os rfl (os rfl oz)), lg (os rfl (os rfl (os rfl oz))), trivial⟩ ?_
            refine aw_seq ?_
            refine aw_block ?_
            refine aw_seq ?_
            refine aw_region (by decide) ?_
            refine rts _ rfl (opD_move oz) ?_
            refine rts _ rfl (opD_move (ls rfl (os rfl (os rfl (os rfl oz))))) ?_
            replace hz_11 := ixb_some hz_11
            obtain ⟨x_12, hx_12, hbx_12, hz_11⟩ := hz_11
            refine rts _ rfl (opD_indexAddr_sl (i := t_10.1.toNat) Go.Proofs.Tryd.underlying131 sz150_U12 (ls rfl lz) lz hbx_12.2.2 hbx_12.2.1) ?_
            refine rts _ rfl (opD_fieldAddr_el fo150_1_U12 lz) ?_
            refine rts _ rfl (opD_load_el_aggX (qs := [_, _, _, _, _]) ag148_U12 sz148_U12 lz hx_12 (Nat.le_of_ble_eq_true rfl) rfl) ?_
            refine rts _ rfl (allocN rfl zt148_U12 (by first | exact List.length_nil | (simp only [List.length_cons, List.length_nil, Nat.zero_add, Nat.reduceAdd] <;> rfl)) (by simp only [na, nb, nc, nd, nf, ng, nh, ni, nj, nk] <;> rfl)) ?_
            refine rts _ rfl (storeAN rfl sz148_U12 lz (ls rfl lz) (ones_cons (one_pl rfl) (ones_cons (one_pl rfl) (ones_cons (one_pl rfl) (ones_cons (one_pl rfl) (ones_cons (one_pl rfl) ones_nil))))) rfl rfl (Nat.le_of_ble_eq_true rfl) (List.cons_ne_nil _ _) (bnd_cons (pl_bnd _ _ _) (bnd_cons (pl_bnd _ _ _) (bnd_cons (pl_bnd _ _ _) (bnd_cons (pl_bnd _ _ _) (bnd_cons (pl_bnd _ _ _) bnd_nil))))) (by simp only [na, nb, nc, nd, nf, ng, nh, ni, nj, nk] <;> rfl) (by simp only [na, nb, nc, nd, nf, ng, nh, ni, nj, nk] <;> rfl)) ?_
            refine .nil ?_
            refine aw_keep [(0, _), (8, _), (9, _), (10, _), (11, _)] ⟨lg (lx (ls rfl (ls rfl (ls rfl (ls rfl (ls rfl (ls rfl oz))))))), lg (lx (ls rfl (ls rfl (ls rfl (ls rfl (ls rfl (ls rfl (os rfl oz)))))))), lg (lx (ls rfl (ls rfl (ls rfl (ls rfl (ls rfl (ls rfl (os rfl (os rfl oz))))))))), lg (lx (ls rfl (ls rfl (ls rfl (ls rfl (ls rfl (ls rfl (os rfl (os rfl (os rfl oz)))))))))), lg (lx lz), trivial⟩ ?_
            refine aw_seq ?_
            refine aw_seq ?_
            refine aw_region (by decide) ?_
            refine rts _ rfl (opD_move oz) ?_
            refine rts _ rfl (opD_move (ls rfl (os rfl (os rfl (os rfl oz))))) ?_
            replace hz_11 := ixb_some hz_11
            obtain ⟨x_13, hx_13, hbx_13, hz_11⟩ := hz_11
            refine rts _ rfl (opD_indexAddr_sl (i := t_10.1.toNat) Go.Proofs.Tryd.underlying131 sz150_U12 (ls rfl lz) lz hbx_13.2.2 hbx_13.2.1) ?_
            refine rts _ rfl (opD_fieldAddr_el fo150_0_U12 lz) ?_
            refine rts _ rfl (opD_load_el_one ag3_U12 lz hx_13 rfl) ?_
            refine .nil ?_
            refine aw_keep [(0, _), (8, _), (9, _), (10, _), (11, _), (78, _)] ⟨lg (ls rfl (ls rfl (ls rfl (ls rfl (ls rfl oz))))), lg (ls rfl (ls rfl (ls rfl (ls rfl (ls rfl (os rfl oz)))))), lg (ls rfl (ls rfl (ls rfl (ls rfl (ls rfl (os rfl (os rfl oz))))))), lg (ls rfl (ls rfl (ls rfl (ls rfl (ls rfl (os rfl (os rfl (os rfl oz)))))))), lg (ls rfl (ls rfl (ls rfl (ls rfl (ls rfl (os rfl (os rfl (os rfl (os rfl oz))))))))), lg lz, trivial⟩ ?_
            replace hz_11 := bnd_some hz_11
            obtain ⟨z_14, hz_14, hz_11⟩ := hz_11
            refine aw_mid (fun e st => ∃ v : (List ((Int × Int) × Itm)) × (List (Int × Int)) × Tab, Holds e [(0, sl kHAct none none p0), (8, ptr (s.boxes.length + 3) 0), (9, ptr (s.boxes.length + 4) 0), (10, pl (.int .i64 t_10.1)), (11, ptr (s.boxes.length + 5) 0)] ∧ st = s.ext [⟨137, [pl (.int .u64 x_3.1.Who), pl (.int .u64 x_3.1.No), pl (.int .u64 x_3.1.Space), pl (.int .u64 x_3.1.Gen), pl (.int .u64 x_3.1.Txn)]⟩, ⟨HOT, [mp K1 v.1]⟩, ⟨HOT, [mp K2 v.2.1]⟩, ⟨201, [mref (s.boxes.length + 1), mref (s.boxes.length + 2)]⟩, ⟨147, [sl kItm none none v.2.2.L, sl kB none none v.2.2.There]⟩, ⟨148, [pl (.int .u64 x_12.X.Who), pl (.int .u64 x_12.X.No), pl (.int .u64 x_12.X.Space), pl (.int .u64 x_12.X.Gen), pl (.int .u64 x_12.X.Txn)]⟩] [] ∧ (.inr v) = z_14) ?_ ?_
            · skip
              refine aw_wkN rfl 6 0 rfl rfl ?_
              refine aw_block ?_
              refine aw_seq ?_
              refine aw_region (by decide) ?_
              refine rts _ rfl (opD_eql (os rfl (os rfl (os rfl (os rfl (os rfl oz))))) (ev_const _ _)) ?_
              refine rts _ rfl (opD_assign lz) ?_
              refine .nil ?_
              refine aw_keep [(0, _), (8, _), (9, _), (10, _), (11, _), (78, _), (102, _)] ⟨lg (ls rfl (ls rfl oz)), lg (ls rfl (ls rfl (os rfl oz))), lg (ls rfl (ls rfl (os rfl (os rfl oz)))), lg (ls rfl (ls rfl (os rfl (os rfl (os rfl oz))))), lg (ls rfl (ls rfl (os rfl (os rfl (os rfl (os rfl oz)))))), lg (ls rfl (ls rfl (os rfl (os rfl (os rfl (os rfl (os rfl oz))))))), lg lz, trivial⟩ ?_
              refine aw_cond _ (os rfl (os rfl (os rfl (os rfl (os rfl (os rfl oz)))))) (fun hc => ?_) (fun hc => ?_)
              · skip
                replace hz_14 := ifb_t hz_14 hc
                clear hc
                refine aw_seq ?_
                refine aw_region (by decide) ?_
                refine rts _ rfl (opD_move (os rfl oz)) ?_
                refine rts _ rfl (opD_fieldAddr fo148_0_U12 (ls rfl (os rfl (os rfl (os rfl (os rfl oz)))))) ?_
                refine rts _ rfl (opD_load_one ag22_U12 lz (loc_getN rfl rfl) rfl) ?_
                refine rts _ rfl (opD_fieldAddr fo148_1_U12 (ls rfl (ls rfl (ls rfl (os rfl (os rfl (os rfl (os rfl oz)))))))) ?_
                refine rts _ rfl (opD_load_one ag22_U12 lz (loc_getN rfl rfl) rfl) ?_
                replace hz_14 := bnd_some hz_14
                obtain ⟨x_15, hx_15, hz_14⟩ := hz_14
                refine rts _ rfl (callT (T := TBx) rfl 1 ht75_U12 (fun s g1 g2 gT h12 h1 h2 hT => ct_get (p0 := ⟨t_10.2.1, t_10.2.2.1⟩) hx_15 h1 h2 hT) rfl rfl rfl ⟨le_of_eq (ls rfl (ls rfl (ls rfl (ls rfl lz)))), le_of_eq (ls rfl (ls rfl lz)), le_of_eq lz, trivial⟩) ?_
                refine rts _ rfl (opD_move lz) ?_
                refine rts _ rfl (opD_extract lz rfl) ?_
                refine rts _ rfl (opD_extract (ls rfl lz) rfl) ?_
                refine rts _ rfl (allocN rfl zt137_U12 (by first | exact List.length_nil | (simp only [List.length_cons, List.length_nil, Nat.zero_add, Nat.reduceAdd] <;> rfl)) (by simp only [na, nb, nc, nd, nf, ng, nh, ni, nj, nk] <;> rfl)) ?_
                refine rts _ rfl (storeAN rfl sz137_U12 lz (ls rfl (ls rfl lz)) (ones_cons (one_pl rfl) (ones_cons (one_pl rfl) (ones_cons (one_pl rfl) (ones_cons (one_pl rfl) (ones_cons (one_pl rfl) ones_nil))))) rfl rfl (Nat.le_of_ble_eq_true rfl) (List.cons_ne_nil _ _) (bnd_cons (pl_bnd _ _ _) (bnd_cons (pl_bnd _ _ _) (bnd_cons (pl_bnd _ _ _) (bnd_cons (pl_bnd _ _ _) (bnd_cons (pl_bnd _ _ _) bnd_nil))))) (by simp only [na, nb, nc, nd, nf, ng, nh, ni, nj, nk] <;> rfl) (by simp only [na, nb, nc, nd, nf, ng, nh, ni, nj, nk] <;> rfl)) ?_
                refine rts _ rfl (opD_assign (lx (ls rfl lz))) ?_
                refine .nil ?_
                refine aw_keep [(0, _), (8, _), (9, _), (10, _), (11, _), (12, _), (13, _)] ⟨lg (ls rfl (lx (ls rfl (ls rfl (ls rfl (ls rfl (ls rfl (ls rfl (ls rfl (ls rfl (ls rfl (ls rfl oz)))))))))))), lg (ls rfl (lx (ls rfl (ls rfl (ls rfl (ls rfl (ls rfl (ls rfl (ls rfl (ls rfl (ls rfl (ls rfl (os rfl oz))))))))))))), lg (ls rfl (lx (ls rfl (ls rfl (ls rfl (ls rfl (ls rfl (ls rfl (ls rfl (ls rfl (ls rfl (ls rfl (os rfl (os rfl oz)))))))))))))), lg (ls rfl (lx (ls rfl (ls rfl (ls rfl (ls rfl (ls rfl (ls rfl (ls rfl (ls rfl (ls rfl (ls rfl (os rfl (os rfl (os rfl oz))))))))))))))), lg (ls rfl (lx (ls rfl (ls rfl (ls rfl (ls rfl (ls rfl (ls rfl (ls rfl (ls rfl (ls rfl (ls rfl (os rfl (os rfl (os rfl (os rfl oz)))))))))))))))), lg (ls rfl (lx lz)), lg lz, trivial⟩ ?_
                refine aw_seq ?_
                refine aw_region (by decide) ?_
                refine rts _ rfl (opD_load_aggX (qs := [_, _]) ag147_U12 sz147_U12 (os rfl (os rfl oz)) (loc_getN rfl rfl) (Nat.le_of_ble_eq_true rfl) rfl) ?_
                refine rts _ rfl (opD_fieldAddr fo148_0_U12 (ls rfl (os rfl (os rfl (os rfl (os rfl oz)))))) ?_
                refine rts _ rfl (opD_load_one ag22_U12 lz (loc_getN rfl rfl) rfl) ?_
                refine rts _ rfl (opD_fieldAddr fo148_1_U12 (ls rfl (ls rfl (ls rfl (os rfl (os rfl (os rfl (os rfl oz)))))))) ?_
                refine rts _ rfl (opD_load_one ag22_U12 lz (loc_getN rfl rfl) rfl) ?_
                replace hz_14 := bnd_some hz_14
                obtain ⟨x_16, hx_16, hz_14⟩ := hz_14
                refine rts _ rfl (opD_pure ht80_U12 (c_hget2 hx_16) ⟨(le_of_eq (ls rfl (ls rfl (ls rfl (ls rfl lz))))).trans (agg_le ⟨(Pd.le_refl _), (Pd.le_refl _), trivial⟩), le_of_eq (ls rfl (ls rfl lz)), le_of_eq lz, trivial⟩) ?_
                refine rts _ rfl (opD_move lz) ?_
                refine rts _ rfl (opD_extract lz rfl) ?_
                refine rts _ rfl (opD_extract (ls rfl lz) rfl) ?_
                refine rts _ rfl (allocN rfl zt148_U12 (by first | exact List.length_nil | (simp only [List.length_cons, List.length_nil, Nat.zero_add, Nat.reduceAdd] <;> rfl)) (by simp only [na, nb, nc, nd, nf, ng, nh, ni, nj, nk] <;> rfl)) ?_
                refine rts _ rfl (storeAN rfl sz148_U12 lz (ls rfl (ls rfl lz)) (ones_cons (one_pl rfl) (ones_cons (one_pl rfl) (ones_cons (one_pl rfl) (ones_cons (one_pl rfl) (ones_cons (one_pl rfl) ones_nil))))) rfl rfl (Nat.le_of_ble_eq_true rfl) (List.cons_ne_nil _ _) (bnd_cons (pl_bnd _ _ _) (bnd_cons (pl_bnd _ _ _) (bnd_cons (pl_bnd _ _ _) (bnd_cons (pl_bnd _ _ _) (bnd_cons (pl_bnd _ _ _) bnd_nil))))) (by simp only [na, nb, nc, nd, nf, ng, nh, ni, nj, nk] <;> rfl) (by simp only [na, nb, nc, nd, nf, ng, nh, ni, nj, nk] <;> rfl)) ?_
                refine rts _ rfl (opD_assign (lx (ls rfl lz))) ?_
                refine .nil ?_
                refine aw_keep [(0, _), (8, _), (9, _), (10, _), (11, _), (12, _), (13, _), (14, _), (15, _)] ⟨lg (ls rfl (lx (ls rfl (ls rfl (ls rfl (ls rfl (ls rfl (ls rfl (ls rfl (ls rfl (ls rfl (ls rfl oz)))))))))))), lg (ls rfl (lx (ls rfl (ls rfl (ls rfl (ls rfl (ls rfl (ls rfl (ls rfl (ls rfl (ls rfl (ls rfl (os rfl oz))))))))))))), lg (ls rfl (lx (ls rfl (ls rfl (ls rfl (ls rfl (ls rfl (ls rfl (ls rfl (ls rfl (ls rfl (ls rfl (os rfl (os rfl oz)))))))))))))), lg (ls rfl (lx (ls rfl (ls rfl (ls rfl (ls rfl (ls rfl (ls rfl (ls rfl (ls rfl (ls rfl (ls rfl (os rfl (os rfl (os rfl oz))))))))))))))), lg (ls rfl (lx (ls rfl (ls rfl (ls rfl (ls rfl (ls rfl (ls rfl (ls rfl (ls rfl (ls rfl (ls rfl (os rfl (os rfl (os rfl (os rfl oz)))))))))))))))), lg (ls rfl (lx (ls rfl (ls rfl (ls rfl (ls rfl (ls rfl (ls rfl (ls rfl (ls rfl (ls rfl (ls rfl (os rfl (os rfl (os rfl (os rfl (os rfl oz))))))))))))))))), lg (ls rfl (lx (ls rfl (ls rfl (ls rfl (ls rfl (ls rfl (ls rfl (ls rfl (ls rfl (ls rfl (ls rfl (os rfl (os rfl (os rfl (os rfl (os rfl (os rfl oz)))))))))))))))))), lg (ls rfl (lx lz)), lg lz, trivial⟩ ?_
                refine aw_seq ?_
                refine aw_region (by decide) ?_
                refine rts _ rfl (opD_load_aggX (qs := [_, _, _, _, _]) ag137_U12 sz137_U12 (os rfl (os rfl (os rfl (os rfl (os rfl oz))))) (loc_getN rfl rfl) (Nat.le_of_ble_eq_true rfl) rfl) ?_
                refine rts _ rfl (opD_load_aggX (qs := [_, _, _, _, _]) ag148_U12 sz148_U12 (ls rfl (os rfl (os rfl (os rfl (os rfl (os rfl (os rfl (os rfl oz)))))))) (loc_getN rfl rfl) (Nat.le_of_ble_eq_true rfl) rfl) ?_
                refine rts _ rfl (opD_binA [.int .u64 x_15.1.Who, .int .u64 x_15.1.No, .int .u64 x_15.1.Space, .int .u64 x_15.1.Gen, .int .u64 x_15.1.Txn] [.int .u64 x_16.1.Who, .int .u64 x_16.1.No, .int .u64 x_16.1.Space, .int .u64 x_16.1.Gen, .int .u64 x_16.1.Txn] (ls rfl lz) lz (fun w => (eq_Itm_g _ _ _ _ _ w)) (fun w => (eq_Itm _ _ _ _ _ _ _ _ _ _ w).2)) ?_
                refine rts _ rfl (opD_move lz) ?_
                refine rtg _ rfl lz (fun hg24_4_108 => opD_move (ls rfl (ls rfl (ls rfl (ls rfl (os rfl (os rfl (os rfl (os rfl (os rfl (os rfl oz))))))))))) ?_
                replace hz_14 := bnd_some hz_14
                obtain ⟨x_17, hx_17, hz_14⟩ := hz_14
                refine rtg _ rfl (ls rfl lz) (fun hg24_5_109 => opD_call ht76_U12 (c_num34 (gif_some hx_17 hg24_5_109) hst) ⟨le_of_eq (lz.trans (pif_pos hg24_5_109)), trivial⟩) ?_
                refine rtg _ rfl (ls rfl (ls rfl lz)) (fun hg24_6_110 => opD_move (ls rfl (ls rfl (ls rfl (ls rfl (ls rfl (ls rfl (os rfl (os rfl (os rfl (os rfl (os rfl (os rfl (os rfl (os rfl oz))))))))))))))) ?_
                refine rtg _ rfl (ls rfl (ls rfl (ls rfl lz))) (fun hg24_7_111 => opD_neq ((ls rfl lz).trans (pif_pos hg24_7_111)) (lz.trans (pif_pos hg24_7_111))) ?_
                refine rts _ rfl (opD_or (ls rfl (ls rfl (ls rfl (ls rfl lz)))) lz) ?_
                refine .nil ?_
                refine aw_keep [(0, _), (8, _), (9, _), (10, _), (11, _), (130, _)] ⟨lg (ls rfl (ls rfl (ls rfl (ls rfl (ls rfl (ls rfl (ls rfl (ls rfl (ls rfl oz))))))))), lg (ls rfl (ls rfl (ls rfl (ls rfl (ls rfl (ls rfl (ls rfl (ls rfl (ls rfl (os rfl oz)))))))))), lg (ls rfl (ls rfl (ls rfl (ls rfl (ls rfl (ls rfl (ls rfl (ls rfl (ls rfl (os rfl (os rfl oz))))))))))), lg (ls rfl (ls rfl (ls rfl (ls rfl (ls rfl (ls rfl (ls rfl (ls rfl (ls rfl (os rfl (os rfl (os rfl oz)))))))))))), lg (ls rfl (ls rfl (ls rfl (ls rfl (ls rfl (ls rfl (ls rfl (ls rfl (ls rfl (os rfl (os rfl (os rfl (os rfl oz))))))))))))), lg lz, trivial⟩ ?_
                refine aw_cond _ (os rfl (os rfl (os rfl (os rfl (os rfl oz))))) (fun hc => ?_) (fun hc => ?_)
                · skip
                  replace hz_14 := ifb_t hz_14 hc
                  clear hc
                  refine aw_seq ?_
                  refine aw_region (by decide) ?_
                  refine rts _ rfl (opD_assign (ev_const _ _)) ?_
                  refine .nil ?_
                  refine aw_keep [(2, _)] ⟨lg lz, trivial⟩ ?_
                  refine aw_ret ?_
                  obtain rfl := some_of hz_14
                  replace hz_11 := ocs_l hz_11
                  obtain rfl := some_of hz_11
                  replace hz_9 := ocs_r hz_9
                  obtain rfl := some_of hz_9
                  replace h0 := ocs_l h0
                  refine wk_no ?_
                  refine wk_no ?_
                  refine wk_no ?_
                  obtain rfl := some_of h0
                  exact done_ext (.inr rfl) ((res_one rfl (it_tmp oz)).le (Pd.le_refl _)) (pl_bnd _ _ _)
                · skip
                  replace hz_14 := ifb_f hz_14 hc
                  clear hc
                  refine aw_skip ?_
                  refine wk_yesN rfl (l := [(0, sl kHAct none none p0), (8, ptr (s.boxes.length + 3) 0), (9, ptr (s.boxes.length + 4) 0), (10, pl (.int .i64 t_10.1)), (11, ptr (s.boxes.length + 5) 0)]) (bs' := [⟨137, [pl (.int .u64 x_3.1.Who), pl (.int .u64 x_3.1.No), pl (.int .u64 x_3.1.Space), pl (.int .u64 x_3.1.Gen), pl (.int .u64 x_3.1.Txn)]⟩, ⟨HOT, [mp K1 t_10.2.1]⟩, ⟨HOT, [mp K2 t_10.2.2.1]⟩, ⟨201, [mref (s.boxes.length + 1), mref (s.boxes.length + 2)]⟩, ⟨147, [sl kItm none none t_10.2.2.2.L, sl kB none none t_10.2.2.2.There]⟩, ⟨148, [pl (.int .u64 x_12.X.Who), pl (.int .u64 x_12.X.No), pl (.int .u64 x_12.X.Space), pl (.int .u64 x_12.X.Gen), pl (.int .u64 x_12.X.Txn)]⟩]) ⟨le_of_eq (eg oz), le_of_eq (eg (os rfl oz)), le_of_eq (eg (os rfl (os rfl oz))), le_of_eq (eg (os rfl (os rfl (os rfl oz)))), le_of_eq (eg (os rfl (os rfl (os rfl (os rfl oz))))), trivial⟩ (bnd_cons (sl_b kb_HAct) (bnd_cons (ptr_bnd _ (by first | omega | (simp only [List.length_append, List.length_cons, List.length_nil]; omega))) (bnd_cons (ptr_bnd _ (by first | omega | (simp only [List.length_append, List.length_cons, List.length_nil]; omega))) (bnd_cons (pl_bnd _ _ _) (bnd_cons (ptr_bnd _ (by first | omega | (simp only [List.length_append, List.length_cons, List.length_nil]; omega))) bnd_nil))))) (Nat.le_of_ble_eq_true rfl) (by simp only [na, nb, nc, nd, nf, ng, nh, ni, nj, nk] <;> rfl) (bxle_same (bxle_same (bxle_same (bxle_same (bxle_same (bxle_same bxle_nil)))))) rfl (by simp only [na, nb, nc, nd, nf, ng, nh, ni, nj, nk] <;> rfl) (bl_cons (bnd_cons (pl_bnd _ _ _) (bnd_cons (pl_bnd _ _ _) (bnd_cons (pl_bnd _ _ _) (bnd_cons (pl_bnd _ _ _) (bnd_cons (pl_bnd _ _ _) bnd_nil))))) (bl_cons (bnd_cons (mp_bnd _ _ _ _) bnd_nil) (bl_cons (bnd_cons (mp_bnd _ _ _ _) bnd_nil) (bl_cons (bnd_cons (mref_bnd _ (by first | omega | (simp only [List.length_append, List.length_cons, List.length_nil]; omega))) (bnd_cons (mref_bnd _ (by first | omega | (simp only [List.length_append, List.length_cons, List.length_nil]; omega))) bnd_nil)) (bl_cons (bnd_cons (sl_b kb_Itm) (bnd_cons (sl_b kb_B) bnd_nil)) (bl_cons (bnd_cons (pl_bnd _ _ _) (bnd_cons (pl_bnd _ _ _) (bnd_cons (pl_bnd _ _ _) (bnd_cons (pl_bnd _ _ _) (bnd_cons (pl_bnd _ _ _) bnd_nil))))) bl_nil)))))) ?_
                  exact ⟨(t_10.2.1, t_10.2.2.1, t_10.2.2.2), ⟨le_of_eq (eg oz), le_of_eq (eg (os rfl oz)), le_of_eq (eg (os rfl (os rfl oz))), le_of_eq (eg (os rfl (os rfl (os rfl oz)))), le_of_eq (eg (os rfl (os rfl (os rfl (os rfl oz))))), trivial⟩, rfl, some_of hz_14⟩
              · skip
                replace hz_14 := ifb_f hz_14 hc
                clear hc
                refine aw_seq ?_
                refine aw_region (by decide) ?_
                refine rts _ rfl (opD_eql (os rfl (os rfl (os rfl (os rfl (os rfl oz))))) (ev_const _ _)) ?_
                refine rts _ rfl (opD_assign lz) ?_
                refine .nil ?_
                refine aw_keep [(0, _), (8, _), (9, _), (10, _), (11, _), (78, _), (131, _)] ⟨lg (ls rfl (ls rfl oz)), lg (ls rfl (ls rfl (os rfl oz))), lg (ls rfl (ls rfl (os rfl (os rfl oz)))), lg (ls rfl (ls rfl (os rfl (os rfl (os rfl oz))))), lg (ls rfl (ls rfl (os rfl (os rfl (os rfl (os rfl oz)))))), lg (ls rfl (ls rfl (os rfl (os rfl (os rfl (os rfl (os rfl oz))))))), lg lz, trivial⟩ ?_
                refine aw_cond _ (os rfl (os rfl (os rfl (os rfl (os rfl (os rfl oz)))))) (fun hc => ?_) (fun hc => ?_)
                · skip
                  replace hz_14 := ifb_t hz_14 hc
                  clear hc
                  refine aw_seq ?_
                  refine aw_region (by decide) ?_
                  refine rts _ rfl (opD_load_aggX (qs := [_, _]) ag147_U12 sz147_U12 (os rfl (os rfl oz)) (loc_getN rfl rfl) (Nat.le_of_ble_eq_true rfl) rfl) ?_
                  refine rts _ rfl (opD_fieldAddr fo148_0_U12 (ls rfl (os rfl (os rfl (os rfl (os rfl oz)))))) ?_
                  refine rts _ rfl (opD_load_one ag22_U12 lz (loc_getN rfl rfl) rfl) ?_
                  refine rts _ rfl (opD_fieldAddr fo148_1_U12 (ls rfl (ls rfl (ls rfl (os rfl (os rfl (os rfl (os rfl oz)))))))) ?_
                  refine rts _ rfl (opD_load_one ag22_U12 lz (loc_getN rfl rfl) rfl) ?_
                  replace hz_14 := bnd_some hz_14
                  obtain ⟨x_18, hx_18, hz_14⟩ := hz_14
                  refine rts _ rfl (opD_pure ht80_U12 (c_hget2 hx_18) ⟨(le_of_eq (ls rfl (ls rfl (ls rfl (ls rfl lz))))).trans (agg_le ⟨(Pd.le_refl _), (Pd.le_refl _), trivial⟩), le_of_eq (ls rfl (ls rfl lz)), le_of_eq lz, trivial⟩) ?_
                  refine rts _ rfl (opD_move lz) ?_
                  refine rts _ rfl (opD_extract lz rfl) ?_
                  refine rts _ rfl (opD_extract (ls rfl lz) rfl) ?_
                  refine rts _ rfl (allocN rfl zt148_U12 (by first | exact List.length_nil | (simp only [List.length_cons, List.length_nil, Nat.zero_add, Nat.reduceAdd] <;> rfl)) (by simp only [na, nb, nc, nd, nf, ng, nh, ni, nj, nk] <;> rfl)) ?_
                  refine rts _ rfl (storeAN rfl sz148_U12 lz (ls rfl (ls rfl lz)) (ones_cons (one_pl rfl) (ones_cons (one_pl rfl) (ones_cons (one_pl rfl) (ones_cons (one_pl rfl) (ones_cons (one_pl rfl) ones_nil))))) rfl rfl (Nat.le_of_ble_eq_true rfl) (List.cons_ne_nil _ _) (bnd_cons (pl_bnd _ _ _) (bnd_cons (pl_bnd _ _ _) (bnd_cons (pl_bnd _ _ _) (bnd_cons (pl_bnd _ _ _) (bnd_cons (pl_bnd _ _ _) bnd_nil))))) (by simp only [na, nb, nc, nd, nf, ng, nh, ni, nj, nk] <;> rfl) (by simp only [na, nb, nc, nd, nf, ng, nh, ni, nj, nk] <;> rfl)) ?_
                  refine rts _ rfl (opD_assign (lx (ls rfl lz))) ?_
                  refine .nil ?_
                  refine aw_keep [(0, _), (8, _), (9, _), (10, _), (11, _), (17, _)] ⟨lg (ls rfl (lx (ls rfl (ls rfl (ls rfl (ls rfl (ls rfl (ls rfl (ls rfl (ls rfl (ls rfl (ls rfl oz)))))))))))), lg (ls rfl (lx (ls rfl (ls rfl (ls rfl (ls rfl (ls rfl (ls rfl (ls rfl (ls rfl (ls rfl (ls rfl (os rfl oz))))))))))))), lg (ls rfl (lx (ls rfl (ls rfl (ls rfl (ls rfl (ls rfl (ls rfl (ls rfl (ls rfl (ls rfl (ls rfl (os rfl (os rfl oz)))))))))))))), lg (ls rfl (lx (ls rfl (ls rfl (ls rfl (ls rfl (ls rfl (ls rfl (ls rfl (ls rfl (ls rfl (ls rfl (os rfl (os rfl (os rfl oz))))))))))))))), lg (ls rfl (lx (ls rfl (ls rfl (ls rfl (ls rfl (ls rfl (ls rfl (ls rfl (ls rfl (ls rfl (ls rfl (os rfl (os rfl (os rfl (os rfl oz)))))))))))))))), lg lz, trivial⟩ ?_
                  refine aw_seq ?_
                  refine aw_seq ?_
                  refine aw_region (by decide) ?_
                  refine rts _ rfl (opD_move (os rfl oz)) ?_
                  refine rts _ rfl (opD_fieldAddr fo148_0_U12 (ls rfl (os rfl (os rfl (os rfl (os rfl oz)))))) ?_
                  refine rts _ rfl (opD_load_one ag22_U12 lz (loc_getN rfl rfl) rfl) ?_
                  refine rts _ rfl (opD_fieldAddr fo148_1_U12 (ls rfl (ls rfl (ls rfl (os rfl (os rfl (os rfl (os rfl oz)))))))) ?_
                  refine rts _ rfl (opD_load_one ag22_U12 lz (loc_getN rfl rfl) rfl) ?_
                  replace hz_14 := bnd_some hz_14
                  obtain ⟨x_19, hx_19, hz_14⟩ := hz_14
                  refine rts _ rfl (callTU (T := TBx) rfl 1 ht77_U12 (fun s g1 g2 gT h12 h1 h2 hT => ct_drop (p0 := ⟨t_10.2.1, t_10.2.2.1⟩) hx_19 h1 h2 hT) rfl rfl rfl ⟨le_of_eq (ls rfl (ls rfl (ls rfl (ls rfl lz)))), le_of_eq (ls rfl (ls rfl lz)), le_of_eq lz, trivial⟩ (by simp only [na, nb, nc, nd, nf, ng, nh, ni, nj, nk] <;> rfl)) ?_
                  replace hz_14 := bnd_some hz_14
                  obtain ⟨x_20, hx_20, hz_14⟩ := hz_14
                  refine rts _ rfl (opD_call ht76_U12 (c_num34 hx_20 hst) ⟨le_of_eq lz, trivial⟩) ?_
                  refine rts _ rfl (opD_move (ls rfl (ls rfl (ls rfl (ls rfl (ls rfl (ls rfl (ls rfl (os rfl (os rfl (os rfl (os rfl (os rfl oz))))))))))))) ?_
                  refine rts _ rfl (opD_neq (ls rfl lz) lz) ?_
                  refine .nil ?_
                  refine aw_keep [(0, _), (8, _), (9, _), (10, _), (11, _), (150, _)] ⟨lg (ls rfl (ls rfl (ls rfl (ls rfl (ls rfl (ls rfl (ls rfl (ls rfl (ls rfl oz))))))))), lg (ls rfl (ls rfl (ls rfl (ls rfl (ls rfl (ls rfl (ls rfl (ls rfl (ls rfl (os rfl oz)))))))))), lg (ls rfl (ls rfl (ls rfl (ls rfl (ls rfl (ls rfl (ls rfl (ls rfl (ls rfl (os rfl (os rfl oz))))))))))), lg (ls rfl (ls rfl (ls rfl (ls rfl (ls rfl (ls rfl (ls rfl (ls rfl (ls rfl (os rfl (os rfl (os rfl oz)))))))))))), lg (ls rfl (ls rfl (ls rfl (ls rfl (ls rfl (ls rfl (ls rfl (ls rfl (ls rfl (os rfl (os rfl (os rfl (os rfl oz))))))))))))), lg lz, trivial⟩ ?_
                  refine aw_cond _ (os rfl (os rfl (os rfl (os rfl (os rfl oz))))) (fun hc => ?_) (fun hc => ?_)
                  · skip
                    replace hz_14 := ifb_t hz_14 hc
                    clear hc
                    refine aw_seq ?_
                    refine aw_region (by decide) ?_
                    refine rts _ rfl (opD_assign (ev_const _ _)) ?_
                    refine .nil ?_
                    refine aw_keep [(2, _)] ⟨lg lz, trivial⟩ ?_
                    refine aw_ret ?_
                    obtain rfl := some_of hz_14
                    replace hz_11 := ocs_l hz_11
                    obtain rfl := some_of hz_11
                    replace hz_9 := ocs_r hz_9
                    obtain rfl := some_of hz_9
                    replace h0 := ocs_l h0
                    refine wk_no ?_
                    refine wk_no ?_
                    refine wk_no ?_
                    obtain rfl := some_of h0
                    exact done_ext (.inr rfl) ((res_one rfl (it_tmp oz)).le (Pd.le_refl _)) (pl_bnd _ _ _)
                  · skip
                    replace hz_14 := ifb_f hz_14 hc
                    clear hc
                    refine aw_skip ?_
                    refine aw_keep [(0, _), (8, _), (9, _), (10, _), (11, _)] ⟨lg oz, lg (os rfl oz), lg (os rfl (os rfl oz)), lg (os rfl (os rfl (os rfl oz))), lg (os rfl (os rfl (os rfl (os rfl oz)))), trivial⟩ ?_
                    refine aw_region (by decide) ?_
                    refine rts _ rfl (opD_load_aggX (qs := [_, _]) ag147_U12 sz147_U12 (os rfl (os rfl oz)) (loc_getN rfl rfl) (Nat.le_of_ble_eq_true rfl) rfl) ?_
                    refine rts _ rfl (opD_fieldAddr fo148_0_U12 (ls rfl (os rfl (os rfl (os rfl (os rfl oz)))))) ?_
                    refine rts _ rfl (opD_load_one ag22_U12 lz (loc_getN rfl rfl) rfl) ?_
                    refine rts _ rfl (opD_fieldAddr fo148_1_U12 (ls rfl (ls rfl (ls rfl (os rfl (os rfl (os rfl (os rfl oz)))))))) ?_
                    refine rts _ rfl (opD_load_one ag22_U12 lz (loc_getN rfl rfl) rfl) ?_
                    replace hz_14 := bnd_some hz_14
                    obtain ⟨x_21, hx_21, hz_14⟩ := hz_14
                    refine rts _ rfl (opD_pure ht81_U12 (c_hdrop2 hx_21) ⟨(le_of_eq (ls rfl (ls rfl (ls rfl (ls rfl lz))))).trans (agg_le ⟨(Pd.le_refl _), (Pd.le_refl _), trivial⟩), le_of_eq (ev_const _ _), le_of_eq (ls rfl (ls rfl lz)), le_of_eq lz, trivial⟩) ?_
                    refine rts _ rfl (storeAN rfl sz147_U12 (ls rfl (ls rfl (ls rfl (ls rfl (ls rfl (ls rfl (os rfl (os rfl oz)))))))) lz (ones_cons (one_sl _ _ _ _) (ones_cons (one_sl _ _ _ _) ones_nil)) rfl rfl (Nat.le_of_ble_eq_true rfl) (List.cons_ne_nil _ _) (bnd_cons (sl_b kb_Itm) (bnd_cons (sl_b kb_B) bnd_nil)) (by simp only [na, nb, nc, nd, nf, ng, nh, ni, nj, nk] <;> rfl) (by simp only [na, nb, nc, nd, nf, ng, nh, ni, nj, nk] <;> rfl)) ?_
                    refine .nil ?_
                    refine wk_yesN rfl (l := [(0, sl kHAct none none p0), (8, ptr (s.boxes.length + 3) 0), (9, ptr (s.boxes.length + 4) 0), (10, pl (.int .i64 t_10.1)), (11, ptr (s.boxes.length + 5) 0)]) (bs' := [⟨137, [pl (.int .u64 x_3.1.Who), pl (.int .u64 x_3.1.No), pl (.int .u64 x_3.1.Space), pl (.int .u64 x_3.1.Gen), pl (.int .u64 x_3.1.Txn)]⟩, ⟨HOT, [mp K1 x_19.2]⟩, ⟨HOT, [mp K2 t_10.2.2.1]⟩, ⟨201, [mref (s.boxes.length + 1), mref (s.boxes.length + 2)]⟩, ⟨147, [sl kItm none none x_21.L, sl kB none none x_21.There]⟩, ⟨148, [pl (.int .u64 x_12.X.Who), pl (.int .u64 x_12.X.No), pl (.int .u64 x_12.X.Space), pl (.int .u64 x_12.X.Gen), pl (.int .u64 x_12.X.Txn)]⟩]) ⟨le_of_eq (eg (lx (ls rfl (ls rfl (ls rfl (ls rfl (ls rfl (ls rfl oz)))))))), le_of_eq (eg (lx (ls rfl (ls rfl (ls rfl (ls rfl (ls rfl (ls rfl (os rfl oz))))))))), le_of_eq (eg (lx (ls rfl (ls rfl (ls rfl (ls rfl (ls rfl (ls rfl (os rfl (os rfl oz)))))))))), le_of_eq (eg (lx (ls rfl (ls rfl (ls rfl (ls rfl (ls rfl (ls rfl (os rfl (os rfl (os rfl oz))))))))))), le_of_eq (eg (lx (ls rfl (ls rfl (ls rfl (ls rfl (ls rfl (ls rfl (os rfl (os rfl (os rfl (os rfl oz)))))))))))), trivial⟩ (bnd_cons (sl_b kb_HAct) (bnd_cons (ptr_bnd _ (by first | omega | (simp only [List.length_append, List.length_cons, List.length_nil]; omega))) (bnd_cons (ptr_bnd _ (by first | omega | (simp only [List.length_append, List.length_cons, List.length_nil]; omega))) (bnd_cons (pl_bnd _ _ _) (bnd_cons (ptr_bnd _ (by first | omega | (simp only [List.length_append, List.length_cons, List.length_nil]; omega))) bnd_nil))))) (Nat.le_of_ble_eq_true rfl) (by simp only [na, nb, nc, nd, nf, ng, nh, ni, nj, nk] <;> rfl) (bxle_same (bxle_same (bxle_same (bxle_same (bxle_same (bxle_same bxle_nil)))))) rfl (by simp only [na, nb, nc, nd, nf, ng, nh, ni, nj, nk] <;> rfl) (bl_cons (bnd_cons (pl_bnd _ _ _) (bnd_cons (pl_bnd _ _ _) (bnd_cons (pl_bnd _ _ _) (bnd_cons (pl_bnd _ _ _) (bnd_cons (pl_bnd _ _ _) bnd_nil))))) (bl_cons (bnd_cons (mp_bnd _ _ _ _) bnd_nil) (bl_cons (bnd_cons (mp_bnd _ _ _ _) bnd_nil) (bl_cons (bnd_cons (mref_bnd _ (by first | omega | (simp only [List.length_append, List.length_cons, List.length_nil]; omega))) (bnd_cons (mref_bnd _ (by first | omega | (simp only [List.length_append, List.length_cons, List.length_nil]; omega))) bnd_nil)) (bl_cons (bnd_cons (sl_b kb_Itm) (bnd_cons (sl_b kb_B) bnd_nil)) (bl_cons (bnd_cons (pl_bnd _ _ _) (bnd_cons (pl_bnd _ _ _) (bnd_cons (pl_bnd _ _ _) (bnd_cons (pl_bnd _ _ _) (bnd_cons (pl_bnd _ _ _) bnd_nil))))) bl_nil)))))) ?_
                    exact ⟨(x_19.2, t_10.2.2.1, x_21), ⟨le_of_eq (eg oz), le_of_eq (eg (os rfl oz)), le_of_eq (eg (os rfl (os rfl oz))), le_of_eq (eg (os rfl (os rfl (os rfl oz)))), le_of_eq (eg (os rfl (os rfl (os rfl (os rfl oz))))), trivial⟩, rfl, some_of hz_14⟩
                · skip
                  replace hz_14 := ifb_f hz_14 hc
                  clear hc
                  refine aw_seq ?_
                  refine aw_region (by decide) ?_
                  refine rts _ rfl (opD_eql (os rfl (os rfl (os rfl (os rfl (os rfl oz))))) (ev_const _ _)) ?_
                  refine rts _ rfl (opD_assign lz) ?_
                  refine .nil ?_
                  refine aw_keep [(0, _), (8, _), (9, _), (10, _), (11, _), (157, _)] ⟨lg (ls rfl (ls rfl oz)), lg (ls rfl (ls rfl (os rfl oz))), lg (ls rfl (ls rfl (os rfl (os rfl oz)))), lg (ls rfl (ls rfl (os rfl (os rfl (os rfl oz))))), lg (ls rfl (ls rfl (os rfl (os rfl (os rfl (os rfl oz)))))), lg lz, trivial⟩ ?_
                  refine aw_cond _ (os rfl (os rfl (os rfl (os rfl (os rfl oz))))) (fun hc => ?_) (fun hc => ?_)
                  · skip
                    replace hz_14 := ifb_t hz_14 hc
                    clear hc
                    refine aw_seq ?_
                    refine aw_region (by decide) ?_
                    refine rts _ rfl (opD_move (os rfl oz)) ?_
                    refine rts _ rfl (opD_fieldAddr fo148_2_U12 (ls rfl (os rfl (os rfl (os rfl (os rfl oz)))))) ?_
                    refine rts _ rfl (opD_load_one ag22_U12 lz (loc_getN rfl rfl) rfl) ?_
                    replace hz_14 := bnd_some hz_14
                    obtain ⟨x_22, hx_22, hz_14⟩ := hz_14
                    refine rts _ rfl (callTU (T := TBx) rfl 1 ht73_U12 (fun s g1 g2 gT h12 h1 h2 hT => ct_forget (p0 := ⟨t_10.2.1, t_10.2.2.1⟩) hx_22 h12 h1 h2 hT) rfl rfl rfl ⟨le_of_eq (ls rfl (ls rfl lz)), le_of_eq lz, trivial⟩ (by simp only [na, nb, nc, nd, nf, ng, nh, ni, nj, nk] <;> rfl)) ?_
                    refine .nil ?_
                    refine aw_keep [(0, _), (8, _), (9, _), (10, _), (11, _)] ⟨lg (ls rfl (ls rfl (ls rfl (ls rfl oz)))), lg (ls rfl (ls rfl (ls rfl (ls rfl (os rfl oz))))), lg (ls rfl (ls rfl (ls rfl (ls rfl (os rfl (os rfl oz)))))), lg (ls rfl (ls rfl (ls rfl (ls rfl (os rfl (os rfl (os rfl oz))))))), lg (ls rfl (ls rfl (ls rfl (ls rfl (os rfl (os rfl (os rfl (os rfl oz)))))))), trivial⟩ ?_
                    refine aw_region (by decide) ?_
                    refine rts _ rfl (opD_load_aggX (qs := [_, _]) ag147_U12 sz147_U12 (os rfl (os rfl oz)) (loc_getN rfl rfl) (Nat.le_of_ble_eq_true rfl) rfl) ?_
                    refine rts _ rfl (opD_fieldAddr fo148_2_U12 (ls rfl (os rfl (os rfl (os rfl (os rfl oz)))))) ?_
                    refine rts _ rfl (opD_load_one ag22_U12 lz (loc_getN rfl rfl) rfl) ?_
                    replace hz_14 := bnd_some hz_14
                    obtain ⟨x_23, hx_23, hz_14⟩ := hz_14
                    refine rts _ rfl (opD_pure ht81_U12 (c_hdrop2 hx_23) ⟨(le_of_eq (ls rfl (ls rfl lz))).trans (agg_le ⟨(Pd.le_refl _), (Pd.le_refl _), trivial⟩), le_of_eq (ev_const _ _), le_of_eq lz, le_of_eq (ev_const _ _), trivial⟩) ?_
                    refine rts _ rfl (storeAN rfl sz147_U12 (ls rfl (ls rfl (ls rfl (ls rfl (os rfl (os rfl oz)))))) lz (ones_cons (one_sl _ _ _ _) (ones_cons (one_sl _ _ _ _) ones_nil)) rfl rfl (Nat.le_of_ble_eq_true rfl) (List.cons_ne_nil _ _) (bnd_cons (sl_b kb_Itm) (bnd_cons (sl_b kb_B) bnd_nil)) (by simp only [na, nb, nc, nd, nf, ng, nh, ni, nj, nk] <;> rfl) (by simp only [na, nb, nc, nd, nf, ng, nh, ni, nj, nk] <;> rfl)) ?_
                    refine .nil ?_
                    refine wk_yesN rfl (l := [(0, sl kHAct none none p0), (8, ptr (s.boxes.length + 3) 0), (9, ptr (s.boxes.length + 4) 0), (10, pl (.int .i64 t_10.1)), (11, ptr (s.boxes.length + 5) 0)]) (bs' := [⟨137, [pl (.int .u64 x_3.1.Who), pl (.int .u64 x_3.1.No), pl (.int .u64 x_3.1.Space), pl (.int .u64 x_3.1.Gen), pl (.int .u64 x_3.1.Txn)]⟩, ⟨HOT, [mp K1 x_22]⟩, ⟨HOT, [mp K2 t_10.2.2.1]⟩, ⟨201, [mref (s.boxes.length + 1), mref (s.boxes.length + 2)]⟩, ⟨147, [sl kItm none none x_23.L, sl kB none none x_23.There]⟩, ⟨148, [pl (.int .u64 x_12.X.Who), pl (.int .u64 x_12.X.No), pl (.int .u64 x_12.X.Space), pl (.int .u64 x_12.X.Gen), pl (.int .u64 x_12.X.Txn)]⟩]) ⟨le_of_eq (eg (lx (ls rfl (ls rfl (ls rfl (ls rfl oz)))))), le_of_eq (eg (lx (ls rfl (ls rfl (ls rfl (ls rfl (os rfl oz))))))), le_of_eq (eg (lx (ls rfl (ls rfl (ls rfl (ls rfl (os rfl (os rfl oz)))))))), le_of_eq (eg (lx (ls rfl (ls rfl (ls rfl (ls rfl (os rfl (os rfl (os rfl oz))))))))), le_of_eq (eg (lx (ls rfl (ls rfl (ls rfl (ls rfl (os rfl (os rfl (os rfl (os rfl oz)))))))))), trivial⟩ (bnd_cons (sl_b kb_HAct) (bnd_cons (ptr_bnd _ (by first | omega | (simp only [List.length_append, List.length_cons, List.length_nil]; omega))) (bnd_cons (ptr_bnd _ (by first | omega | (simp only [List.length_append, List.length_cons, List.length_nil]; omega))) (bnd_cons (pl_bnd _ _ _) (bnd_cons (ptr_bnd _ (by first | omega | (simp only [List.length_append, List.length_cons, List.length_nil]; omega))) bnd_nil))))) (Nat.le_of_ble_eq_true rfl) (by simp only [na, nb, nc, nd, nf, ng, nh, ni, nj, nk] <;> rfl) (bxle_same (bxle_same (bxle_same (bxle_same (bxle_same (bxle_same bxle_nil)))))) rfl (by simp only [na, nb, nc, nd, nf, ng, nh, ni, nj, nk] <;> rfl) (bl_cons (bnd_cons (pl_bnd _ _ _) (bnd_cons (pl_bnd _ _ _) (bnd_cons (pl_bnd _ _ _) (bnd_cons (pl_bnd _ _ _) (bnd_cons (pl_bnd _ _ _) bnd_nil))))) (bl_cons (bnd_cons (mp_bnd _ _ _ _) bnd_nil) (bl_cons (bnd_cons (mp_bnd _ _ _ _) bnd_nil) (bl_cons (bnd_cons (mref_bnd _ (by first | omega | (simp only [List.length_append, List.length_cons, List.length_nil]; omega))) (bnd_cons (mref_bnd _ (by first | omega | (simp only [List.length_append, List.length_cons, List.length_nil]; omega))) bnd_nil)) (bl_cons (bnd_cons (sl_b kb_Itm) (bnd_cons (sl_b kb_B) bnd_nil)) (bl_cons (bnd_cons (pl_bnd _ _ _) (bnd_cons (pl_bnd _ _ _) (bnd_cons (pl_bnd _ _ _) (bnd_cons (pl_bnd _ _ _) (bnd_cons (pl_bnd _ _ _) bnd_nil))))) bl_nil)))))) ?_
                    exact ⟨(x_22, t_10.2.2.1, x_23), ⟨le_of_eq (eg oz), le_of_eq (eg (os rfl oz)), le_of_eq (eg (os rfl (os rfl oz))), le_of_eq (eg (os rfl (os rfl (os rfl oz)))), le_of_eq (eg (os rfl (os rfl (os rfl (os rfl oz))))), trivial⟩, rfl, some_of hz_14⟩
                  · skip
                    replace hz_14 := ifb_f hz_14 hc
                    clear hc
                    refine aw_seq ?_
                    refine aw_region (by decide) ?_
                    refine rts _ rfl (opD_move (os rfl oz)) ?_
                    refine rts _ rfl (opD_load_aggX (qs := [_, _, _, _, _]) ag148_U12 sz148_U12 (ls rfl (os rfl (os rfl (os rfl (os rfl oz))))) (loc_getN rfl rfl) (Nat.le_of_ble_eq_true rfl) rfl) ?_
                    replace hz_14 := bnd_some hz_14
                    obtain ⟨x_24, hx_24, hz_14⟩ := hz_14
                    refine rts _ rfl (callTU (T := TBx) rfl 1 ht74_U12 (fun s g1 g2 gT h12 h1 h2 hT => ct_give hx_24 h12 h1 h2 hT) rfl rfl rfl ⟨le_of_eq (ls rfl lz), (le_of_eq lz).trans (agg_le ⟨(Pd.le_refl _), (Pd.le_refl _), (Pd.le_refl _), (Pd.le_refl _), (Pd.le_refl _), trivial⟩), trivial⟩ (by simp only [na, nb, nc, nd, nf, ng, nh, ni, nj, nk] <;> rfl)) ?_
                    refine rts _ rfl (opD_move lz) ?_
                    refine rts _ rfl (opD_extract lz rfl) ?_
                    refine rts _ rfl (opD_extract (ls rfl lz) rfl) ?_
                    refine rts _ rfl (opD_assign (ls rfl lz)) ?_
                    refine rts _ rfl (opD_assign (ls rfl lz)) ?_
                    refine .nil ?_
                    refine aw_keep [(0, _), (8, _), (9, _), (10, _), (11, _), (18, _), (19, _)] ⟨lg (ls rfl (ls rfl (ls rfl (ls rfl (ls rfl (ls rfl (ls rfl (ls rfl oz)))))))), lg (ls rfl (ls rfl (ls rfl (ls rfl (ls rfl (ls rfl (ls rfl (ls rfl (os rfl oz))))))))), lg (ls rfl (ls rfl (ls rfl (ls rfl (ls rfl (ls rfl (ls rfl (ls rfl (os rfl (os rfl oz)))))))))), lg (ls rfl (ls rfl (ls rfl (ls rfl (ls rfl (ls rfl (ls rfl (ls rfl (os rfl (os rfl (os rfl oz))))))))))), lg (ls rfl (ls rfl (ls rfl (ls rfl (ls rfl (ls rfl (ls rfl (ls rfl (os rfl (os rfl (os rfl (os rfl oz)))))))))))), lg (ls rfl lz), lg lz, trivial⟩ ?_
                    refine aw_seq ?_
                    refine aw_region (by decide) ?_
                    refine rts _ rfl (opD_load_aggX (qs := [_, _]) ag147_U12 sz147_U12 (os rfl (os rfl oz)) (loc_getN rfl rfl) (Nat.le_of_ble_eq_true rfl) rfl) ?_
                    refine rts _ rfl (opD_load_aggX (qs := [_, _, _, _, _]) ag148_U12 sz148_U12 (ls rfl (os rfl (os rfl (os rfl (os rfl oz))))) (loc_getN rfl rfl) (Nat.le_of_ble_eq_true rfl) rfl) ?_
                    replace hz_14 := bnd_some hz_14
                    obtain ⟨x_25, hx_25, hz_14⟩ := hz_14
                    refine rts _ rfl (opD_pure ht82_U12 (c_hgive2 hx_25) ⟨(le_of_eq (ls rfl lz)).trans (agg_le ⟨(Pd.le_refl _), (Pd.le_refl _), trivial⟩), (le_of_eq lz).trans (agg_le ⟨(Pd.le_refl _), (Pd.le_refl _), (Pd.le_refl _), (Pd.le_refl _), (Pd.le_refl _), trivial⟩), trivial⟩) ?_
                    refine rts _ rfl (opD_move lz) ?_
                    refine rts _ rfl (opD_extract lz rfl) ?_
                    refine rts _ rfl (opD_extract (ls rfl lz) rfl) ?_
                    refine rts _ rfl (opD_extract (ls rfl (ls rfl lz)) rfl) ?_
                    refine rts _ rfl (allocN rfl zt147_U12 (by first | exact List.length_nil | (simp only [List.length_cons, List.length_nil, Nat.zero_add, Nat.reduceAdd] <;> rfl)) (by simp only [na, nb, nc, nd, nf, ng, nh, ni, nj, nk] <;> rfl)) ?_
                    refine rts _ rfl (storeAN rfl sz147_U12 lz (ls rfl (ls rfl (ls rfl lz))) (ones_cons (one_sl _ _ _ _) (ones_cons (one_sl _ _ _ _) ones_nil)) rfl rfl (Nat.le_of_ble_eq_true rfl) (List.cons_ne_nil _ _) (bnd_cons (sl_b kb_Itm) (bnd_cons (sl_b kb_B) bnd_nil)) (by simp only [na, nb, nc, nd, nf, ng, nh, ni, nj, nk] <;> rfl) (by simp only [na, nb, nc, nd, nf, ng, nh, ni, nj, nk] <;> rfl)) ?_
                    refine rts _ rfl (opD_assign (lx (ls rfl (ls rfl lz)))) ?_
                    refine rts _ rfl (opD_assign (ls rfl (lx (ls rfl lz)))) ?_
                    refine .nil ?_
                    refine aw_keep [(0, _), (8, _), (9, _), (10, _), (11, _), (18, _), (19, _), (20, _), (21, _), (22, _)] ⟨lg (ls rfl (ls rfl (lx (ls rfl (ls rfl (ls rfl (ls rfl (ls rfl (ls rfl (ls rfl (ls rfl oz))))))))))), lg (ls rfl (ls rfl (lx (ls rfl (ls rfl (ls rfl (ls rfl (ls rfl (ls rfl (ls rfl (ls rfl (os rfl oz)))))))))))), lg (ls rfl (ls rfl (lx (ls rfl (ls rfl (ls rfl (ls rfl (ls rfl (ls rfl (ls rfl (ls rfl (os rfl (os rfl oz))))))))))))), lg (ls rfl (ls rfl (lx (ls rfl (ls rfl (ls rfl (ls rfl (ls rfl (ls rfl (ls rfl (ls rfl (os rfl (os rfl (os rfl oz)))))))))))))), lg (ls rfl (ls rfl (lx (ls rfl (ls rfl (ls rfl (ls rfl (ls rfl (ls rfl (ls rfl (ls rfl (os rfl (os rfl (os rfl (os rfl oz))))))))))))))), lg (ls rfl (ls rfl (lx (ls rfl (ls rfl (ls rfl (ls rfl (ls rfl (ls rfl (ls rfl (ls rfl (os rfl (os rfl (os rfl (os rfl (os rfl oz)))))))))))))))), lg (ls rfl (ls rfl (lx (ls rfl (ls rfl (ls rfl (ls rfl (ls rfl (ls rfl (ls rfl (ls rfl (os rfl (os rfl (os rfl (os rfl (os rfl (os rfl oz))))))))))))))))), lg (ls rfl (ls rfl (lx lz))), lg (ls rfl lz), lg lz, trivial⟩ ?_
                    refine aw_seq ?_
                    refine aw_seq ?_
                    refine aw_region (by decide) ?_
                    refine rts _ rfl (opD_move (os rfl (os rfl (os rfl (os rfl (os rfl oz)))))) ?_
                    refine rts _ rfl (opD_move (ls rfl (os rfl (os rfl (os rfl (os rfl (os rfl (os rfl (os rfl (os rfl oz)))))))))) ?_
                    refine rts _ rfl (opD_neq (ls rfl lz) lz) ?_
                    refine rts _ rfl (opD_move lz) ?_
                    refine rtg _ rfl lz (fun hg18_4_112 => opD_move (ls rfl (ls rfl (ls rfl (ls rfl (os rfl (os rfl (os rfl (os rfl (os rfl (os rfl oz))))))))))) ?_
                    replace hz_14 := bnd_some hz_14
                    obtain ⟨x_26, hx_26, hz_14⟩ := hz_14
                    refine rtg _ rfl (ls rfl lz) (fun hg18_5_113 => opD_call ht76_U12 (c_num34 (gif_some hx_26 hg18_5_113) hst) ⟨le_of_eq (lz.trans (pif_pos hg18_5_113)), trivial⟩) ?_
                    refine rtg _ rfl (ls rfl (ls rfl lz)) (fun hg18_6_114 => opD_move (ls rfl (ls rfl (ls rfl (ls rfl (ls rfl (ls rfl (os rfl (os rfl (os rfl (os rfl (os rfl (os rfl (os rfl (os rfl (os rfl oz)))))))))))))))) ?_
                    refine rtg _ rfl (ls rfl (ls rfl (ls rfl lz))) (fun hg18_7_115 => opD_neq ((ls rfl lz).trans (pif_pos hg18_7_115)) (lz.trans (pif_pos hg18_7_115))) ?_
                    refine rts _ rfl (opD_or (ls rfl (ls rfl (ls rfl (ls rfl lz)))) lz) ?_
                    refine .nil ?_
                    refine aw_keep [(0, _), (8, _), (9, _), (10, _), (11, _), (20, _), (100, _)] ⟨lg (ls rfl (ls rfl (ls rfl (ls rfl (ls rfl (ls rfl (ls rfl (ls rfl (ls rfl oz))))))))), lg (ls rfl (ls rfl (ls rfl (ls rfl (ls rfl (ls rfl (ls rfl (ls rfl (ls rfl (os rfl oz)))))))))), lg (ls rfl (ls rfl (ls rfl (ls rfl (ls rfl (ls rfl (ls rfl (ls rfl (ls rfl (os rfl (os rfl oz))))))))))), lg (ls rfl (ls rfl (ls rfl (ls rfl (ls rfl (ls rfl (ls rfl (ls rfl (ls rfl (os rfl (os rfl (os rfl oz)))))))))))), lg (ls rfl (ls rfl (ls rfl (ls rfl (ls rfl (ls rfl (ls rfl (ls rfl (ls rfl (os rfl (os rfl (os rfl (os rfl oz))))))))))))), lg (ls rfl (ls rfl (ls rfl (ls rfl (ls rfl (ls rfl (ls rfl (ls rfl (ls rfl (os rfl (os rfl (os rfl (os rfl (os rfl (os rfl (os rfl oz)))))))))))))))), lg lz, trivial⟩ ?_
                    refine aw_cond _ (os rfl (os rfl (os rfl (os rfl (os rfl (os rfl oz)))))) (fun hc => ?_) (fun hc => ?_)
                    · skip
                      replace hz_14 := ifb_t hz_14 hc
                      clear hc
                      refine aw_seq ?_
                      refine aw_region (by decide) ?_
                      refine rts _ rfl (opD_assign (ev_const _ _)) ?_
                      refine .nil ?_
                      refine aw_keep [(2, _)] ⟨lg lz, trivial⟩ ?_
                      refine aw_ret ?_
                      obtain rfl := some_of hz_14
                      replace hz_11 := ocs_l hz_11
                      obtain rfl := some_of hz_11
                      replace hz_9 := ocs_r hz_9
                      obtain rfl := some_of hz_9
                      replace h0 := ocs_l h0
                      refine wk_no ?_
                      refine wk_no ?_
                      refine wk_no ?_
                      obtain rfl := some_of h0
                      exact done_ext (.inr rfl) ((res_one rfl (it_tmp oz)).le (Pd.le_refl _)) (pl_bnd _ _ _)
                    · skip
                      replace hz_14 := ifb_f hz_14 hc
                      clear hc
                      refine aw_skip ?_
                      refine aw_keep [(0, _), (8, _), (9, _), (10, _), (11, _), (20, _)] ⟨lg oz, lg (os rfl oz), lg (os rfl (os rfl oz)), lg (os rfl (os rfl (os rfl oz))), lg (os rfl (os rfl (os rfl (os rfl oz)))), lg (os rfl (os rfl (os rfl (os rfl (os rfl oz))))), trivial⟩ ?_
                      refine aw_region (by decide) ?_
                      refine rts _ rfl (opD_load_aggX (qs := [_, _]) ag147_U12 sz147_U12 (os rfl (os rfl (os rfl (os rfl (os rfl oz))))) (loc_getN rfl rfl) (Nat.le_of_ble_eq_true rfl) rfl) ?_
                      refine rts _ rfl (storeAN rfl sz147_U12 (ls rfl (os rfl (os rfl oz))) lz (ones_cons (one_sl _ _ _ _) (ones_cons (one_sl _ _ _ _) ones_nil)) rfl rfl (Nat.le_of_ble_eq_true rfl) (List.cons_ne_nil _ _) (bnd_cons (sl_b kb_Itm) (bnd_cons (sl_b kb_B) bnd_nil)) (by simp only [na, nb, nc, nd, nf, ng, nh, ni, nj, nk] <;> rfl) (by simp only [na, nb, nc, nd, nf, ng, nh, ni, nj, nk] <;> rfl)) ?_
                      refine .nil ?_
                      refine wk_yesN rfl (l := [(0, sl kHAct none none p0), (8, ptr (s.boxes.length + 3) 0), (9, ptr (s.boxes.length + 4) 0), (10, pl (.int .i64 t_10.1)), (11, ptr (s.boxes.length + 5) 0)]) (bs' := [⟨137, [pl (.int .u64 x_3.1.Who), pl (.int .u64 x_3.1.No), pl (.int .u64 x_3.1.Space), pl (.int .u64 x_3.1.Gen), pl (.int .u64 x_3.1.Txn)]⟩, ⟨HOT, [mp K1 x_24.2.2.H]⟩, ⟨HOT, [mp K2 x_24.2.2.N]⟩, ⟨201, [mref (s.boxes.length + 1), mref (s.boxes.length + 2)]⟩, ⟨147, [sl kItm none none x_25.1.L, sl kB none none x_25.1.There]⟩, ⟨148, [pl (.int .u64 x_12.X.Who), pl (.int .u64 x_12.X.No), pl (.int .u64 x_12.X.Space), pl (.int .u64 x_12.X.Gen), pl (.int .u64 x_12.X.Txn)]⟩]) ⟨le_of_eq (eg (lx (ls rfl oz))), le_of_eq (eg (lx (ls rfl (os rfl oz)))), le_of_eq (eg (lx (ls rfl (os rfl (os rfl oz))))), le_of_eq (eg (lx (ls rfl (os rfl (os rfl (os rfl oz)))))), le_of_eq (eg (lx (ls rfl (os rfl (os rfl (os rfl (os rfl oz))))))), trivial⟩ (bnd_cons (sl_b kb_HAct) (bnd_cons (ptr_bnd _ (by first | omega | (simp only [List.length_append, List.length_cons, List.length_nil]; omega))) (bnd_cons (ptr_bnd _ (by first | omega | (simp only [List.length_append, List.length_cons, List.length_nil]; omega))) (bnd_cons (pl_bnd _ _ _) (bnd_cons (ptr_bnd _ (by first | omega | (simp only [List.length_append, List.length_cons, List.length_nil]; omega))) bnd_nil))))) (Nat.le_of_ble_eq_true rfl) (by simp only [na, nb, nc, nd, nf, ng, nh, ni, nj, nk] <;> rfl) (bxle_same (bxle_same (bxle_same (bxle_same (bxle_same (bxle_same bxle_nil)))))) rfl (by simp only [na, nb, nc, nd, nf, ng, nh, ni, nj, nk] <;> rfl) (bl_cons (bnd_cons (pl_bnd _ _ _) (bnd_cons (pl_bnd _ _ _) (bnd_cons (pl_bnd _ _ _) (bnd_cons (pl_bnd _ _ _) (bnd_cons (pl_bnd _ _ _) bnd_nil))))) (bl_cons (bnd_cons (mp_bnd _ _ _ _) bnd_nil) (bl_cons (bnd_cons (mp_bnd _ _ _ _) bnd_nil) (bl_cons (bnd_cons (mref_bnd _ (by first | omega | (simp only [List.length_append, List.length_cons, List.length_nil]; omega))) (bnd_cons (mref_bnd _ (by first | omega | (simp only [List.length_append, List.length_cons, List.length_nil]; omega))) bnd_nil)) (bl_cons (bnd_cons (sl_b kb_Itm) (bnd_cons (sl_b kb_B) bnd_nil)) (bl_cons (bnd_cons (pl_bnd _ _ _) (bnd_cons (pl_bnd _ _ _) (bnd_cons (pl_bnd _ _ _) (bnd_cons (pl_bnd _ _ _) (bnd_cons (pl_bnd _ _ _) bnd_nil))))) bl_nil)))))) ?_
                      exact ⟨(x_24.2.2.H, x_24.2.2.N, x_25.1), ⟨le_of_eq (eg oz), le_of_eq (eg (os rfl oz)), le_of_eq (eg (os rfl (os rfl oz))), le_of_eq (eg (os rfl (os rfl (os rfl oz)))), le_of_eq (eg (os rfl (os rfl (os rfl (os rfl oz))))), trivial⟩, rfl, some_of hz_14⟩
            · rintro e st ⟨vz_14, hH, rfl, rfl⟩
              refine aw_keep _ hH ?_
              replace hz_11 := ocs_r hz_11
              refine aw_keep [(0, _), (8, _), (9, _), (10, _), (11, _)] ⟨lg oz, lg (os rfl oz), lg (os rfl (os rfl oz)), lg (os rfl (os rfl (os rfl oz))), lg (os rfl (os rfl (os rfl (os rfl oz)))), trivial⟩ ?_
              refine aw_seq ?_
              refine aw_flat mixed_U12 (by decide +kernel) ?_
              refine zts _ rfl (opD_move (os rfl oz)) ?_
              refine zts _ rfl (opD_fieldAddr fo148_0_U12 (ls rfl (os rfl (os rfl (os rfl (os rfl oz)))))) ?_
              refine zts _ rfl (opD_load_one ag22_U12 lz (loc_getN rfl rfl) rfl) ?_
              replace hz_11 := bnd_some hz_11
              obtain ⟨x_27, hx_27, hz_11⟩ := hz_11
              refine zts _ rfl (callT (T := TBx) rfl 1 ht78_U12 (fun s g1 g2 gT h12 h1 h2 hT => ct_of hx_27 h1 hT) rfl rfl rfl ⟨le_of_eq (ls rfl (ls rfl lz)), le_of_eq lz, trivial⟩) ?_
              refine zts _ rfl (opD_load_aggX (qs := [_, _]) ag147_U12 sz147_U12 (ls rfl (ls rfl (ls rfl (ls rfl (os rfl (os rfl oz)))))) (loc_getN rfl rfl) (Nat.le_of_ble_eq_true rfl) rfl) ?_
              refine zts _ rfl (opD_fieldAddr fo148_0_U12 (ls rfl (ls rfl (ls rfl (ls rfl (ls rfl (os rfl (os rfl (os rfl (os rfl oz)))))))))) ?_
              refine zts _ rfl (opD_load_one ag22_U12 lz (loc_getN rfl rfl) rfl) ?_
              replace hz_11 := bnd_some hz_11
              obtain ⟨x_28, hx_28, hz_11⟩ := hz_11
              refine zts _ rfl (opD_pure ht84_U12 (c_hof2 hx_28) ⟨(le_of_eq (ls rfl (ls rfl lz))).trans (agg_le ⟨(Pd.le_refl _), (Pd.le_refl _), trivial⟩), le_of_eq lz, trivial⟩) ?_
              replace hz_11 := bnd_some hz_11
              obtain ⟨x_29, hx_29, hz_11⟩ := hz_11
              refine zts _ rfl (opD_pure ht83_U12 (c_hitems hx_29) ⟨le_of_eq (ls rfl (ls rfl (ls rfl (ls rfl lz)))), le_of_eq lz, trivial⟩) ?_
              refine zts _ rfl (opD_not lz) ?_
              refine .nil ?_
              refine aw_keep [(0, _), (8, _), (9, _), (10, _), (176, _)] ⟨lg (ls rfl (ls rfl (ls rfl (ls rfl (ls rfl (ls rfl (ls rfl (ls rfl (ls rfl (ls rfl oz)))))))))), lg (ls rfl (ls rfl (ls rfl (ls rfl (ls rfl (ls rfl (ls rfl (ls rfl (ls rfl (ls rfl (os rfl oz))))))))))), lg (ls rfl (ls rfl (ls rfl (ls rfl (ls rfl (ls rfl (ls rfl (ls rfl (ls rfl (ls rfl (os rfl (os rfl oz)))))))))))), lg (ls rfl (ls rfl (ls rfl (ls rfl (ls rfl (ls rfl (ls rfl (ls rfl (ls rfl (ls rfl (os rfl (os rfl (os rfl oz))))))))))))), lg lz, trivial⟩ ?_
              refine aw_cond _ (os rfl (os rfl (os rfl (os rfl oz)))) (fun hc => ?_) (fun hc => ?_)
              · skip
                replace hz_11 := ifb_t hz_11 hc
                clear hc
                refine aw_seq ?_
                refine aw_region (by decide) ?_
                refine rts _ rfl (opD_assign (ev_const _ _)) ?_
                refine .nil ?_
                refine aw_keep [(2, _)] ⟨lg lz, trivial⟩ ?_
                refine aw_ret ?_
                obtain rfl := some_of hz_11
                replace hz_9 := ocs_r hz_9
                obtain rfl := some_of hz_9
                replace h0 := ocs_l h0
                refine wk_no ?_
                refine wk_no ?_
                obtain rfl := some_of h0
                exact done_ext (.inr rfl) ((res_one rfl (it_tmp oz)).le (Pd.le_refl _)) (pl_bnd _ _ _)
              · skip
                replace hz_11 := ifb_f hz_11 hc
                clear hc
                refine aw_skip ?_
                refine aw_keep [(0, _), (8, _), (9, _), (10, _)] ⟨lg oz, lg (os rfl oz), lg (os rfl (os rfl oz)), lg (os rfl (os rfl (os rfl oz))), trivial⟩ ?_
                refine aw_region (by decide) ?_
                refine rts _ rfl (opD_move (os rfl (os rfl (os rfl oz)))) ?_
                refine rts _ rfl (opD_add lz (ev_const _ _) rfl) ?_
                refine rts _ rfl (opD_assign lz) ?_
                refine .nil ?_
                obtain rfl := some_of hz_11
                replace hz_9 := ocs_l hz_9
                refine wk_yesN rfl (l := [(0, sl kHAct none none p0), (8, ptr (s.boxes.length + 3) 0), (9, ptr (s.boxes.length + 4) 0), (10, pl (.int .i64 (IntKind.i64.wrap (t_10.1 + 1))))]) (bs' := [⟨137, [pl (.int .u64 x_3.1.Who), pl (.int .u64 x_3.1.No), pl (.int .u64 x_3.1.Space), pl (.int .u64 x_3.1.Gen), pl (.int .u64 x_3.1.Txn)]⟩, ⟨HOT, [mp K1 vz_14.1]⟩, ⟨HOT, [mp K2 vz_14.2.1]⟩, ⟨201, [mref (s.boxes.length + 1), mref (s.boxes.length + 2)]⟩, ⟨147, [sl kItm none none vz_14.2.2.L, sl kB none none vz_14.2.2.There]⟩]) ⟨le_of_eq (eg (ls rfl (ls rfl (ls rfl oz)))), le_of_eq (eg (ls rfl (ls rfl (ls rfl (os rfl oz))))), le_of_eq (eg (ls rfl (ls rfl (ls rfl (os rfl (os rfl oz)))))), le_of_eq (eg lz), trivial⟩ (bnd_cons (sl_b kb_HAct) (bnd_cons (ptr_bnd _ (by first | omega | (simp only [List.length_append, List.length_cons, List.length_nil]; omega))) (bnd_cons (ptr_bnd _ (by first | omega | (simp only [List.length_append, List.length_cons, List.length_nil]; omega))) (bnd_cons (pl_bnd _ _ _) bnd_nil)))) (Nat.le_of_ble_eq_true rfl) (by simp only [na, nb, nc, nd, nf, ng, nh, ni, nj, nk] <;> rfl) (bxle_same (bxle_same (bxle_same (bxle_same (bxle_same bxle_nil))))) rfl (by simp only [na, nb, nc, nd, nf, ng, nh, ni, nj, nk] <;> rfl) (bl_cons (bnd_cons (pl_bnd _ _ _) (bnd_cons (pl_bnd _ _ _) (bnd_cons (pl_bnd _ _ _) (bnd_cons (pl_bnd _ _ _) (bnd_cons (pl_bnd _ _ _) bnd_nil))))) (bl_cons (bnd_cons (mp_bnd _ _ _ _) bnd_nil) (bl_cons (bnd_cons (mp_bnd _ _ _ _) bnd_nil) (bl_cons (bnd_cons (mref_bnd _ (by first | omega | (simp only [List.length_append, List.length_cons, List.length_nil]; omega))) (bnd_cons (mref_bnd _ (by first | omega | (simp only [List.length_append, List.length_cons, List.length_nil]; omega))) bnd_nil)) (bl_cons (bnd_cons (sl_b kb_Itm) (bnd_cons (sl_b kb_B) bnd_nil)) bl_nil))))) ?_
                exact ⟨m_z_11, Nat.lt_succ_self _, (IntKind.i64.wrap (t_10.1 + 1), vz_14.1, vz_14.2.1, vz_14.2.2), ⟨le_of_eq (eg oz), le_of_eq (eg (os rfl oz)), le_of_eq (eg (os rfl (os rfl oz))), le_of_eq (eg (os rfl (os rfl (os rfl oz)))), trivial⟩, rfl, hz_9⟩
          · skip
            replace hz_11 := ifb_f hz_11 hc
            clear hc
            refine aw_exit ?_
            obtain rfl := some_of hz_11
            replace hz_9 := ocs_r hz_9
            refine wk_no ?_
            refine wk_yesN rfl (l := []) (bs' := [⟨137, [pl (.int .u64 x_3.1.Who), pl (.int .u64 x_3.1.No), pl (.int .u64 x_3.1.Space), pl (.int .u64 x_3.1.Gen), pl (.int .u64 x_3.1.Txn)]⟩, ⟨HOT, [mp K1 t_10.2.1]⟩, ⟨HOT, [mp K2 t_10.2.2.1]⟩, ⟨201, [mref (s.boxes.length + 1), mref (s.boxes.length + 2)]⟩, ⟨147, [sl kItm none none t_10.2.2.2.L, sl kB none none t_10.2.2.2.There]⟩]) trivial bnd_nil (Nat.le_of_ble_eq_true rfl) (by simp only [na, nb, nc, nd, nf, ng, nh, ni, nj, nk] <;> rfl) (bxle_same (bxle_same (bxle_same (bxle_same (bxle_same bxle_nil))))) rfl (by simp only [na, nb, nc, nd, nf, ng, nh, ni, nj, nk] <;> rfl) (bl_cons (bnd_cons (pl_bnd _ _ _) (bnd_cons (pl_bnd _ _ _) (bnd_cons (pl_bnd _ _ _) (bnd_cons (pl_bnd _ _ _) (bnd_cons (pl_bnd _ _ _) bnd_nil))))) (bl_cons (bnd_cons (mp_bnd _ _ _ _) bnd_nil) (bl_cons (bnd_cons (mp_bnd _ _ _ _) bnd_nil) (bl_cons (bnd_cons (mref_bnd _ (by first | omega | (simp only [List.length_append, List.length_cons, List.length_nil]; omega))) (bnd_cons (mref_bnd _ (by first | omega | (simp only [List.length_append, List.length_cons, List.length_nil]; omega))) bnd_nil)) (bl_cons (bnd_cons (sl_b kb_Itm) (bnd_cons (sl_b kb_B) bnd_nil)) bl_nil))))) ?_
            exact ⟨(t_10.2.1, t_10.2.2.1, t_10.2.2.2), trivial, rfl, some_of hz_9⟩
        · rintro e st ⟨vz_9, hH, rfl, rfl⟩
          refine aw_keep _ hH ?_
          replace h0 := ocs_r h0
          refine aw_keep [] trivial ?_
          refine aw_seq ?_
          refine aw_region (by decide) ?_
          replace h0 := bnd_some h0
          obtain ⟨x_30, hx_30, h0⟩ := h0
          refine rts _ rfl (opD_call ht85_U12 (c_sure34 hx_30 hst) trivial) ?_
          refine rts _ rfl (opD_assign lz) ?_
          refine .nil ?_
          refine aw_keep [(2, _)] ⟨lg lz, trivial⟩ ?_
          refine aw_ret ?_
          obtain rfl := some_of h0
          exact done_ext (.inr rfl) ((res_one rfl (it_tmp oz)).le (Pd.le_refl _)) (pl_bnd _ _ _)
end Go.Proofs.YtmnhfpcbfdgbcaaDoor.Eng.A
