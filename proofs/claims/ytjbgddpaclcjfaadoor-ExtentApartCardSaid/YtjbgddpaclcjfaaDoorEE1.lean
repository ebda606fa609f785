/- EE1: what functions do, walked; used by the laws of this seat. -/
import Derived.Test.YtjbgddpaclcjfaaDoorEW2
import Derived.Test.YtjbgddpaclcjfaaDoorEngX4
import Derived.Test.YtjbgddpaclcjfaaDoorEngX3
import Derived.Test.YtjbgddpaclcjfaaDoorEX9
import Derived.Test.YtjbgddpaclcjfaaDoorEX5
import Derived.Test.YtjbgddpaclcjfaaDoorEX8
namespace Go.Proofs.YtjbgddpaclcjfaaDoor.Eng.A
set_option linter.unusedVariables false
set_option linter.unusedSimpArgs false
open Go.RowKit Go.Proofs.YtjbgddpaclcjfaaDoor.Plain Go.Proofs.YtjbgddpaclcjfaaDoor.Eng Go.Proofs.YtjbgddpaclcjfaaDoor.Eng.Pk Go.Proofs.YtjbgddpaclcjfaaDoor.Eng.Rd




theorem errV_eql (o : Option Int) (w : World) : (binOp .eql 26 (errV o) .nilIface).run Go.Proofs.Tryd.prog w = .ok (.bool o.isNone) w := by cases o <;> simp [errV, go_sem]
theorem errV_geql (o : Option Int) (w : World) (x : Operand) : (eqGuard .eql 26 x (.const .nilIface) (errV o) .nilIface).run Go.Proofs.Tryd.prog w = .ok () w := by cases o <;> simp [errV, go_sem]
theorem beq_dec (a b : Int) : (a == b) = decide (a = b) := rfl

structure Stx where
  From : Int
  Many : Int
  deriving DecidableEq
instance : Inhabited Stx := ⟨⟨0, 0⟩⟩
def kStx : Kn Stx := ⟨2, fun x => [pl (.int .i64 x.From), pl (.int .i64 x.Many)], fun _ => rfl, fun x p hp => by
  have h : ∀ p ∈ [pl (.int .i64 x.From), pl (.int .i64 x.Many)], Pd.One p := (ones_cons (one_pl rfl) (ones_cons (one_pl rfl) ones_nil))
  exact h p hp⟩
theorem kb_Stx : KB kStx := fun x n m p hp => ((bnd_cons (pl_bnd _ _ _) (bnd_cons (pl_bnd _ _ _) bnd_nil)) : ∀ p ∈ [pl (.int .i64 x.From), pl (.int .i64 x.Many)], p.Bnd n m) p hp

end Go.Proofs.YtjbgddpaclcjfaaDoor.Eng.A

namespace Go.Proofs.YtjbgddpaclcjfaaDoor.Eng.A
set_option linter.unusedVariables false
set_option linter.unusedSimpArgs false
open Go.RowKit Go.Proofs.YtjbgddpaclcjfaaDoor.Plain Go.Proofs.YtjbgddpaclcjfaaDoor.Eng Go.Proofs.YtjbgddpaclcjfaaDoor.Eng.Pk Go.Proofs.YtjbgddpaclcjfaaDoor.Eng.Rd

theorem ag3_W1 : aggT Go.Proofs.Tryd.prog 3 = some false := by kernel_rfl
theorem fo137_0_W1 : fieldOff Go.Proofs.Tryd.prog 137 0 = some 0 := by kernel_rfl
theorem fo137_1_W1 : fieldOff Go.Proofs.Tryd.prog 137 1 = some 1 := by kernel_rfl
theorem sz71_W1 : sizeT Go.Proofs.Tryd.prog 71 = some 2 := by kernel_rfl
theorem ag71_W1 : aggT Go.Proofs.Tryd.prog 71 = some true := by kernel_rfl
theorem sz137_W1 : sizeT Go.Proofs.Tryd.prog 137 = some 2 := by kernel_rfl
theorem zt137_W1 : zeroT Go.Proofs.Tryd.prog 137 = some [.int .i64 0, .int .i64 0] := by kernel_rfl
theorem el137_W1 : elT Go.Proofs.Tryd.prog 137 = some (2, 16) := by kernel_rfl
theorem ag137_W1 : aggT Go.Proofs.Tryd.prog 137 = some true := by kernel_rfl
theorem mixed_W1 : Go.Proofs.Tryd.prog.follows .mixedOrders = true := by kernel_rfl
theorem el3_W1 : elT Go.Proofs.Tryd.prog 3 = some (1, 8) := by kernel_rfl
theorem zt71_W1 : zeroT Go.Proofs.Tryd.prog 71 = some [.int .i64 0, .int .i64 0] := by kernel_rfl
theorem fo71_0_W1 : fieldOff Go.Proofs.Tryd.prog 71 0 = some 0 := by kernel_rfl
theorem fo71_1_W1 : fieldOff Go.Proofs.Tryd.prog 71 1 = some 1 := by kernel_rfl
theorem sz3_W1 : sizeT Go.Proofs.Tryd.prog 3 = some 1 := by kernel_rfl
theorem ht92_W1 : hasText Go.Proofs.Tryd.prog 92 = true := by kernel_rfl
theorem ht37_W1 : hasText Go.Proofs.Tryd.prog 37 = true := by kernel_rfl
theorem zt3_W1 : zeroT Go.Proofs.Tryd.prog 3 = some [.int .i64 0] := by kernel_rfl
theorem ht40_W1 : hasText Go.Proofs.Tryd.prog 40 = true := by kernel_rfl

open Go.Proofs.YtjbgddpaclcjfaaDoor.Eng.Er Go.Proofs.YtjbgddpaclcjfaaDoor.Eng.Er2

theorem eq_Stx (a0 : Int) (a1 : Int) (b0 : Int) (b1 : Int) (w : World) : (binOp .eql 137 (.agg [.int .i64 a0, .int .i64 a1].toArray) (.agg [.int .i64 b0, .int .i64 b1].toArray)).run Go.Proofs.Tryd.prog w = .ok (.bool (decide (a0 = b0) && (decide (a1 = b1) && true))) w ∧ (binOp .neq 137 (.agg [.int .i64 a0, .int .i64 a1].toArray) (.agg [.int .i64 b0, .int .i64 b1].toArray)).run Go.Proofs.Tryd.prog w = .ok (.bool (!(decide (a0 = b0) && (decide (a1 = b1) && true)))) w := by
  have h := eqS (P := Go.Proofs.Tryd.prog) (t := 137) (xs := [.int .i64 a0, .int .i64 a1].toArray) (ys := [.int .i64 b0, .int .i64 b1].toArray) (w := w) Go.Proofs.Tryd.underlying137 (by kernel_rfl) (eqf_cons (by decide) (run_part_one ag3_W1 rfl w) (run_part_one ag3_W1 rfl w) (run_equalIn_int w _ _ _ _ _ _ Go.Proofs.Tryd.underlying3) (eqf_cons (by decide) (run_part_one ag3_W1 rfl w) (run_part_one ag3_W1 rfl w) (run_equalIn_int w _ _ _ _ _ _ Go.Proofs.Tryd.underlying3) eqf_nil))
  simp only [str_beq, beq_dec, Bool.and_assoc, Bool.true_and] at h
  exact h

theorem eq_Stx_g (op : BinOp) (t u : Operand) (xs ys : Array Value) (w : World) : (eqGuard op 137 t u (.agg xs) (.agg ys)).run Go.Proofs.Tryd.prog w = .ok () w := run_eqGuard_agg w op 137 t u _ _ (by kernel_rfl)

def F_xend (p0 : Stx) : Option (Int) :=
  some (IntKind.i64.wrap (p0.From + p0.Many))
set_option maxRecDepth 100000 in
set_option maxHeartbeats 2000000 in
theorem c_xend {p0 : Stx} {R : Int} (h0 : F_xend p0 = some R) : Pure Go.Proofs.Tryd.prog 90 [agg [pl (.int .i64 p0.From), pl (.int .i64 p0.Many)]] (pl (.int .i64 R)) := by
  intro s
  unfold F_xend at h0
  refine ac_of_aw s.boxes.length s.fr.length Go.Proofs.Tryd.func90 rfl (by simp [Go.Proofs.Tryd.ntmps90]) ?_
  refine aw_ext0 ?_
  refine aw_keep [(0, _)] ⟨lg ez, trivial⟩ ?_
  refine aw_seq ?_
  refine aw_region (by decide) ?_
  refine rts _ rfl (boxAN rfl oz (bnd_cons (pl_bnd _ _ _) (bnd_cons (pl_bnd _ _ _) bnd_nil)) (by first | exact List.length_nil | (simp only [List.length_cons, List.length_nil, Nat.zero_add, Nat.reduceAdd] <;> rfl)) (by simp only [na, nb, nc, nd, nf, ng, nh, ni, nj, nk] <;> rfl)) ?_
  refine rts _ rfl (opD_assign (ev_const _ _)) ?_
  refine .nil ?_
  refine aw_keep [(1, _)] ⟨lg (ls rfl lz), trivial⟩ ?_
  refine aw_seq ?_
  refine aw_region (by decide) ?_
  refine rts _ rfl (opD_fieldAddr fo137_0_W1 oz) ?_
  refine rts _ rfl (opD_load_one ag3_W1 lz (loc_getN rfl rfl) rfl) ?_
  refine rts _ rfl (opD_fieldAddr fo137_1_W1 (ls rfl (ls rfl oz))) ?_
  refine rts _ rfl (opD_load_one ag3_W1 lz (loc_getN rfl rfl) rfl) ?_
  refine rts _ rfl (opD_add (ls rfl (ls rfl lz)) lz rfl) ?_
  refine rts _ rfl (opD_assign lz) ?_
  refine .nil ?_
  refine aw_keep [(2, _)] ⟨lg lz, trivial⟩ ?_
  refine aw_ret ?_
  obtain rfl := some_of h0
  exact done_ext (.inr rfl) ((res_one rfl (it_tmp oz)).le (Pd.le_refl _)) (pl_bnd _ _ _)

def F_give16_b0 (p0 : (List Stx)) (t_2 : (List Stx) × Int) : Option (((List Stx) × Int) ⊕ (((List Stx)))) :=
  ifb (decide (t_2.2 < (p0.length : Int))) (ixb p0 t_2.2 fun x_4 => grd (Fits 16 (t_2.1.length + ([x_4] : (List Stx)).length)) <| some (.inl ((t_2.1 ++ ([x_4] : (List Stx))), IntKind.i64.wrap (t_2.2 + 1)))) (some (.inr t_2.1))
def F_give16 (fl : Nat) (p0 : (List Stx)) : Option ((List Stx)) :=
  bnd (lp (F_give16_b0 p0) fl (([] : (List Stx)), 0)) fun z_1 => some z_1
set_option maxRecDepth 100000 in
set_option maxHeartbeats 2000000 in
theorem c_give16 {fl : Nat} {p0 : (List Stx)} {R : (List Stx)} (h0 : F_give16 fl p0 = some R) : Pure Go.Proofs.Tryd.prog 27 [sl kStx none none p0] (sl kStx none none R) := by
  intro s
  unfold F_give16 at h0
  refine ac_of_aw s.boxes.length s.fr.length Go.Proofs.Tryd.func27 rfl (by simp [Go.Proofs.Tryd.ntmps27]) ?_
  refine aw_ext0 ?_
  refine aw_keep [(0, _)] ⟨lg ez, trivial⟩ ?_
  refine aw_seq ?_
  refine aw_region (by decide) ?_
  refine rts _ rfl (opD_assign (ev_const _ _)) ?_
  refine .nil ?_
  refine aw_keep [(0, _)] ⟨lg (ls rfl oz), trivial⟩ ?_
  refine aw_seq ?_
  refine aw_region (by decide) ?_
  refine rts _ rfl (opD_assign (ev_const _ _)) ?_
  refine .nil ?_
  refine aw_keep [(0, _), (3, _)] ⟨lg (ls rfl oz), lg lz, trivial⟩ ?_
  refine aw_seq ?_
  refine aw_seq ?_
  refine aw_region (by decide) ?_
  refine rts _ rfl (opD_assign (ev_const _ _)) ?_
  refine .nil ?_
  refine aw_keep [(0, _), (3, _), (4, _)] ⟨lg (ls rfl oz), lg (ls rfl (os rfl oz)), lg lz, trivial⟩ ?_
  replace h0 := bnd_some h0
  obtain ⟨z_1, hz_1, h0⟩ := h0
  refine aw_mid (fun e st => ∃ v : (List Stx), Holds e [(3, sl kStx none none v)] ∧ st = s.ext [] [] ∧ v = z_1) ?_ ?_
  · skip
    refine aw_wkN rfl 0 0 rfl rfl ?_
    refine aw_block ?_
    refine aw_fr ⟨137, 2, 0⟩ ?_
    refine aw_loop (fun n e st => ∃ v : (List Stx) × Int, Holds e [(0, sl kStx none none p0), (3, sl kStx (some (s.fr.length + 0)) none v.1), (4, pl (.int .i64 v.2))] ∧ st = s.ext [] [⟨137, 2, v.1.length⟩] ∧ lp (F_give16_b0 p0) n v = some z_1) fl ⟨(([] : (List Stx)), 0), ⟨le_of_eq (eg oz), (le_of_eq (eg (os rfl oz))).trans (nil_own rfl), le_of_eq (eg (os rfl (os rfl oz))), trivial⟩, rfl, hz_1⟩ ?_
    rintro n e st ⟨t_2, hH, rfl, hz_1⟩
    replace hz_1 := lp_some hz_1
    obtain ⟨m_z_3, z_3, rfl, hz_3, hz_1⟩ := hz_1
    unfold F_give16_b0 at hz_3
    refine aw_keep _ hH ?_
    refine aw_wkN rfl 0 1 rfl rfl ?_
    refine aw_seq ?_
    refine aw_seq ?_
    refine aw_region (by decide) ?_
    refine rts _ rfl (opD_move (os rfl (os rfl oz))) ?_
    refine rts _ rfl (opD_move (ls rfl oz)) ?_
    refine rts _ rfl (opD_len_sl Go.Proofs.Tryd.underlying47 lz) ?_
    refine rts _ rfl (opD_lss (ls rfl (ls rfl lz)) lz) ?_
    refine .nil ?_
    refine aw_keep [(0, _), (3, _), (4, _), (8, _)] ⟨lg (ls rfl (ls rfl (ls rfl (ls rfl oz)))), lg (ls rfl (ls rfl (ls rfl (ls rfl (os rfl oz))))), lg (ls rfl (ls rfl (ls rfl (ls rfl (os rfl (os rfl oz)))))), lg lz, trivial⟩ ?_
    refine aw_cond _ (os rfl (os rfl (os rfl oz))) (fun hc => ?_) (fun hc => ?_)
    · skip
      replace hz_3 := ifb_t hz_3 hc
      clear hc
      refine aw_skip ?_
      refine aw_keep [(0, _), (3, _), (4, _)] ⟨lg oz, lg (os rfl oz), lg (os rfl (os rfl oz)), trivial⟩ ?_
      refine aw_seq ?_
      refine aw_block ?_
      refine aw_region (by decide) ?_
      refine rts _ rfl (opD_move (os rfl oz)) ?_
      refine rts _ rfl (opD_move (ls rfl oz)) ?_
      refine rts _ rfl (opD_move (ls rfl (ls rfl (os rfl (os rfl oz))))) ?_
      replace hz_3 := ixb_some hz_3
      obtain ⟨x_4, hx_4, hbx_4, hz_3⟩ := hz_3
      refine rts _ rfl (opD_indexAddr_sl (i := t_2.2.toNat) Go.Proofs.Tryd.underlying47 sz71_W1 (ls rfl lz) lz hbx_4.2.2 hbx_4.2.1) ?_
      refine rts _ rfl (opD_load_el_aggX (qs := [_, _]) ag71_W1 sz71_W1 lz hx_4 (Nat.le_of_ble_eq_true rfl) rfl) ?_
      refine rts _ rfl (opD_buildOwn (k := kStx) ([x_4] : (List Stx)) Go.Proofs.Tryd.underlying48 sz137_W1 zt137_W1 (by decide) rfl (parts_cons (cellsA lz) parts_nil) rfl rfl (by first | exact List.length_nil | (simp only [List.length_cons, List.length_nil, Nat.zero_add, Nat.reduceAdd] <;> rfl)) (by simp only [na, nb, nc, nd, nf, ng, nh, ni, nj, nk] <;> rfl)) ?_
      replace hz_3 := grd_some hz_3
      obtain ⟨hg_6, hz_3⟩ := hz_3
      refine rts _ rfl (opD_appendX Go.Proofs.Tryd.underlying48 el137_W1 (ls rfl (ls rfl (ls rfl (ls rfl (ls rfl lz))))) lz rfl hg_6.1 hg_6.2 rfl (by simp only [na, nb, nc, nd, nf, ng, nh, ni, nj, nk] <;> rfl)) ?_
      refine rts _ rfl (opD_assign lz) ?_
      refine .nil ?_
      refine aw_keep [(0, _), (3, _), (4, _)] ⟨lg (ls rfl (ls rfl (ls rfl (ls rfl (ls rfl (ls rfl (ls rfl (ls rfl oz)))))))), lg lz, lg (ls rfl (ls rfl (ls rfl (ls rfl (ls rfl (ls rfl (ls rfl (ls rfl (os rfl (os rfl oz)))))))))), trivial⟩ ?_
      refine aw_region (by decide) ?_
      refine rts _ rfl (opD_move (os rfl (os rfl oz))) ?_
      refine rts _ rfl (opD_add lz (ev_const _ _) rfl) ?_
      refine rts _ rfl (opD_assign lz) ?_
      refine .nil ?_
      obtain rfl := some_of hz_3
      replace hz_1 := ocs_l hz_1
      refine wk_yesN rfl (l := [(0, sl kStx none none p0), (3, sl kStx (some (s.fr.length + 0)) none (t_2.1 ++ ([x_4] : (List Stx)))), (4, pl (.int .i64 (IntKind.i64.wrap (t_2.2 + 1))))]) (bs' := []) ⟨le_of_eq (eg (ls rfl (ls rfl (ls rfl oz)))), le_of_eq (eg (ls rfl (ls rfl (ls rfl (os rfl oz))))), le_of_eq (eg lz), trivial⟩ (bnd_cons (sl_b kb_Stx) (bnd_cons (sl_ob kb_Stx (by first | omega | (simp only [List.length_append, List.length_cons, List.length_nil, ext_fr_length, upd_fr_length]; omega))) (bnd_cons (pl_bnd _ _ _) bnd_nil))) (Nat.le_of_ble_eq_true rfl) (by simp only [na, nb, nc, nd, nf, ng, nh, ni, nj, nk] <;> rfl) bxle_nil rfl (by simp only [na, nb, nc, nd, nf, ng, nh, ni, nj, nk] <;> rfl) bl_nil ?_
      exact ⟨m_z_3, Nat.lt_succ_self _, ((t_2.1 ++ ([x_4] : (List Stx))), IntKind.i64.wrap (t_2.2 + 1)), ⟨le_of_eq (eg oz), le_of_eq (eg (os rfl oz)), le_of_eq (eg (os rfl (os rfl oz))), trivial⟩, rfl, hz_1⟩
    · skip
      replace hz_3 := ifb_f hz_3 hc
      clear hc
      refine aw_exit ?_
      obtain rfl := some_of hz_3
      replace hz_1 := ocs_r hz_1
      refine wk_no ?_
      refine wk_yesN rfl (l := [(3, sl kStx none none t_2.1)]) (bs' := []) ⟨(le_of_eq (eg (os rfl oz))).trans (sl_le _ (some (s.fr.length + 0)) none _), trivial⟩ (bnd_cons (sl_b kb_Stx) bnd_nil) (Nat.le_of_ble_eq_true rfl) (by simp only [na, nb, nc, nd, nf, ng, nh, ni, nj, nk] <;> rfl) bxle_nil rfl (by simp only [na, nb, nc, nd, nf, ng, nh, ni, nj, nk] <;> rfl) bl_nil ?_
      exact ⟨t_2.1, ⟨le_of_eq (eg oz), trivial⟩, rfl, some_of hz_1⟩
  · rintro e st ⟨vz_1, hH, rfl, rfl⟩
    refine aw_keep _ hH ?_
    refine aw_keep [(3, _)] ⟨lg oz, trivial⟩ ?_
    refine aw_seq ?_
    refine aw_region (by decide) ?_
    refine rts _ rfl (opD_move oz) ?_
    refine rts _ rfl (opD_assign lz) ?_
    refine .nil ?_
    refine aw_keep [(2, _)] ⟨lg lz, trivial⟩ ?_
    refine aw_ret ?_
    obtain rfl := some_of h0
    exact done_ext (.inr rfl) ((res_one rfl (it_tmp oz)).le (Pd.le_refl _)) (sl_b kb_Stx)

def F_are16_b0 (p0 : (List Stx)) (p1 : (List Stx)) (t_2 : Int) : Option ((Int) ⊕ ((Bool) ⊕ (Unit))) :=
  ifb (decide (t_2 < (p0.length : Int))) (ixb p0 t_2 fun x_4 => ixb p1 t_2 fun x_5 => ifb (!(decide (x_4.From = x_5.From) && (decide (x_4.Many = x_5.Many) && true))) (some (.inr (.inl false))) (some (.inl (IntKind.i64.wrap (t_2 + 1))))) (some (.inr (.inr ())))
def F_are16 (fl : Nat) (p0 : (List Stx)) (p1 : (List Stx)) : Option (Bool) :=
  ifb (decide ((p0.length : Int) ≠ (p1.length : Int))) (some false) (bnd (lp (F_are16_b0 p0 p1) fl 0) fun z_1 => ocs z_1 (fun qz_1_0 => some qz_1_0) fun z_1_0 => some true)
set_option maxRecDepth 100000 in
set_option maxHeartbeats 2000000 in
theorem c_are16 {fl : Nat} {p0 : (List Stx)} {p1 : (List Stx)} {R : Bool} (h0 : F_are16 fl p0 p1 = some R) : Pure Go.Proofs.Tryd.prog 41 [sl kStx none none p0, sl kStx none none p1] (pl (.bool R)) := by
  intro s
  unfold F_are16 at h0
  refine ac_of_aw s.boxes.length s.fr.length Go.Proofs.Tryd.func41 rfl (by simp [Go.Proofs.Tryd.ntmps41]) ?_
  refine aw_ext0 ?_
  refine aw_keep [(0, _), (1, _)] ⟨lg ez, lg (es ez), trivial⟩ ?_
  refine aw_seq ?_
  refine aw_region (by decide) ?_
  refine rts _ rfl (opD_assign (ev_const _ _)) ?_
  refine .nil ?_
  refine aw_keep [(0, _), (1, _)] ⟨lg (ls rfl oz), lg (ls rfl (os rfl oz)), trivial⟩ ?_
  refine aw_seq ?_
  refine aw_seq ?_
  refine aw_region (by decide) ?_
  refine rts _ rfl (opD_move oz) ?_
  refine rts _ rfl (opD_len_sl Go.Proofs.Tryd.underlying48 lz) ?_
  refine rts _ rfl (opD_move (ls rfl (ls rfl (os rfl oz)))) ?_
  refine rts _ rfl (opD_len_sl Go.Proofs.Tryd.underlying47 lz) ?_
  refine rts _ rfl (opD_neq (ls rfl (ls rfl lz)) lz) ?_
  refine .nil ?_
  refine aw_keep [(0, _), (1, _), (10, _)] ⟨lg (ls rfl (ls rfl (ls rfl (ls rfl (ls rfl oz))))), lg (ls rfl (ls rfl (ls rfl (ls rfl (ls rfl (os rfl oz)))))), lg lz, trivial⟩ ?_
  refine aw_cond _ (os rfl (os rfl oz)) (fun hc => ?_) (fun hc => ?_)
  · skip
    replace h0 := ifb_t h0 hc
    clear hc
    refine aw_seq ?_
    refine aw_region (by decide) ?_
    refine rts _ rfl (opD_assign (ev_const _ _)) ?_
    refine .nil ?_
    refine aw_keep [(4, _)] ⟨lg lz, trivial⟩ ?_
    refine aw_ret ?_
    obtain rfl := some_of h0
    exact done_ext (.inr rfl) ((res_one rfl (it_tmp oz)).le (Pd.le_refl _)) (pl_bnd _ _ _)
  · skip
    replace h0 := ifb_f h0 hc
    clear hc
    refine aw_skip ?_
    refine aw_keep [(0, _), (1, _)] ⟨lg oz, lg (os rfl oz), trivial⟩ ?_
    refine aw_seq ?_
    refine aw_seq ?_
    refine aw_region (by decide) ?_
    refine rts _ rfl (opD_assign (ev_const _ _)) ?_
    refine .nil ?_
    refine aw_keep [(0, _), (1, _), (5, _)] ⟨lg (ls rfl oz), lg (ls rfl (os rfl oz)), lg lz, trivial⟩ ?_
    replace h0 := bnd_some h0
    obtain ⟨z_1, hz_1, h0⟩ := h0
    refine aw_mid (fun e st => ∃ v : Unit, Holds e [] ∧ st = s.ext [] [] ∧ (.inr v) = z_1) ?_ ?_
    · skip
      refine aw_wkN rfl 0 0 rfl rfl ?_
      refine aw_block ?_
      refine aw_loop (fun n e st => ∃ v : Int, Holds e [(0, sl kStx none none p0), (1, sl kStx none none p1), (5, pl (.int .i64 v))] ∧ st = s.ext [] [] ∧ lp (F_are16_b0 p0 p1) n v = some z_1) fl ⟨0, ⟨le_of_eq (eg oz), le_of_eq (eg (os rfl oz)), le_of_eq (eg (os rfl (os rfl oz))), trivial⟩, rfl, hz_1⟩ ?_
      rintro n e st ⟨t_2, hH, rfl, hz_1⟩
      replace hz_1 := lp_some hz_1
      obtain ⟨m_z_3, z_3, rfl, hz_3, hz_1⟩ := hz_1
      unfold F_are16_b0 at hz_3
      refine aw_keep _ hH ?_
      refine aw_wkN rfl 0 0 rfl rfl ?_
      refine aw_seq ?_
      refine aw_seq ?_
      refine aw_region (by decide) ?_
      refine rts _ rfl (opD_move (os rfl (os rfl oz))) ?_
      refine rts _ rfl (opD_move (ls rfl oz)) ?_
      refine rts _ rfl (opD_len_sl Go.Proofs.Tryd.underlying48 lz) ?_
      refine rts _ rfl (opD_lss (ls rfl (ls rfl lz)) lz) ?_
      refine .nil ?_
      refine aw_keep [(0, _), (1, _), (5, _), (14, _)] ⟨lg (ls rfl (ls rfl (ls rfl (ls rfl oz)))), lg (ls rfl (ls rfl (ls rfl (ls rfl (os rfl oz))))), lg (ls rfl (ls rfl (ls rfl (ls rfl (os rfl (os rfl oz)))))), lg lz, trivial⟩ ?_
      refine aw_cond _ (os rfl (os rfl (os rfl oz))) (fun hc => ?_) (fun hc => ?_)
      · skip
        replace hz_3 := ifb_t hz_3 hc
        clear hc
        refine aw_skip ?_
        refine aw_keep [(0, _), (1, _), (5, _)] ⟨lg oz, lg (os rfl oz), lg (os rfl (os rfl oz)), trivial⟩ ?_
        refine aw_seq ?_
        refine aw_block ?_
        refine aw_seq ?_
        refine aw_flat mixed_W1 (by decide +kernel) ?_
        refine zts _ rfl (opD_move oz) ?_
        refine zts _ rfl (opD_move (ls rfl (os rfl (os rfl oz)))) ?_
        replace hz_3 := ixb_some hz_3
        obtain ⟨x_4, hx_4, hbx_4, hz_3⟩ := hz_3
        refine zts _ rfl (opD_indexAddr_sl (i := t_2.toNat) Go.Proofs.Tryd.underlying48 sz137_W1 (ls rfl lz) lz hbx_4.2.2 hbx_4.2.1) ?_
        refine zts _ rfl (opD_load_el_aggX (qs := [_, _]) ag137_W1 sz137_W1 lz hx_4 (Nat.le_of_ble_eq_true rfl) rfl) ?_
        refine zts _ rfl (opD_move (ls rfl (ls rfl (ls rfl (ls rfl (os rfl oz)))))) ?_
        refine zts _ rfl (opD_move (ls rfl (ls rfl (ls rfl (ls rfl (ls rfl (os rfl (os rfl oz)))))))) ?_
        replace hz_3 := ixb_some hz_3
        obtain ⟨x_5, hx_5, hbx_5, hz_3⟩ := hz_3
        refine zts _ rfl (opD_indexAddr_sl (i := t_2.toNat) Go.Proofs.Tryd.underlying47 sz71_W1 (ls rfl lz) lz hbx_5.2.2 hbx_5.2.1) ?_
        refine zts _ rfl (opD_load_el_aggX (qs := [_, _]) ag71_W1 sz71_W1 lz hx_5 (Nat.le_of_ble_eq_true rfl) rfl) ?_
        refine zts _ rfl (opD_binA [.int .i64 x_4.From, .int .i64 x_4.Many] [.int .i64 x_5.From, .int .i64 x_5.Many] (ls rfl (ls rfl (ls rfl (ls rfl lz)))) lz (fun w => (eq_Stx_g _ _ _ _ _ w)) (fun w => (eq_Stx _ _ _ _ w).2)) ?_
        refine .nil ?_
        refine aw_keep [(0, _), (1, _), (5, _), (25, _)] ⟨lg (ls rfl (ls rfl (ls rfl (ls rfl (ls rfl (ls rfl (ls rfl (ls rfl (ls rfl oz))))))))), lg (ls rfl (ls rfl (ls rfl (ls rfl (ls rfl (ls rfl (ls rfl (ls rfl (ls rfl (os rfl oz)))))))))), lg (ls rfl (ls rfl (ls rfl (ls rfl (ls rfl (ls rfl (ls rfl (ls rfl (ls rfl (os rfl (os rfl oz))))))))))), lg lz, trivial⟩ ?_
        refine aw_cond _ (os rfl (os rfl (os rfl oz))) (fun hc => ?_) (fun hc => ?_)
        · skip
          replace hz_3 := ifb_t hz_3 hc
          clear hc
          refine aw_seq ?_
          refine aw_region (by decide) ?_
          refine rts _ rfl (opD_assign (ev_const _ _)) ?_
          refine .nil ?_
          refine aw_keep [(4, _)] ⟨lg lz, trivial⟩ ?_
          refine aw_ret ?_
          obtain rfl := some_of hz_3
          replace hz_1 := ocs_r hz_1
          obtain rfl := some_of hz_1
          replace h0 := ocs_l h0
          refine wk_no ?_
          refine wk_no ?_
          obtain rfl := some_of h0
          exact done_ext (.inr rfl) ((res_one rfl (it_tmp oz)).le (Pd.le_refl _)) (pl_bnd _ _ _)
        · skip
          replace hz_3 := ifb_f hz_3 hc
          clear hc
          refine aw_skip ?_
          refine aw_keep [(0, _), (1, _), (5, _)] ⟨lg oz, lg (os rfl oz), lg (os rfl (os rfl oz)), trivial⟩ ?_
          refine aw_region (by decide) ?_
          refine rts _ rfl (opD_move (os rfl (os rfl oz))) ?_
          refine rts _ rfl (opD_add lz (ev_const _ _) rfl) ?_
          refine rts _ rfl (opD_assign lz) ?_
          refine .nil ?_
          obtain rfl := some_of hz_3
          replace hz_1 := ocs_l hz_1
          refine wk_yesN rfl (l := [(0, sl kStx none none p0), (1, sl kStx none none p1), (5, pl (.int .i64 (IntKind.i64.wrap (t_2 + 1))))]) (bs' := []) ⟨le_of_eq (eg (ls rfl (ls rfl (ls rfl oz)))), le_of_eq (eg (ls rfl (ls rfl (ls rfl (os rfl oz))))), le_of_eq (eg lz), trivial⟩ (bnd_cons (sl_b kb_Stx) (bnd_cons (sl_b kb_Stx) (bnd_cons (pl_bnd _ _ _) bnd_nil))) (Nat.le_of_ble_eq_true rfl) (by simp only [na, nb, nc, nd, nf, ng, nh, ni, nj, nk] <;> rfl) bxle_nil rfl (by simp only [na, nb, nc, nd, nf, ng, nh, ni, nj, nk] <;> rfl) bl_nil ?_
          exact ⟨m_z_3, Nat.lt_succ_self _, IntKind.i64.wrap (t_2 + 1), ⟨le_of_eq (eg oz), le_of_eq (eg (os rfl oz)), le_of_eq (eg (os rfl (os rfl oz))), trivial⟩, rfl, hz_1⟩
      · skip
        replace hz_3 := ifb_f hz_3 hc
        clear hc
        refine aw_exit ?_
        obtain rfl := some_of hz_3
        replace hz_1 := ocs_r hz_1
        refine wk_no ?_
        refine wk_yesN rfl (l := []) (bs' := []) trivial bnd_nil (Nat.le_of_ble_eq_true rfl) (by simp only [na, nb, nc, nd, nf, ng, nh, ni, nj, nk] <;> rfl) bxle_nil rfl (by simp only [na, nb, nc, nd, nf, ng, nh, ni, nj, nk] <;> rfl) bl_nil ?_
        exact ⟨(), trivial, rfl, some_of hz_1⟩
    · rintro e st ⟨vz_1, hH, rfl, rfl⟩
      refine aw_keep _ hH ?_
      replace h0 := ocs_r h0
      refine aw_keep [] trivial ?_
      refine aw_seq ?_
      refine aw_region (by decide) ?_
      refine rts _ rfl (opD_assign (ev_const _ _)) ?_
      refine .nil ?_
      refine aw_keep [(4, _)] ⟨lg lz, trivial⟩ ?_
      refine aw_ret ?_
      obtain rfl := some_of h0
      exact done_ext (.inr rfl) ((res_one rfl (it_tmp oz)).le (Pd.le_refl _)) (pl_bnd _ _ _)

def F_r16marks_b1 (p1 : Int) (x_5 : Stx) (t_6 : Int × (List Int)) : Option ((Int × (List Int)) ⊕ (((List Int) × Bool) ⊕ ((List Int)))) :=
  ifb (decide (t_6.1 < x_5.Many)) (grd (((decide (p1 ≤ (IntKind.i64.wrap (x_5.From + t_6.1)))) == false) = true → Below (IntKind.i64.wrap (x_5.From + t_6.1)) ((List.replicate p1.toNat (0 : Int)).length)) <| grd (((decide (p1 ≤ (IntKind.i64.wrap (x_5.From + t_6.1)))) == false) = true → Below (((IntKind.i64.wrap (x_5.From + t_6.1)).toNat : Nat) : Int) t_6.2.length) <| ifb ((decide (p1 ≤ (IntKind.i64.wrap (x_5.From + t_6.1)))) || (decide (0 < (t_6.2.getD ((IntKind.i64.wrap (x_5.From + t_6.1)).toNat) default)))) (some (.inr (.inl ([], false)))) (grd (Below (IntKind.i64.wrap (x_5.From + t_6.1)) ((List.replicate p1.toNat (0 : Int)).length)) <| grd (Below (((IntKind.i64.wrap (x_5.From + t_6.1)).toNat : Nat) : Int) t_6.2.length) <| some (.inl (IntKind.i64.wrap (t_6.1 + 1), (t_6.2.set ((IntKind.i64.wrap (x_5.From + t_6.1)).toNat) 1))))) (some (.inr (.inr t_6.2)))
def F_r16marks_b0 (fl : Nat) (p0 : (List Stx)) (p1 : Int) (t_2 : Int × (List Int)) : Option ((Int × (List Int)) ⊕ (((List Int) × Bool) ⊕ ((List Int)))) :=
  ifb (decide (t_2.1 < (p0.length : Int))) (bnd (ixb p0 t_2.1 fun x_5 => ifb ((((decide (x_5.From < 0)) || (decide (p1 ≤ x_5.From))) || (decide (x_5.Many < 1))) || (decide (p1 < x_5.Many))) (some (.inl ([], false))) (lp (F_r16marks_b1 p1 x_5) fl (0, t_2.2))) fun z_4 => ocs z_4 (fun qz_4_0 => some (.inr (.inl qz_4_0))) fun z_4_0 => some (.inl (IntKind.i64.wrap (t_2.1 + 1), z_4_0))) (some (.inr (.inr t_2.2)))
def F_r16marks (fl : Nat) (p0 : (List Stx)) (p1 : Int) : Option ((List Int) × Bool) :=
  ifb ((decide (p1 < 1)) || (decide (1024 < p1))) (some ([], false)) (grd (0 ≤ p1 ∧ p1.toNat * 8 ≤ 140737488355328 ∧ p1.toNat ≤ 140737488355328) <| bnd (lp (F_r16marks_b0 fl p0 p1) fl (0, (List.replicate p1.toNat (0 : Int)))) fun z_1 => ocs z_1 (fun qz_1_0 => some qz_1_0) fun z_1_0 => grd ((List.replicate p1.toNat (0 : Int)).length = z_1_0.length) <| some (z_1_0, true))
set_option maxRecDepth 100000 in
set_option maxHeartbeats 2000000 in
theorem c_r16marks {fl : Nat} {p0 : (List Stx)} {p1 : Int} {R : (List Int) × Bool} (h0 : F_r16marks fl p0 p1 = some R) : Pure Go.Proofs.Tryd.prog 92 [sl kStx none none p0, pl (.int .i64 p1)] (tup [sl (kI .i64) none none R.1, pl (.bool R.2)]) := by
  intro s
  unfold F_r16marks at h0
  refine ac_of_aw s.boxes.length s.fr.length Go.Proofs.Tryd.func92 rfl (by simp [Go.Proofs.Tryd.ntmps92]) ?_
  refine aw_ext0 ?_
  refine aw_keep [(0, _), (1, _)] ⟨lg ez, lg (es ez), trivial⟩ ?_
  refine aw_seq ?_
  refine aw_region (by decide) ?_
  refine rts _ rfl (opD_assign (ev_const _ _)) ?_
  refine rts _ rfl (opD_assign (ev_const _ _)) ?_
  refine .nil ?_
  refine aw_keep [(0, _), (1, _)] ⟨lg (ls rfl (ls rfl oz)), lg (ls rfl (ls rfl (os rfl oz))), trivial⟩ ?_
  refine aw_seq ?_
  refine aw_seq ?_
  refine aw_region (by decide) ?_
  refine rts _ rfl (opD_move (os rfl oz)) ?_
  refine rts _ rfl (opD_lss lz (ev_const _ _)) ?_
  refine rts _ rfl (opD_move lz) ?_
  refine rtg _ rfl lz (fun hg1_3_1 => opD_move (ls rfl (ls rfl (ls rfl (os rfl oz))))) ?_
  refine rtg _ rfl (ls rfl lz) (fun hg1_4_2 => opD_gtr (lz.trans (pif_pos hg1_4_2)) (ev_const _ _)) ?_
  refine rts _ rfl (opD_or (ls rfl (ls rfl lz)) lz) ?_
  refine .nil ?_
  refine aw_keep [(0, _), (1, _), (15, _)] ⟨lg (ls rfl (ls rfl (ls rfl (ls rfl (ls rfl (ls rfl oz)))))), lg (ls rfl (ls rfl (ls rfl (ls rfl (ls rfl (ls rfl (os rfl oz))))))), lg lz, trivial⟩ ?_
  refine aw_cond _ (os rfl (os rfl oz)) (fun hc => ?_) (fun hc => ?_)
  · skip
    replace h0 := ifb_t h0 hc
    clear hc
    refine aw_seq ?_
    refine aw_region (by decide) ?_
    refine rts _ rfl (opD_assign (ev_const _ _)) ?_
    refine rts _ rfl (opD_assign (ev_const _ _)) ?_
    refine .nil ?_
    refine aw_keep [(4, _), (5, _)] ⟨lg (ls rfl lz), lg lz, trivial⟩ ?_
    refine aw_ret ?_
    obtain rfl := some_of h0
    exact done_ext (.inr rfl) ((res_list (rs := [_, _]) (ps := [_, _]) rfl rfl ⟨it_tmp oz, it_tmp (os rfl oz), trivial⟩).le (tup_le ⟨(le_nil rfl), (Pd.le_refl _), trivial⟩)) (tup_bnd (bnd_cons (sl_b (kb_I _)) (bnd_cons (pl_bnd _ _ _) bnd_nil)))
  · skip
    replace h0 := ifb_f h0 hc
    clear hc
    refine aw_skip ?_
    refine aw_keep [(0, _), (1, _)] ⟨lg oz, lg (os rfl oz), trivial⟩ ?_
    refine aw_seq ?_
    refine aw_region (by decide) ?_
    refine rts _ rfl (opD_move (os rfl oz)) ?_
    replace h0 := grd_some h0
    obtain ⟨hg_3, h0⟩ := h0
    refine rts _ rfl (makeHN rfl (k := kI .i64) (x0 := 0) (n := p1.toNat) (z := .int .i64 0) Go.Proofs.Tryd.underlying36 el3_W1 (by kernel_rfl) rfl rfl rfl lz lz (by have := hg_3.1; omega) (by have := hg_3.1; omega) hg_3.2.1 hg_3.2.2 (by first | exact List.length_nil | (simp only [List.length_cons, List.length_nil, Nat.zero_add, Nat.reduceAdd] <;> rfl)) (by simp only [na, nb, nc, nd, nf, ng, nh, ni, nj, nk] <;> rfl)) ?_
    refine rts _ rfl (opD_assign lz) ?_
    refine .nil ?_
    refine aw_keep [(0, _), (1, _), (6, _)] ⟨lg (ls rfl (ls rfl (ls rfl oz))), lg (ls rfl (ls rfl (ls rfl (os rfl oz)))), lg lz, trivial⟩ ?_
    refine aw_seq ?_
    refine aw_seq ?_
    refine aw_region (by decide) ?_
    refine rts _ rfl (opD_assign (ev_const _ _)) ?_
    refine .nil ?_
    refine aw_keep [(0, _), (1, _), (6, _), (7, _)] ⟨lg (ls rfl oz), lg (ls rfl (os rfl oz)), lg (ls rfl (os rfl (os rfl oz))), lg lz, trivial⟩ ?_
    replace h0 := bnd_some h0
    obtain ⟨z_1, hz_1, h0⟩ := h0
    refine aw_mid (fun e st => ∃ v : (List Int), Holds e [(6, hsl (s.boxes.length + 0) 2 0 ((List.replicate p1.toNat (0 : Int)).length) (kI .i64).sz)] ∧ st = s.ext [⟨(hot 3 2), (flat (kI .i64) v)⟩] [] ∧ (.inr v) = z_1) ?_ ?_
    · skip
      refine aw_wkN rfl 1 0 rfl rfl ?_
      refine aw_block ?_
      refine aw_loop (fun n e st => ∃ v : Int × (List Int), Holds e [(0, sl kStx none none p0), (1, pl (.int .i64 p1)), (6, hsl (s.boxes.length + 0) 2 0 ((List.replicate p1.toNat (0 : Int)).length) (kI .i64).sz), (7, pl (.int .i64 v.1))] ∧ st = s.ext [⟨(hot 3 2), (flat (kI .i64) v.2)⟩] [] ∧ lp (F_r16marks_b0 fl p0 p1) n v = some z_1) fl ⟨(0, (List.replicate p1.toNat (0 : Int))), ⟨le_of_eq (eg oz), le_of_eq (eg (os rfl oz)), le_of_eq (eg (os rfl (os rfl oz))), le_of_eq (eg (os rfl (os rfl (os rfl oz)))), trivial⟩, rfl, hz_1⟩ ?_
      rintro n e st ⟨t_2, hH, rfl, hz_1⟩
      replace hz_1 := lp_some hz_1
      obtain ⟨m_z_3, z_3, rfl, hz_3, hz_1⟩ := hz_1
      unfold F_r16marks_b0 at hz_3
      refine aw_keep _ hH ?_
      refine aw_wkN rfl 1 0 rfl rfl ?_
      refine aw_seq ?_
      refine aw_seq ?_
      refine aw_region (by decide) ?_
      refine rts _ rfl (opD_move (os rfl (os rfl (os rfl oz)))) ?_
      refine rts _ rfl (opD_move (ls rfl oz)) ?_
      refine rts _ rfl (opD_len_sl Go.Proofs.Tryd.underlying47 lz) ?_
      refine rts _ rfl (opD_lss (ls rfl (ls rfl lz)) lz) ?_
      refine .nil ?_
      refine aw_keep [(0, _), (1, _), (6, _), (7, _), (21, _)] ⟨lg (ls rfl (ls rfl (ls rfl (ls rfl oz)))), lg (ls rfl (ls rfl (ls rfl (ls rfl (os rfl oz))))), lg (ls rfl (ls rfl (ls rfl (ls rfl (os rfl (os rfl oz)))))), lg (ls rfl (ls rfl (ls rfl (ls rfl (os rfl (os rfl (os rfl oz))))))), lg lz, trivial⟩ ?_
      refine aw_cond _ (os rfl (os rfl (os rfl (os rfl oz)))) (fun hc => ?_) (fun hc => ?_)
      · skip
        replace hz_3 := ifb_t hz_3 hc
        clear hc
        refine aw_skip ?_
        refine aw_keep [(0, _), (1, _), (6, _), (7, _)] ⟨lg oz, lg (os rfl oz), lg (os rfl (os rfl oz)), lg (os rfl (os rfl (os rfl oz))), trivial⟩ ?_
        refine aw_seq ?_
        replace hz_3 := bnd_some hz_3
        obtain ⟨z_4, hz_4, hz_3⟩ := hz_3
        refine aw_mid (fun e st => ∃ v : (List Int), Holds e [(0, sl kStx none none p0), (1, pl (.int .i64 p1)), (6, hsl (s.boxes.length + 0) 2 0 ((List.replicate p1.toNat (0 : Int)).length) (kI .i64).sz), (7, pl (.int .i64 t_2.1))] ∧ st = s.ext [⟨(hot 3 2), (flat (kI .i64) v)⟩] [] ∧ (.inr v) = z_4) ?_ ?_
        · skip
          refine aw_wkN rfl 1 0 rfl rfl ?_
          refine aw_block ?_
          refine aw_seq ?_
          refine aw_region (by decide) ?_
          refine rts _ rfl (opD_move oz) ?_
          refine rts _ rfl (opD_move (ls rfl (os rfl (os rfl (os rfl oz))))) ?_
          replace hz_4 := ixb_some hz_4
          obtain ⟨x_5, hx_5, hbx_5, hz_4⟩ := hz_4
          refine rts _ rfl (opD_indexAddr_sl (i := t_2.1.toNat) Go.Proofs.Tryd.underlying47 sz71_W1 (ls rfl lz) lz hbx_5.2.2 hbx_5.2.1) ?_
          refine rts _ rfl (opD_load_el_aggX (qs := [_, _]) ag71_W1 sz71_W1 lz hx_5 (Nat.le_of_ble_eq_true rfl) rfl) ?_
          refine rts _ rfl (allocN rfl zt71_W1 (by first | exact List.length_nil | (simp only [List.length_cons, List.length_nil, Nat.zero_add, Nat.reduceAdd] <;> rfl)) (by simp only [na, nb, nc, nd, nf, ng, nh, ni, nj, nk] <;> rfl)) ?_
          refine rts _ rfl (storeAN rfl sz71_W1 lz (ls rfl lz) (ones_cons (one_pl rfl) (ones_cons (one_pl rfl) ones_nil)) rfl rfl (Nat.le_of_ble_eq_true rfl) (List.cons_ne_nil _ _) (bnd_cons (pl_bnd _ _ _) (bnd_cons (pl_bnd _ _ _) bnd_nil)) (by simp only [na, nb, nc, nd, nf, ng, nh, ni, nj, nk] <;> rfl) (by simp only [na, nb, nc, nd, nf, ng, nh, ni, nj, nk] <;> rfl)) ?_
          refine .nil ?_
          refine aw_keep [(0, _), (1, _), (6, _), (7, _), (8, _)] ⟨lg (lx (ls rfl (ls rfl (ls rfl (ls rfl (ls rfl oz)))))), lg (lx (ls rfl (ls rfl (ls rfl (ls rfl (ls rfl (os rfl oz))))))), lg (lx (ls rfl (ls rfl (ls rfl (ls rfl (ls rfl (os rfl (os rfl oz)))))))), lg (lx (ls rfl (ls rfl (ls rfl (ls rfl (ls rfl (os rfl (os rfl (os rfl oz))))))))), lg (lx lz), trivial⟩ ?_
          refine aw_seq ?_
          refine aw_seq ?_
          refine aw_region (by decide) ?_
          refine rts _ rfl (opD_fieldAddr fo71_0_W1 (os rfl (os rfl (os rfl (os rfl oz))))) ?_
          refine rts _ rfl (opD_load_one ag3_W1 lz (loc_getN rfl rfl) rfl) ?_
          refine rts _ rfl (opD_lss lz (ev_const _ _)) ?_
          refine rts _ rfl (opD_move lz) ?_
          refine rtg _ rfl lz (fun hg8_4_249 => opD_fieldAddr fo71_0_W1 (ls rfl (ls rfl (ls rfl (ls rfl (os rfl (os rfl (os rfl (os rfl oz))))))))) ?_
          refine rtg _ rfl (ls rfl lz) (fun hg8_5_250 => opD_load_one ag3_W1 (lz.trans (pif_pos hg8_5_250)) (loc_getN rfl rfl) rfl) ?_
          refine rtg _ rfl (ls rfl (ls rfl lz)) (fun hg8_6_251 => opD_move (ls rfl (ls rfl (ls rfl (ls rfl (ls rfl (ls rfl (os rfl oz)))))))) ?_
          refine rtg _ rfl (ls rfl (ls rfl (ls rfl lz))) (fun hg8_7_252 => opD_geq ((ls rfl lz).trans (pif_pos hg8_7_252)) (lz.trans (pif_pos hg8_7_252))) ?_
          refine rts _ rfl (opD_or (ls rfl (ls rfl (ls rfl (ls rfl lz)))) lz) ?_
          refine rts _ rfl (opD_move lz) ?_
          refine rtg _ rfl lz (fun hg8_10_253 => opD_fieldAddr fo71_1_W1 (ls rfl (ls rfl (ls rfl (ls rfl (ls rfl (ls rfl (ls rfl (ls rfl (ls rfl (ls rfl (os rfl (os rfl (os rfl (os rfl oz))))))))))))))) ?_
          refine rtg _ rfl (ls rfl lz) (fun hg8_11_254 => opD_load_one ag3_W1 (lz.trans (pif_pos hg8_11_254)) (loc_getN rfl rfl) rfl) ?_
          refine rtg _ rfl (ls rfl (ls rfl lz)) (fun hg8_12_255 => opD_lss (lz.trans (pif_pos hg8_12_255)) (ev_const _ _)) ?_
          refine rts _ rfl (opD_or (ls rfl (ls rfl (ls rfl lz))) lz) ?_
          refine rts _ rfl (opD_move lz) ?_
          refine rtg _ rfl lz (fun hg8_15_256 => opD_fieldAddr fo71_1_W1 (ls rfl (ls rfl (ls rfl (ls rfl (ls rfl (ls rfl (ls rfl (ls rfl (ls rfl (ls rfl (ls rfl (ls rfl (ls rfl (ls rfl (ls rfl (os rfl (os rfl (os rfl (os rfl oz)))))))))))))))))))) ?_
          refine rtg _ rfl (ls rfl lz) (fun hg8_16_257 => opD_load_one ag3_W1 (lz.trans (pif_pos hg8_16_257)) (loc_getN rfl rfl) rfl) ?_
          refine rtg _ rfl (ls rfl (ls rfl lz)) (fun hg8_17_258 => opD_move (ls rfl (ls rfl (ls rfl (ls rfl (ls rfl (ls rfl (ls rfl (ls rfl (ls rfl (ls rfl (ls rfl (ls rfl (ls rfl (ls rfl (ls rfl (ls rfl (ls rfl (os rfl oz))))))))))))))))))) ?_
          refine rtg _ rfl (ls rfl (ls rfl (ls rfl lz))) (fun hg8_18_259 => opD_gtr ((ls rfl lz).trans (pif_pos hg8_18_259)) (lz.trans (pif_pos hg8_18_259))) ?_
          refine rts _ rfl (opD_or (ls rfl (ls rfl (ls rfl (ls rfl lz)))) lz) ?_
          refine .nil ?_
          refine aw_keep [(0, _), (1, _), (6, _), (7, _), (8, _), (47, _)] ⟨lg (ls rfl (ls rfl (ls rfl (ls rfl (ls rfl (ls rfl (ls rfl (ls rfl (ls rfl (ls rfl (ls rfl (ls rfl (ls rfl (ls rfl (ls rfl (ls rfl (ls rfl (ls rfl (ls rfl (ls rfl oz)))))))))))))))))))), lg (ls rfl (ls rfl (ls rfl (ls rfl (ls rfl (ls rfl (ls rfl (ls rfl (ls rfl (ls rfl (ls rfl (ls rfl (ls rfl (ls rfl (ls rfl (ls rfl (ls rfl (ls rfl (ls rfl (ls rfl (os rfl oz))))))))))))))))))))), lg (ls rfl (ls rfl (ls rfl (ls rfl (ls rfl (ls rfl (ls rfl (ls rfl (ls rfl (ls rfl (ls rfl (ls rfl (ls rfl (ls rfl (ls rfl (ls rfl (ls rfl (ls rfl (ls rfl (ls rfl (os rfl (os rfl oz)))))))))))))))))))))), lg (ls rfl (ls rfl (ls rfl (ls rfl (ls rfl (ls rfl (ls rfl (ls rfl (ls rfl (ls rfl (ls rfl (ls rfl (ls rfl (ls rfl (ls rfl (ls rfl (ls rfl (ls rfl (ls rfl (ls rfl (os rfl (os rfl (os rfl oz))))))))))))))))))))))), lg (ls rfl (ls rfl (ls rfl (ls rfl (ls rfl (ls rfl (ls rfl (ls rfl (ls rfl (ls rfl (ls rfl (ls rfl (ls rfl (ls rfl (ls rfl (ls rfl (ls rfl (ls rfl (ls rfl (ls rfl (os rfl (os rfl (os rfl (os rfl oz)))))))))))))))))))))))), lg lz, trivial⟩ ?_
          refine aw_cond _ (os rfl (os rfl (os rfl (os rfl (os rfl oz))))) (fun hc => ?_) (fun hc => ?_)
          · skip
            replace hz_4 := ifb_t hz_4 hc
            clear hc
            refine aw_seq ?_
            refine aw_region (by decide) ?_
            refine rts _ rfl (opD_assign (ev_const _ _)) ?_
            refine rts _ rfl (opD_assign (ev_const _ _)) ?_
            refine .nil ?_
            refine aw_keep [(4, _), (5, _)] ⟨lg (ls rfl lz), lg lz, trivial⟩ ?_
            refine aw_seal (k := kI .i64) (bs' := [⟨((hot 3 2) + HOT), []⟩, ⟨71, [pl (.int .i64 x_5.From), pl (.int .i64 x_5.Many)]⟩]) (i := 0) (r := 2) (te := 3) rfl [(4, pl (.slice none 0 0)), (5, pl (.bool false))] rfl rfl (Nat.le_of_ble_eq_true rfl) rfl (by decide) ⟨rfl, rfl, ⟨rfl, SealL.refl _, trivial⟩⟩ (bl_cons bnd_nil (bl_cons (bnd_cons (pl_bnd _ _ _) (bnd_cons (pl_bnd _ _ _) bnd_nil)) bl_nil)) ⟨seal_e oz (seal_same _), seal_e (os rfl oz) (seal_same _), trivial⟩ ?_
            refine aw_ret ?_
            obtain rfl := some_of hz_4
            replace hz_3 := ocs_l hz_3
            obtain rfl := some_of hz_3
            replace hz_1 := ocs_r hz_1
            obtain rfl := some_of hz_1
            replace h0 := ocs_l h0
            refine wk_no ?_
            refine wk_no ?_
            refine wk_no ?_
            obtain rfl := some_of h0
            exact done_ext (.inr rfl) ((res_list (rs := [_, _]) (ps := [_, _]) rfl rfl ⟨it_tmp oz, it_tmp (os rfl oz), trivial⟩).le (tup_le ⟨(le_nil rfl), (Pd.le_refl _), trivial⟩)) (tup_bnd (bnd_cons (sl_b (kb_I _)) (bnd_cons (pl_bnd _ _ _) bnd_nil)))
          · skip
            replace hz_4 := ifb_f hz_4 hc
            clear hc
            refine aw_skip ?_
            refine aw_keep [(0, _), (1, _), (6, _), (7, _), (8, _)] ⟨lg oz, lg (os rfl oz), lg (os rfl (os rfl oz)), lg (os rfl (os rfl (os rfl oz))), lg (os rfl (os rfl (os rfl (os rfl oz)))), trivial⟩ ?_
            refine aw_seq ?_
            refine aw_region (by decide) ?_
            refine rts _ rfl (opD_assign (ev_const _ _)) ?_
            refine .nil ?_
            refine aw_keep [(0, _), (1, _), (6, _), (7, _), (8, _), (9, _)] ⟨lg (ls rfl oz), lg (ls rfl (os rfl oz)), lg (ls rfl (os rfl (os rfl oz))), lg (ls rfl (os rfl (os rfl (os rfl oz)))), lg (ls rfl (os rfl (os rfl (os rfl (os rfl oz))))), lg lz, trivial⟩ ?_
            refine aw_block ?_
            refine aw_loop (fun n e st => ∃ v : Int × (List Int), Holds e [(0, sl kStx none none p0), (1, pl (.int .i64 p1)), (6, hsl (s.boxes.length + 0) 2 0 ((List.replicate p1.toNat (0 : Int)).length) (kI .i64).sz), (7, pl (.int .i64 t_2.1)), (8, ptr (s.boxes.length + 1) 0), (9, pl (.int .i64 v.1))] ∧ st = s.ext [⟨(hot 3 2), (flat (kI .i64) v.2)⟩, ⟨71, [pl (.int .i64 x_5.From), pl (.int .i64 x_5.Many)]⟩] [] ∧ lp (F_r16marks_b1 p1 x_5) n v = some z_4) fl ⟨(0, t_2.2), ⟨le_of_eq (eg oz), le_of_eq (eg (os rfl oz)), le_of_eq (eg (os rfl (os rfl oz))), le_of_eq (eg (os rfl (os rfl (os rfl oz)))), le_of_eq (eg (os rfl (os rfl (os rfl (os rfl oz))))), le_of_eq (eg (os rfl (os rfl (os rfl (os rfl (os rfl oz)))))), trivial⟩, rfl, hz_4⟩ ?_
            rintro n e st ⟨t_6, hH, rfl, hz_4⟩
            replace hz_4 := lp_some hz_4
            obtain ⟨m_z_7, z_7, rfl, hz_7, hz_4⟩ := hz_4
            unfold F_r16marks_b1 at hz_7
            refine aw_keep _ hH ?_
            refine aw_wkN rfl 2 0 rfl rfl ?_
            refine aw_seq ?_
            refine aw_seq ?_
            refine aw_region (by decide) ?_
            refine rts _ rfl (opD_move (os rfl (os rfl (os rfl (os rfl (os rfl oz)))))) ?_
            refine rts _ rfl (opD_fieldAddr fo71_1_W1 (ls rfl (os rfl (os rfl (os rfl (os rfl oz)))))) ?_
            refine rts _ rfl (opD_load_one ag3_W1 lz (loc_getN rfl rfl) rfl) ?_
            refine rts _ rfl (opD_lss (ls rfl (ls rfl lz)) lz) ?_
            refine .nil ?_
            refine aw_keep [(0, _), (1, _), (6, _), (7, _), (8, _), (9, _), (51, _)] ⟨lg (ls rfl (ls rfl (ls rfl (ls rfl oz)))), lg (ls rfl (ls rfl (ls rfl (ls rfl (os rfl oz))))), lg (ls rfl (ls rfl (ls rfl (ls rfl (os rfl (os rfl oz)))))), lg (ls rfl (ls rfl (ls rfl (ls rfl (os rfl (os rfl (os rfl oz))))))), lg (ls rfl (ls rfl (ls rfl (ls rfl (os rfl (os rfl (os rfl (os rfl oz)))))))), lg (ls rfl (ls rfl (ls rfl (ls rfl (os rfl (os rfl (os rfl (os rfl (os rfl oz))))))))), lg lz, trivial⟩ ?_
            refine aw_cond _ (os rfl (os rfl (os rfl (os rfl (os rfl (os rfl oz)))))) (fun hc => ?_) (fun hc => ?_)
            · skip
              replace hz_7 := ifb_t hz_7 hc
              clear hc
              refine aw_skip ?_
              refine aw_keep [(0, _), (1, _), (6, _), (7, _), (8, _), (9, _)] ⟨lg oz, lg (os rfl oz), lg (os rfl (os rfl oz)), lg (os rfl (os rfl (os rfl oz))), lg (os rfl (os rfl (os rfl (os rfl oz)))), lg (os rfl (os rfl (os rfl (os rfl (os rfl oz))))), trivial⟩ ?_
              refine aw_seq ?_
              refine aw_block ?_
              refine aw_seq ?_
              refine aw_seq ?_
              refine aw_region (by decide) ?_
              refine rts _ rfl (opD_fieldAddr fo71_0_W1 (os rfl (os rfl (os rfl (os rfl oz))))) ?_
              refine rts _ rfl (opD_load_one ag3_W1 lz (loc_getN rfl rfl) rfl) ?_
              refine rts _ rfl (opD_move (ls rfl (ls rfl (os rfl (os rfl (os rfl (os rfl (os rfl oz)))))))) ?_
              refine rts _ rfl (opD_add (ls rfl lz) lz rfl) ?_
              refine rts _ rfl (opD_move (ls rfl (ls rfl (ls rfl (ls rfl (os rfl oz)))))) ?_
              refine rts _ rfl (opD_geq (ls rfl lz) lz) ?_
              refine rts _ rfl (opD_move lz) ?_
              refine rtg _ rfl lz (fun hg13_7_272 => opD_move (ls rfl (ls rfl (ls rfl (ls rfl (ls rfl (ls rfl (ls rfl (os rfl (os rfl oz)))))))))) ?_
              refine rtg _ rfl (ls rfl lz) (fun hg13_8_273 => opD_fieldAddr fo71_0_W1 (ls rfl (ls rfl (ls rfl (ls rfl (ls rfl (ls rfl (ls rfl (ls rfl (os rfl (os rfl (os rfl (os rfl oz))))))))))))) ?_
              refine rtg _ rfl (ls rfl (ls rfl lz)) (fun hg13_9_274 => opD_load_one ag3_W1 (lz.trans (pif_pos hg13_9_274)) (loc_getN rfl rfl) rfl) ?_
              refine rtg _ rfl (ls rfl (ls rfl (ls rfl lz))) (fun hg13_10_275 => opD_move (ls rfl (ls rfl (ls rfl (ls rfl (ls rfl (ls rfl (ls rfl (ls rfl (ls rfl (ls rfl (os rfl (os rfl (os rfl (os rfl (os rfl oz)))))))))))))))) ?_
              refine rtg _ rfl (ls rfl (ls rfl (ls rfl (ls rfl lz)))) (fun hg13_11_276 => opD_add ((ls rfl lz).trans (pif_pos hg13_11_276)) (lz.trans (pif_pos hg13_11_276)) rfl) ?_
              replace hz_7 := grd_some hz_7
              obtain ⟨hg_278, hz_7⟩ := hz_7
              refine rtg _ rfl (ls rfl (ls rfl (ls rfl (ls rfl (ls rfl lz))))) (fun hg13_12_277 => opD_indexAddr_hx (i := (IntKind.i64.wrap (x_5.From + t_6.1)).toNat) Go.Proofs.Tryd.underlying36 sz3_W1 rfl ⟨_, (loc_getN rfl rfl)⟩ ((ls rfl (ls rfl (ls rfl (ls rfl lz)))).trans (pif_pos hg13_12_277)) (lz.trans (pif_pos hg13_12_277)) (hg_278 hg13_12_277).eq (hg_278 hg13_12_277).2) ?_
              replace hz_7 := grd_some hz_7
              obtain ⟨hg_280, hz_7⟩ := hz_7
              refine rtg _ rfl (ls rfl (ls rfl (ls rfl (ls rfl (ls rfl (ls rfl lz)))))) (fun hg13_13_279 => opD_load1_h ag3_W1 rfl (Nat.le_of_ble_eq_true rfl) ((lz.trans (pif_pos hg13_13_279)).trans (ptv0 _ _ _)) (loc_getN rfl rfl) (flat_fld (j := 0) (at_getD default (nat_lt (hg_280 hg13_13_279))) rfl (by decide))) ?_
              refine rtg _ rfl (ls rfl (ls rfl (ls rfl (ls rfl (ls rfl (ls rfl (ls rfl lz))))))) (fun hg13_14_281 => opD_gtr (lz.trans (pif_pos hg13_14_281)) (ev_const _ _)) ?_
              refine rts _ rfl (opD_or (ls rfl (ls rfl (ls rfl (ls rfl (ls rfl (ls rfl (ls rfl (ls rfl lz)))))))) lz) ?_
              refine .nil ?_
              refine aw_keep [(0, _), (1, _), (6, _), (7, _), (8, _), (9, _), (69, _)] ⟨lg (ls rfl (ls rfl (ls rfl (ls rfl (ls rfl (ls rfl (ls rfl (ls rfl (ls rfl (ls rfl (ls rfl (ls rfl (ls rfl (ls rfl (ls rfl (ls rfl oz)))))))))))))))), lg (ls rfl (ls rfl (ls rfl (ls rfl (ls rfl (ls rfl (ls rfl (ls rfl (ls rfl (ls rfl (ls rfl (ls rfl (ls rfl (ls rfl (ls rfl (ls rfl (os rfl oz))))))))))))))))), lg (ls rfl (ls rfl (ls rfl (ls rfl (ls rfl (ls rfl (ls rfl (ls rfl (ls rfl (ls rfl (ls rfl (ls rfl (ls rfl (ls rfl (ls rfl (ls rfl (os rfl (os rfl oz)))))))))))))))))), lg (ls rfl (ls rfl (ls rfl (ls rfl (ls rfl (ls rfl (ls rfl (ls rfl (ls rfl (ls rfl (ls rfl (ls rfl (ls rfl (ls rfl (ls rfl (ls rfl (os rfl (os rfl (os rfl oz))))))))))))))))))), lg (ls rfl (ls rfl (ls rfl (ls rfl (ls rfl (ls rfl (ls rfl (ls rfl (ls rfl (ls rfl (ls rfl (ls rfl (ls rfl (ls rfl (ls rfl (ls rfl (os rfl (os rfl (os rfl (os rfl oz)))))))))))))))))))), lg (ls rfl (ls rfl (ls rfl (ls rfl (ls rfl (ls rfl (ls rfl (ls rfl (ls rfl (ls rfl (ls rfl (ls rfl (ls rfl (ls rfl (ls rfl (ls rfl (os rfl (os rfl (os rfl (os rfl (os rfl oz))))))))))))))))))))), lg lz, trivial⟩ ?_
              refine aw_cond _ (os rfl (os rfl (os rfl (os rfl (os rfl (os rfl oz)))))) (fun hc => ?_) (fun hc => ?_)
              · skip
                replace hz_7 := ifb_t hz_7 hc
                clear hc
                refine aw_seq ?_
                refine aw_region (by decide) ?_
                refine rts _ rfl (opD_assign (ev_const _ _)) ?_
                refine rts _ rfl (opD_assign (ev_const _ _)) ?_
                refine .nil ?_
                refine aw_keep [(4, _), (5, _)] ⟨lg (ls rfl lz), lg lz, trivial⟩ ?_
                refine aw_seal (k := kI .i64) (bs' := [⟨((hot 3 2) + HOT), []⟩, ⟨71, [pl (.int .i64 x_5.From), pl (.int .i64 x_5.Many)]⟩]) (i := 0) (r := 2) (te := 3) rfl [(4, pl (.slice none 0 0)), (5, pl (.bool false))] rfl rfl (Nat.le_of_ble_eq_true rfl) rfl (by decide) ⟨rfl, rfl, ⟨rfl, SealL.refl _, trivial⟩⟩ (bl_cons bnd_nil (bl_cons (bnd_cons (pl_bnd _ _ _) (bnd_cons (pl_bnd _ _ _) bnd_nil)) bl_nil)) ⟨seal_e oz (seal_same _), seal_e (os rfl oz) (seal_same _), trivial⟩ ?_
                refine aw_ret ?_
                obtain rfl := some_of hz_7
                replace hz_4 := ocs_r hz_4
                obtain rfl := some_of hz_4
                replace hz_3 := ocs_l hz_3
                obtain rfl := some_of hz_3
                replace hz_1 := ocs_r hz_1
                obtain rfl := some_of hz_1
                replace h0 := ocs_l h0
                refine wk_no ?_
                refine wk_no ?_
                refine wk_no ?_
                refine wk_no ?_
                obtain rfl := some_of h0
                exact done_ext (.inr rfl) ((res_list (rs := [_, _]) (ps := [_, _]) rfl rfl ⟨it_tmp oz, it_tmp (os rfl oz), trivial⟩).le (tup_le ⟨(le_nil rfl), (Pd.le_refl _), trivial⟩)) (tup_bnd (bnd_cons (sl_b (kb_I _)) (bnd_cons (pl_bnd _ _ _) bnd_nil)))
              · skip
                replace hz_7 := ifb_f hz_7 hc
                clear hc
                refine aw_skip ?_
                refine aw_keep [(0, _), (1, _), (6, _), (7, _), (8, _), (9, _)] ⟨lg oz, lg (os rfl oz), lg (os rfl (os rfl oz)), lg (os rfl (os rfl (os rfl oz))), lg (os rfl (os rfl (os rfl (os rfl oz)))), lg (os rfl (os rfl (os rfl (os rfl (os rfl oz))))), trivial⟩ ?_
                refine aw_region (by decide) ?_
                refine rts _ rfl (opD_move (os rfl (os rfl oz))) ?_
                refine rts _ rfl (opD_fieldAddr fo71_0_W1 (ls rfl (os rfl (os rfl (os rfl (os rfl oz)))))) ?_
                refine rts _ rfl (opD_load_one ag3_W1 lz (loc_getN rfl rfl) rfl) ?_
                refine rts _ rfl (opD_move (ls rfl (ls rfl (ls rfl (os rfl (os rfl (os rfl (os rfl (os rfl oz))))))))) ?_
                refine rts _ rfl (opD_add (ls rfl lz) lz rfl) ?_
                replace hz_7 := grd_some hz_7
                obtain ⟨hg_282, hz_7⟩ := hz_7
                refine rts _ rfl (opD_indexAddr_hx (i := (IntKind.i64.wrap (x_5.From + t_6.1)).toNat) Go.Proofs.Tryd.underlying36 sz3_W1 rfl ⟨_, (loc_getN rfl rfl)⟩ (ls rfl (ls rfl (ls rfl (ls rfl lz)))) lz hg_282.eq hg_282.2) ?_
                replace hz_7 := grd_some hz_7
                obtain ⟨hg_283, hz_7⟩ := hz_7
                refine rts _ rfl (storeE1N (k := kI .i64) (y := 1) rfl sz3_W1 rfl (Nat.le_of_ble_eq_true rfl) (by decide) lz (ev_const _ _) rfl (nat_lt hg_283) (kb_I _) (by simp only [na, nb, nc, nd, nf, ng, nh, ni, nj, nk] <;> rfl)) ?_
                refine .nil ?_
                refine aw_keep [(0, _), (1, _), (6, _), (7, _), (8, _), (9, _)] ⟨lg (lx (ls rfl (ls rfl (ls rfl (ls rfl (ls rfl (ls rfl oz))))))), lg (lx (ls rfl (ls rfl (ls rfl (ls rfl (ls rfl (ls rfl (os rfl oz)))))))), lg (lx (ls rfl (ls rfl (ls rfl (ls rfl (ls rfl (ls rfl (os rfl (os rfl oz))))))))), lg (lx (ls rfl (ls rfl (ls rfl (ls rfl (ls rfl (ls rfl (os rfl (os rfl (os rfl oz)))))))))), lg (lx (ls rfl (ls rfl (ls rfl (ls rfl (ls rfl (ls rfl (os rfl (os rfl (os rfl (os rfl oz))))))))))), lg (lx (ls rfl (ls rfl (ls rfl (ls rfl (ls rfl (ls rfl (os rfl (os rfl (os rfl (os rfl (os rfl oz)))))))))))), trivial⟩ ?_
                refine aw_region (by decide) ?_
                refine rts _ rfl (opD_move (os rfl (os rfl (os rfl (os rfl (os rfl oz)))))) ?_
                refine rts _ rfl (opD_add lz (ev_const _ _) rfl) ?_
                refine rts _ rfl (opD_assign lz) ?_
                refine .nil ?_
                obtain rfl := some_of hz_7
                replace hz_4 := ocs_l hz_4
                refine wk_yesN rfl (l := [(0, sl kStx none none p0), (1, pl (.int .i64 p1)), (6, hsl (s.boxes.length + 0) 2 0 ((List.replicate p1.toNat (0 : Int)).length) (kI .i64).sz), (7, pl (.int .i64 t_2.1)), (8, ptr (s.boxes.length + 1) 0), (9, pl (.int .i64 (IntKind.i64.wrap (t_6.1 + 1))))]) (bs' := [⟨(hot 3 2), (flat (kI .i64) (t_6.2.set ((IntKind.i64.wrap (x_5.From + t_6.1)).toNat) 1))⟩, ⟨71, [pl (.int .i64 x_5.From), pl (.int .i64 x_5.Many)]⟩]) ⟨le_of_eq (eg (ls rfl (ls rfl (ls rfl oz)))), le_of_eq (eg (ls rfl (ls rfl (ls rfl (os rfl oz))))), le_of_eq (eg (ls rfl (ls rfl (ls rfl (os rfl (os rfl oz)))))), le_of_eq (eg (ls rfl (ls rfl (ls rfl (os rfl (os rfl (os rfl oz))))))), le_of_eq (eg (ls rfl (ls rfl (ls rfl (os rfl (os rfl (os rfl (os rfl oz)))))))), le_of_eq (eg lz), trivial⟩ (bnd_cons (sl_b kb_Stx) (bnd_cons (pl_bnd _ _ _) (bnd_cons (hsl_bnd _ (by first | omega | (simp only [List.length_append, List.length_cons, List.length_nil]; omega))) (bnd_cons (pl_bnd _ _ _) (bnd_cons (ptr_bnd _ (by first | omega | (simp only [List.length_append, List.length_cons, List.length_nil]; omega))) (bnd_cons (pl_bnd _ _ _) bnd_nil)))))) (Nat.le_of_ble_eq_true rfl) (by simp only [na, nb, nc, nd, nf, ng, nh, ni, nj, nk] <;> rfl) (bxle_same (bxle_same bxle_nil)) rfl (by simp only [na, nb, nc, nd, nf, ng, nh, ni, nj, nk] <;> rfl) (bl_cons (flatKB (kb_I _)) (bl_cons (bnd_cons (pl_bnd _ _ _) (bnd_cons (pl_bnd _ _ _) bnd_nil)) bl_nil)) ?_
                exact ⟨m_z_7, Nat.lt_succ_self _, (IntKind.i64.wrap (t_6.1 + 1), (t_6.2.set ((IntKind.i64.wrap (x_5.From + t_6.1)).toNat) 1)), ⟨le_of_eq (eg oz), le_of_eq (eg (os rfl oz)), le_of_eq (eg (os rfl (os rfl oz))), le_of_eq (eg (os rfl (os rfl (os rfl oz)))), le_of_eq (eg (os rfl (os rfl (os rfl (os rfl oz))))), le_of_eq (eg (os rfl (os rfl (os rfl (os rfl (os rfl oz)))))), trivial⟩, rfl, hz_4⟩
            · skip
              replace hz_7 := ifb_f hz_7 hc
              clear hc
              refine aw_exit ?_
              obtain rfl := some_of hz_7
              replace hz_4 := ocs_r hz_4
              refine wk_no ?_
              refine wk_yesN rfl (l := [(0, sl kStx none none p0), (1, pl (.int .i64 p1)), (6, hsl (s.boxes.length + 0) 2 0 ((List.replicate p1.toNat (0 : Int)).length) (kI .i64).sz), (7, pl (.int .i64 t_2.1))]) (bs' := [⟨(hot 3 2), (flat (kI .i64) t_6.2)⟩]) ⟨le_of_eq (eg oz), le_of_eq (eg (os rfl oz)), le_of_eq (eg (os rfl (os rfl oz))), le_of_eq (eg (os rfl (os rfl (os rfl oz)))), trivial⟩ (bnd_cons (sl_b kb_Stx) (bnd_cons (pl_bnd _ _ _) (bnd_cons (hsl_bnd _ (by first | omega | (simp only [List.length_append, List.length_cons, List.length_nil]; omega))) (bnd_cons (pl_bnd _ _ _) bnd_nil)))) (Nat.le_of_ble_eq_true rfl) (by simp only [na, nb, nc, nd, nf, ng, nh, ni, nj, nk] <;> rfl) (bxle_same bxle_nil) rfl (by simp only [na, nb, nc, nd, nf, ng, nh, ni, nj, nk] <;> rfl) (bl_cons (flatKB (kb_I _)) bl_nil) ?_
              exact ⟨t_6.2, ⟨le_of_eq (eg oz), le_of_eq (eg (os rfl oz)), le_of_eq (eg (os rfl (os rfl oz))), le_of_eq (eg (os rfl (os rfl (os rfl oz)))), trivial⟩, rfl, some_of hz_4⟩
        · rintro e st ⟨vz_4, hH, rfl, rfl⟩
          refine aw_keep _ hH ?_
          replace hz_3 := ocs_r hz_3
          refine aw_keep [(0, _), (1, _), (6, _), (7, _)] ⟨lg oz, lg (os rfl oz), lg (os rfl (os rfl oz)), lg (os rfl (os rfl (os rfl oz))), trivial⟩ ?_
          refine aw_region (by decide) ?_
          refine rts _ rfl (opD_move (os rfl (os rfl (os rfl oz)))) ?_
          refine rts _ rfl (opD_add lz (ev_const _ _) rfl) ?_
          refine rts _ rfl (opD_assign lz) ?_
          refine .nil ?_
          obtain rfl := some_of hz_3
          replace hz_1 := ocs_l hz_1
          refine wk_yesN rfl (l := [(0, sl kStx none none p0), (1, pl (.int .i64 p1)), (6, hsl (s.boxes.length + 0) 2 0 ((List.replicate p1.toNat (0 : Int)).length) (kI .i64).sz), (7, pl (.int .i64 (IntKind.i64.wrap (t_2.1 + 1))))]) (bs' := [⟨(hot 3 2), (flat (kI .i64) vz_4)⟩]) ⟨le_of_eq (eg (ls rfl (ls rfl (ls rfl oz)))), le_of_eq (eg (ls rfl (ls rfl (ls rfl (os rfl oz))))), le_of_eq (eg (ls rfl (ls rfl (ls rfl (os rfl (os rfl oz)))))), le_of_eq (eg lz), trivial⟩ (bnd_cons (sl_b kb_Stx) (bnd_cons (pl_bnd _ _ _) (bnd_cons (hsl_bnd _ (by first | omega | (simp only [List.length_append, List.length_cons, List.length_nil]; omega))) (bnd_cons (pl_bnd _ _ _) bnd_nil)))) (Nat.le_of_ble_eq_true rfl) (by simp only [na, nb, nc, nd, nf, ng, nh, ni, nj, nk] <;> rfl) (bxle_same bxle_nil) rfl (by simp only [na, nb, nc, nd, nf, ng, nh, ni, nj, nk] <;> rfl) (bl_cons (flatKB (kb_I _)) bl_nil) ?_
          exact ⟨m_z_3, Nat.lt_succ_self _, (IntKind.i64.wrap (t_2.1 + 1), vz_4), ⟨le_of_eq (eg oz), le_of_eq (eg (os rfl oz)), le_of_eq (eg (os rfl (os rfl oz))), le_of_eq (eg (os rfl (os rfl (os rfl oz)))), trivial⟩, rfl, hz_1⟩
      · skip
        replace hz_3 := ifb_f hz_3 hc
        clear hc
        refine aw_exit ?_
        obtain rfl := some_of hz_3
        replace hz_1 := ocs_r hz_1
        refine wk_no ?_
        refine wk_yesN rfl (l := [(6, hsl (s.boxes.length + 0) 2 0 ((List.replicate p1.toNat (0 : Int)).length) (kI .i64).sz)]) (bs' := [⟨(hot 3 2), (flat (kI .i64) t_2.2)⟩]) ⟨le_of_eq (eg (os rfl (os rfl oz))), trivial⟩ (bnd_cons (hsl_bnd _ (by first | omega | (simp only [List.length_append, List.length_cons, List.length_nil]; omega))) bnd_nil) (Nat.le_of_ble_eq_true rfl) (by simp only [na, nb, nc, nd, nf, ng, nh, ni, nj, nk] <;> rfl) (bxle_same bxle_nil) rfl (by simp only [na, nb, nc, nd, nf, ng, nh, ni, nj, nk] <;> rfl) (bl_cons (flatKB (kb_I _)) bl_nil) ?_
        exact ⟨t_2.2, ⟨le_of_eq (eg oz), trivial⟩, rfl, some_of hz_1⟩
    · rintro e st ⟨vz_1, hH, rfl, rfl⟩
      refine aw_keep _ hH ?_
      replace h0 := ocs_r h0
      refine aw_keep [(6, _)] ⟨lg oz, trivial⟩ ?_
      refine aw_seq ?_
      refine aw_region (by decide) ?_
      refine rts _ rfl (opD_move oz) ?_
      refine rts _ rfl (opD_assign lz) ?_
      refine rts _ rfl (opD_assign (ev_const _ _)) ?_
      refine .nil ?_
      refine aw_keep [(4, _), (5, _)] ⟨lg (ls rfl lz), lg lz, trivial⟩ ?_
      replace h0 := grd_some h0
      obtain ⟨hg_284, h0⟩ := h0
      refine aw_seal (k := kI .i64) (bs' := [⟨((hot 3 2) + HOT), []⟩]) (i := 0) (r := 2) (te := 3) rfl [(4, sl (kI .i64) none none vz_1), (5, pl (.bool true))] rfl rfl (Nat.le_of_ble_eq_true rfl) rfl (by decide) ⟨rfl, rfl, trivial⟩ (bl_cons bnd_nil bl_nil) ⟨seal_e oz (seal_sln hg_284), seal_e (os rfl oz) (seal_same _), trivial⟩ ?_
      refine aw_ret ?_
      obtain rfl := some_of h0
      exact done_ext (.inr rfl) ((res_list (rs := [_, _]) (ps := [_, _]) rfl rfl ⟨it_tmp oz, it_tmp (os rfl oz), trivial⟩).le (tup_le ⟨(Pd.le_refl _), (Pd.le_refl _), trivial⟩)) (tup_bnd (bnd_cons (sl_b (kb_I _)) (bnd_cons (pl_bnd _ _ _) bnd_nil)))

def F_r16May (fl : Nat) (p0 : (List Stx)) (p1 : Int) : Option (Bool) :=
  bnd (F_r16marks fl p0 p1) fun x_1 => some x_1.2
set_option maxRecDepth 100000 in
set_option maxHeartbeats 2000000 in
theorem c_r16May {fl : Nat} {p0 : (List Stx)} {p1 : Int} {R : Bool} (h0 : F_r16May fl p0 p1 = some R) : Pure Go.Proofs.Tryd.prog 37 [sl kStx none none p0, pl (.int .i64 p1)] (pl (.bool R)) := by
  intro s
  unfold F_r16May at h0
  refine ac_of_aw s.boxes.length s.fr.length Go.Proofs.Tryd.func37 rfl (by simp [Go.Proofs.Tryd.ntmps37]) ?_
  refine aw_ext0 ?_
  refine aw_keep [(0, _), (1, _)] ⟨lg ez, lg (es ez), trivial⟩ ?_
  refine aw_seq ?_
  refine aw_region (by decide) ?_
  refine rts _ rfl (opD_assign (ev_const _ _)) ?_
  refine .nil ?_
  refine aw_keep [(0, _), (1, _)] ⟨lg (ls rfl oz), lg (ls rfl (os rfl oz)), trivial⟩ ?_
  refine aw_seq ?_
  refine aw_region (by decide) ?_
  refine rts _ rfl (opD_move oz) ?_
  refine rts _ rfl (opD_move (ls rfl (os rfl oz))) ?_
  replace h0 := bnd_some h0
  obtain ⟨x_1, hx_1, h0⟩ := h0
  refine rts _ rfl (opD_pure ht92_W1 (c_r16marks hx_1) ⟨le_of_eq (ls rfl lz), le_of_eq lz, trivial⟩) ?_
  refine rts _ rfl (opD_move lz) ?_
  refine rts _ rfl (opD_extract lz rfl) ?_
  refine rts _ rfl (opD_extract (ls rfl lz) rfl) ?_
  refine rts _ rfl (opD_assign (ls rfl lz)) ?_
  refine rts _ rfl (opD_assign (ls rfl lz)) ?_
  refine .nil ?_
  refine aw_keep [(6, _)] ⟨lg lz, trivial⟩ ?_
  refine aw_seq ?_
  refine aw_region (by decide) ?_
  refine rts _ rfl (opD_move oz) ?_
  refine rts _ rfl (opD_assign lz) ?_
  refine .nil ?_
  refine aw_keep [(4, _)] ⟨lg lz, trivial⟩ ?_
  refine aw_ret ?_
  obtain rfl := some_of h0
  exact done_ext (.inr rfl) ((res_one rfl (it_tmp oz)).le (Pd.le_refl _)) (pl_bnd _ _ _)

def F_r16Pages_b1 (p0 : (List Stx)) (t_2 : (List Int) × Int) (t_6 : (List Int) × Int) : Option (((List Int) × Int) ⊕ (((List Int)))) :=
  ixb p0 t_2.2 fun x_8 => ifb (decide (t_6.2 < x_8.Many)) (ixb p0 t_2.2 fun x_9 => grd (Fits 8 (t_6.1.length + ([IntKind.i64.wrap (x_9.From + t_6.2)] : (List Int)).length)) <| some (.inl ((t_6.1 ++ ([IntKind.i64.wrap (x_9.From + t_6.2)] : (List Int))), IntKind.i64.wrap (t_6.2 + 1)))) (some (.inr t_6.1))
def F_r16Pages_b0 (fl : Nat) (p0 : (List Stx)) (t_2 : (List Int) × Int) : Option (((List Int) × Int) ⊕ (((List Int)))) :=
  bnd (gif ((decide (t_2.2 < (p0.length : Int))) == true) (F_r16May fl p0 1024)) fun x_4 => ifb ((decide (t_2.2 < (p0.length : Int))) && x_4) (bnd (lp (F_r16Pages_b1 p0 t_2) fl (t_2.1, 0)) fun z_5 => some (.inl (z_5, IntKind.i64.wrap (t_2.2 + 1)))) (some (.inr t_2.1))
def F_r16Pages (fl : Nat) (p0 : (List Stx)) : Option ((List Int)) :=
  bnd (lp (F_r16Pages_b0 fl p0) fl (([] : (List Int)), 0)) fun z_1 => some z_1
set_option maxRecDepth 100000 in
set_option maxHeartbeats 2000000 in
theorem c_r16Pages {fl : Nat} {p0 : (List Stx)} {R : (List Int)} (h0 : F_r16Pages fl p0 = some R) : Pure Go.Proofs.Tryd.prog 40 [sl kStx none none p0] (sl (kI .i64) none none R) := by
  intro s
  unfold F_r16Pages at h0
  refine ac_of_aw s.boxes.length s.fr.length Go.Proofs.Tryd.func40 rfl (by simp [Go.Proofs.Tryd.ntmps40]) ?_
  refine aw_ext0 ?_
  refine aw_keep [(0, _)] ⟨lg ez, trivial⟩ ?_
  refine aw_seq ?_
  refine aw_region (by decide) ?_
  refine rts _ rfl (opD_assign (ev_const _ _)) ?_
  refine .nil ?_
  refine aw_keep [(0, _)] ⟨lg (ls rfl oz), trivial⟩ ?_
  refine aw_seq ?_
  refine aw_region (by decide) ?_
  refine rts _ rfl (opD_assign (ev_const _ _)) ?_
  refine .nil ?_
  refine aw_keep [(0, _), (3, _)] ⟨lg (ls rfl oz), lg lz, trivial⟩ ?_
  refine aw_seq ?_
  refine aw_seq ?_
  refine aw_region (by decide) ?_
  refine rts _ rfl (opD_assign (ev_const _ _)) ?_
  refine .nil ?_
  refine aw_keep [(0, _), (3, _), (4, _)] ⟨lg (ls rfl oz), lg (ls rfl (os rfl oz)), lg lz, trivial⟩ ?_
  replace h0 := bnd_some h0
  obtain ⟨z_1, hz_1, h0⟩ := h0
  refine aw_mid (fun e st => ∃ v : (List Int), Holds e [(3, sl (kI .i64) none none v)] ∧ st = s.ext [] [] ∧ v = z_1) ?_ ?_
  · skip
    refine aw_wkN rfl 0 0 rfl rfl ?_
    refine aw_block ?_
    refine aw_fr ⟨3, 1, 0⟩ ?_
    refine aw_loop (fun n e st => ∃ v : (List Int) × Int, Holds e [(0, sl kStx none none p0), (3, sl (kI .i64) (some (s.fr.length + 0)) none v.1), (4, pl (.int .i64 v.2))] ∧ st = s.ext [] [⟨3, 1, v.1.length⟩] ∧ lp (F_r16Pages_b0 fl p0) n v = some z_1) fl ⟨(([] : (List Int)), 0), ⟨le_of_eq (eg oz), (le_of_eq (eg (os rfl oz))).trans (nil_own rfl), le_of_eq (eg (os rfl (os rfl oz))), trivial⟩, rfl, hz_1⟩ ?_
    rintro n e st ⟨t_2, hH, rfl, hz_1⟩
    replace hz_1 := lp_some hz_1
    obtain ⟨m_z_3, z_3, rfl, hz_3, hz_1⟩ := hz_1
    unfold F_r16Pages_b0 at hz_3
    refine aw_keep _ hH ?_
    refine aw_wkN rfl 0 1 rfl rfl ?_
    refine aw_seq ?_
    refine aw_seq ?_
    refine aw_region (by decide) ?_
    refine rts _ rfl (opD_move (os rfl (os rfl oz))) ?_
    refine rts _ rfl (opD_move (ls rfl oz)) ?_
    refine rts _ rfl (opD_len_sl Go.Proofs.Tryd.underlying47 lz) ?_
    refine rts _ rfl (opD_lss (ls rfl (ls rfl lz)) lz) ?_
    refine rts _ rfl (opD_move lz) ?_
    refine rtg _ rfl lz (fun hg3_5_35 => opD_move (ls rfl (ls rfl (ls rfl (ls rfl (ls rfl oz)))))) ?_
    replace hz_3 := bnd_some hz_3
    obtain ⟨x_4, hx_4, hz_3⟩ := hz_3
    refine rtg _ rfl (ls rfl lz) (fun hg3_6_36 => opD_pure ht37_W1 (c_r16May (gif_some hx_4 hg3_6_36)) ⟨le_of_eq (lz.trans (pif_pos hg3_6_36)), le_of_eq (ev_const _ _), trivial⟩) ?_
    refine rts _ rfl (opD_and (ls rfl (ls rfl lz)) lz) ?_
    refine .nil ?_
    refine aw_keep [(0, _), (3, _), (4, _), (13, _)] ⟨lg (ls rfl (ls rfl (ls rfl (ls rfl (ls rfl (ls rfl (ls rfl (ls rfl oz)))))))), lg (ls rfl (ls rfl (ls rfl (ls rfl (ls rfl (ls rfl (ls rfl (ls rfl (os rfl oz))))))))), lg (ls rfl (ls rfl (ls rfl (ls rfl (ls rfl (ls rfl (ls rfl (ls rfl (os rfl (os rfl oz)))))))))), lg lz, trivial⟩ ?_
    refine aw_cond _ (os rfl (os rfl (os rfl oz))) (fun hc => ?_) (fun hc => ?_)
    · skip
      replace hz_3 := ifb_t hz_3 hc
      clear hc
      refine aw_skip ?_
      refine aw_keep [(0, _), (3, _), (4, _)] ⟨lg oz, lg (os rfl oz), lg (os rfl (os rfl oz)), trivial⟩ ?_
      refine aw_seq ?_
      replace hz_3 := bnd_some hz_3
      obtain ⟨z_5, hz_5, hz_3⟩ := hz_3
      refine aw_mid (fun e st => ∃ v : (List Int), Holds e [(0, sl kStx none none p0), (3, sl (kI .i64) (some (s.fr.length + 0)) none v), (4, pl (.int .i64 t_2.2))] ∧ st = s.ext [] [⟨3, 1, v.length⟩] ∧ v = z_5) ?_ ?_
      · skip
        refine aw_wkN rfl 0 1 rfl rfl ?_
        refine aw_block ?_
        refine aw_seq ?_
        refine aw_region (by decide) ?_
        refine rts _ rfl (opD_assign (ev_const _ _)) ?_
        refine .nil ?_
        refine aw_keep [(0, _), (3, _), (4, _), (5, _)] ⟨lg (ls rfl oz), lg (ls rfl (os rfl oz)), lg (ls rfl (os rfl (os rfl oz))), lg lz, trivial⟩ ?_
        refine aw_block ?_
        refine aw_loop (fun n e st => ∃ v : (List Int) × Int, Holds e [(0, sl kStx none none p0), (3, sl (kI .i64) (some (s.fr.length + 0)) none v.1), (4, pl (.int .i64 t_2.2)), (5, pl (.int .i64 v.2))] ∧ st = s.ext [] [⟨3, 1, v.1.length⟩] ∧ lp (F_r16Pages_b1 p0 t_2) n v = some z_5) fl ⟨(t_2.1, 0), ⟨le_of_eq (eg oz), le_of_eq (eg (os rfl oz)), le_of_eq (eg (os rfl (os rfl oz))), le_of_eq (eg (os rfl (os rfl (os rfl oz)))), trivial⟩, rfl, hz_5⟩ ?_
        rintro n e st ⟨t_6, hH, rfl, hz_5⟩
        replace hz_5 := lp_some hz_5
        obtain ⟨m_z_7, z_7, rfl, hz_7, hz_5⟩ := hz_5
        unfold F_r16Pages_b1 at hz_7
        refine aw_keep _ hH ?_
        refine aw_wkN rfl 0 1 rfl rfl ?_
        refine aw_seq ?_
        refine aw_seq ?_
        refine aw_region (by decide) ?_
        refine rts _ rfl (opD_move (os rfl (os rfl (os rfl oz)))) ?_
        refine rts _ rfl (opD_move (ls rfl oz)) ?_
        refine rts _ rfl (opD_move (ls rfl (ls rfl (os rfl (os rfl oz))))) ?_
        replace hz_7 := ixb_some hz_7
        obtain ⟨x_8, hx_8, hbx_8, hz_7⟩ := hz_7
        refine rts _ rfl (opD_indexAddr_sl (i := t_2.2.toNat) Go.Proofs.Tryd.underlying47 sz71_W1 (ls rfl lz) lz hbx_8.2.2 hbx_8.2.1) ?_
        refine rts _ rfl (opD_fieldAddr_el fo71_1_W1 lz) ?_
        refine rts _ rfl (opD_load_el_one ag3_W1 lz hx_8 rfl) ?_
        refine rts _ rfl (opD_lss (ls rfl (ls rfl (ls rfl (ls rfl (ls rfl lz))))) lz) ?_
        refine .nil ?_
        refine aw_keep [(0, _), (3, _), (4, _), (5, _), (22, _)] ⟨lg (ls rfl (ls rfl (ls rfl (ls rfl (ls rfl (ls rfl (ls rfl oz))))))), lg (ls rfl (ls rfl (ls rfl (ls rfl (ls rfl (ls rfl (ls rfl (os rfl oz)))))))), lg (ls rfl (ls rfl (ls rfl (ls rfl (ls rfl (ls rfl (ls rfl (os rfl (os rfl oz))))))))), lg (ls rfl (ls rfl (ls rfl (ls rfl (ls rfl (ls rfl (ls rfl (os rfl (os rfl (os rfl oz)))))))))), lg lz, trivial⟩ ?_
        refine aw_cond _ (os rfl (os rfl (os rfl (os rfl oz)))) (fun hc => ?_) (fun hc => ?_)
        · skip
          replace hz_7 := ifb_t hz_7 hc
          clear hc
          refine aw_skip ?_
          refine aw_keep [(0, _), (3, _), (4, _), (5, _)] ⟨lg oz, lg (os rfl oz), lg (os rfl (os rfl oz)), lg (os rfl (os rfl (os rfl oz))), trivial⟩ ?_
          refine aw_seq ?_
          refine aw_block ?_
          refine aw_region (by decide) ?_
          refine rts _ rfl (opD_move (os rfl oz)) ?_
          refine rts _ rfl (opD_move (ls rfl oz)) ?_
          refine rts _ rfl (opD_move (ls rfl (ls rfl (os rfl (os rfl oz))))) ?_
          replace hz_7 := ixb_some hz_7
          obtain ⟨x_9, hx_9, hbx_9, hz_7⟩ := hz_7
          refine rts _ rfl (opD_indexAddr_sl (i := t_2.2.toNat) Go.Proofs.Tryd.underlying47 sz71_W1 (ls rfl lz) lz hbx_9.2.2 hbx_9.2.1) ?_
          refine rts _ rfl (opD_fieldAddr_el fo71_0_W1 lz) ?_
          refine rts _ rfl (opD_load_el_one ag3_W1 lz hx_9 rfl) ?_
          refine rts _ rfl (opD_move (ls rfl (ls rfl (ls rfl (ls rfl (ls rfl (ls rfl (os rfl (os rfl (os rfl oz)))))))))) ?_
          refine rts _ rfl (opD_add (ls rfl lz) lz rfl) ?_
          refine rts _ rfl (opD_buildOwn (k := kI .i64) ([IntKind.i64.wrap (x_9.From + t_6.2)] : (List Int)) Go.Proofs.Tryd.underlying36 sz3_W1 zt3_W1 (by decide) rfl (parts_cons (cells1 lz (one_pl rfl)) parts_nil) rfl rfl (by first | exact List.length_nil | (simp only [List.length_cons, List.length_nil, Nat.zero_add, Nat.reduceAdd] <;> rfl)) (by simp only [na, nb, nc, nd, nf, ng, nh, ni, nj, nk] <;> rfl)) ?_
          replace hz_7 := grd_some hz_7
          obtain ⟨hg_40, hz_7⟩ := hz_7
          refine rts _ rfl (opD_appendX Go.Proofs.Tryd.underlying36 el3_W1 (ls rfl (ls rfl (ls rfl (ls rfl (ls rfl (ls rfl (ls rfl (ls rfl lz)))))))) lz rfl hg_40.1 hg_40.2 rfl (by simp only [na, nb, nc, nd, nf, ng, nh, ni, nj, nk] <;> rfl)) ?_
          refine rts _ rfl (opD_assign lz) ?_
          refine .nil ?_
          refine aw_keep [(0, _), (3, _), (4, _), (5, _)] ⟨lg (ls rfl (ls rfl (ls rfl (ls rfl (ls rfl (ls rfl (ls rfl (ls rfl (ls rfl (ls rfl (ls rfl oz))))))))))), lg lz, lg (ls rfl (ls rfl (ls rfl (ls rfl (ls rfl (ls rfl (ls rfl (ls rfl (ls rfl (ls rfl (ls rfl (os rfl (os rfl oz))))))))))))), lg (ls rfl (ls rfl (ls rfl (ls rfl (ls rfl (ls rfl (ls rfl (ls rfl (ls rfl (ls rfl (ls rfl (os rfl (os rfl (os rfl oz)))))))))))))), trivial⟩ ?_
          refine aw_region (by decide) ?_
          refine rts _ rfl (opD_move (os rfl (os rfl (os rfl oz)))) ?_
          refine rts _ rfl (opD_add lz (ev_const _ _) rfl) ?_
          refine rts _ rfl (opD_assign lz) ?_
          refine .nil ?_
          obtain rfl := some_of hz_7
          replace hz_5 := ocs_l hz_5
          refine wk_yesN rfl (l := [(0, sl kStx none none p0), (3, sl (kI .i64) (some (s.fr.length + 0)) none (t_6.1 ++ ([IntKind.i64.wrap (x_9.From + t_6.2)] : (List Int)))), (4, pl (.int .i64 t_2.2)), (5, pl (.int .i64 (IntKind.i64.wrap (t_6.2 + 1))))]) (bs' := []) ⟨le_of_eq (eg (ls rfl (ls rfl (ls rfl oz)))), le_of_eq (eg (ls rfl (ls rfl (ls rfl (os rfl oz))))), le_of_eq (eg (ls rfl (ls rfl (ls rfl (os rfl (os rfl oz)))))), le_of_eq (eg lz), trivial⟩ (bnd_cons (sl_b kb_Stx) (bnd_cons (sl_ob (kb_I _) (by first | omega | (simp only [List.length_append, List.length_cons, List.length_nil, ext_fr_length, upd_fr_length]; omega))) (bnd_cons (pl_bnd _ _ _) (bnd_cons (pl_bnd _ _ _) bnd_nil)))) (Nat.le_of_ble_eq_true rfl) (by simp only [na, nb, nc, nd, nf, ng, nh, ni, nj, nk] <;> rfl) bxle_nil rfl (by simp only [na, nb, nc, nd, nf, ng, nh, ni, nj, nk] <;> rfl) bl_nil ?_
          exact ⟨m_z_7, Nat.lt_succ_self _, ((t_6.1 ++ ([IntKind.i64.wrap (x_9.From + t_6.2)] : (List Int))), IntKind.i64.wrap (t_6.2 + 1)), ⟨le_of_eq (eg oz), le_of_eq (eg (os rfl oz)), le_of_eq (eg (os rfl (os rfl oz))), le_of_eq (eg (os rfl (os rfl (os rfl oz)))), trivial⟩, rfl, hz_5⟩
        · skip
          replace hz_7 := ifb_f hz_7 hc
          clear hc
          refine aw_exit ?_
          obtain rfl := some_of hz_7
          replace hz_5 := ocs_r hz_5
          refine wk_no ?_
          refine wk_yesN rfl (l := [(0, sl kStx none none p0), (3, sl (kI .i64) (some (s.fr.length + 0)) none t_6.1), (4, pl (.int .i64 t_2.2))]) (bs' := []) ⟨le_of_eq (eg oz), le_of_eq (eg (os rfl oz)), le_of_eq (eg (os rfl (os rfl oz))), trivial⟩ (bnd_cons (sl_b kb_Stx) (bnd_cons (sl_ob (kb_I _) (by first | omega | (simp only [List.length_append, List.length_cons, List.length_nil, ext_fr_length, upd_fr_length]; omega))) (bnd_cons (pl_bnd _ _ _) bnd_nil))) (Nat.le_of_ble_eq_true rfl) (by simp only [na, nb, nc, nd, nf, ng, nh, ni, nj, nk] <;> rfl) bxle_nil rfl (by simp only [na, nb, nc, nd, nf, ng, nh, ni, nj, nk] <;> rfl) bl_nil ?_
          exact ⟨t_6.1, ⟨le_of_eq (eg oz), le_of_eq (eg (os rfl oz)), le_of_eq (eg (os rfl (os rfl oz))), trivial⟩, rfl, some_of hz_5⟩
      · rintro e st ⟨vz_5, hH, rfl, rfl⟩
        refine aw_keep _ hH ?_
        refine aw_keep [(0, _), (3, _), (4, _)] ⟨lg oz, lg (os rfl oz), lg (os rfl (os rfl oz)), trivial⟩ ?_
        refine aw_region (by decide) ?_
        refine rts _ rfl (opD_move (os rfl (os rfl oz))) ?_
        refine rts _ rfl (opD_add lz (ev_const _ _) rfl) ?_
        refine rts _ rfl (opD_assign lz) ?_
        refine .nil ?_
        obtain rfl := some_of hz_3
        replace hz_1 := ocs_l hz_1
        refine wk_yesN rfl (l := [(0, sl kStx none none p0), (3, sl (kI .i64) (some (s.fr.length + 0)) none vz_5), (4, pl (.int .i64 (IntKind.i64.wrap (t_2.2 + 1))))]) (bs' := []) ⟨le_of_eq (eg (ls rfl (ls rfl (ls rfl oz)))), le_of_eq (eg (ls rfl (ls rfl (ls rfl (os rfl oz))))), le_of_eq (eg lz), trivial⟩ (bnd_cons (sl_b kb_Stx) (bnd_cons (sl_ob (kb_I _) (by first | omega | (simp only [List.length_append, List.length_cons, List.length_nil, ext_fr_length, upd_fr_length]; omega))) (bnd_cons (pl_bnd _ _ _) bnd_nil))) (Nat.le_of_ble_eq_true rfl) (by simp only [na, nb, nc, nd, nf, ng, nh, ni, nj, nk] <;> rfl) bxle_nil rfl (by simp only [na, nb, nc, nd, nf, ng, nh, ni, nj, nk] <;> rfl) bl_nil ?_
        exact ⟨m_z_3, Nat.lt_succ_self _, (vz_5, IntKind.i64.wrap (t_2.2 + 1)), ⟨le_of_eq (eg oz), le_of_eq (eg (os rfl oz)), le_of_eq (eg (os rfl (os rfl oz))), trivial⟩, rfl, hz_1⟩
    · skip
      replace hz_3 := ifb_f hz_3 hc
      clear hc
      refine aw_exit ?_
      obtain rfl := some_of hz_3
      replace hz_1 := ocs_r hz_1
      refine wk_no ?_
      refine wk_yesN rfl (l := [(3, sl (kI .i64) none none t_2.1)]) (bs' := []) ⟨(le_of_eq (eg (os rfl oz))).trans (sl_le _ (some (s.fr.length + 0)) none _), trivial⟩ (bnd_cons (sl_b (kb_I _)) bnd_nil) (Nat.le_of_ble_eq_true rfl) (by simp only [na, nb, nc, nd, nf, ng, nh, ni, nj, nk] <;> rfl) bxle_nil rfl (by simp only [na, nb, nc, nd, nf, ng, nh, ni, nj, nk] <;> rfl) bl_nil ?_
      exact ⟨t_2.1, ⟨le_of_eq (eg oz), trivial⟩, rfl, some_of hz_1⟩
  · rintro e st ⟨vz_1, hH, rfl, rfl⟩
    refine aw_keep _ hH ?_
    refine aw_keep [(3, _)] ⟨lg oz, trivial⟩ ?_
    refine aw_seq ?_
    refine aw_region (by decide) ?_
    refine rts _ rfl (opD_move oz) ?_
    refine rts _ rfl (opD_assign lz) ?_
    refine .nil ?_
    refine aw_keep [(2, _)] ⟨lg lz, trivial⟩ ?_
    refine aw_ret ?_
    obtain rfl := some_of h0
    exact done_ext (.inr rfl) ((res_one rfl (it_tmp oz)).le (Pd.le_refl _)) (sl_b (kb_I _))

def F_r16Page (fl : Nat) (p0 : (List Stx)) (p1 : Int) : Option (Int × Int) :=
  bnd (F_r16May fl p0 1024) fun x_1 => ifb (!x_1) (some (0, 1)) (bnd (F_r16Pages fl p0) fun x_2 => ifb ((decide (p1 < 0)) || (decide ((x_2.length : Int) ≤ p1))) (some (0, 2)) (ixb x_2 p1 fun x_3 => some (x_3, 0)))
set_option maxRecDepth 100000 in
set_option maxHeartbeats 2000000 in
theorem c_r16Page {fl : Nat} {p0 : (List Stx)} {p1 : Int} {R : Int × Int} (h0 : F_r16Page fl p0 p1 = some R) : Pure Go.Proofs.Tryd.prog 29 [sl kStx none none p0, pl (.int .i64 p1)] (tup [pl (.int .i64 R.1), pl (.int .i64 R.2)]) := by
  intro s
  unfold F_r16Page at h0
  refine ac_of_aw s.boxes.length s.fr.length Go.Proofs.Tryd.func29 rfl (by simp [Go.Proofs.Tryd.ntmps29]) ?_
  refine aw_ext0 ?_
  refine aw_keep [(0, _), (1, _)] ⟨lg ez, lg (es ez), trivial⟩ ?_
  refine aw_seq ?_
  refine aw_region (by decide) ?_
  refine rts _ rfl (opD_assign (ev_const _ _)) ?_
  refine rts _ rfl (opD_assign (ev_const _ _)) ?_
  refine .nil ?_
  refine aw_keep [(0, _), (1, _)] ⟨lg (ls rfl (ls rfl oz)), lg (ls rfl (ls rfl (os rfl oz))), trivial⟩ ?_
  refine aw_seq ?_
  refine aw_seq ?_
  refine aw_region (by decide) ?_
  refine rts _ rfl (opD_move oz) ?_
  replace h0 := bnd_some h0
  obtain ⟨x_1, hx_1, h0⟩ := h0
  refine rts _ rfl (opD_pure ht37_W1 (c_r16May hx_1) ⟨le_of_eq lz, le_of_eq (ev_const _ _), trivial⟩) ?_
  refine rts _ rfl (opD_not lz) ?_
  refine .nil ?_
  refine aw_keep [(0, _), (1, _), (9, _)] ⟨lg (ls rfl (ls rfl (ls rfl oz))), lg (ls rfl (ls rfl (ls rfl (os rfl oz)))), lg lz, trivial⟩ ?_
  refine aw_cond _ (os rfl (os rfl oz)) (fun hc => ?_) (fun hc => ?_)
  · skip
    replace h0 := ifb_t h0 hc
    clear hc
    refine aw_seq ?_
    refine aw_region (by decide) ?_
    refine rts _ rfl (opD_assign (ev_const _ _)) ?_
    refine rts _ rfl (opD_assign (ev_const _ _)) ?_
    refine .nil ?_
    refine aw_keep [(4, _), (5, _)] ⟨lg (ls rfl lz), lg lz, trivial⟩ ?_
    refine aw_ret ?_
    obtain rfl := some_of h0
    exact done_ext (.inr rfl) ((res_list (rs := [_, _]) (ps := [_, _]) rfl rfl ⟨it_tmp oz, it_tmp (os rfl oz), trivial⟩).le (tup_le ⟨(Pd.le_refl _), (Pd.le_refl _), trivial⟩)) (tup_bnd (bnd_cons (pl_bnd _ _ _) (bnd_cons (pl_bnd _ _ _) bnd_nil)))
  · skip
    replace h0 := ifb_f h0 hc
    clear hc
    refine aw_skip ?_
    refine aw_keep [(0, _), (1, _)] ⟨lg oz, lg (os rfl oz), trivial⟩ ?_
    refine aw_seq ?_
    refine aw_region (by decide) ?_
    refine rts _ rfl (opD_move oz) ?_
    replace h0 := bnd_some h0
    obtain ⟨x_2, hx_2, h0⟩ := h0
    refine rts _ rfl (opD_pure ht40_W1 (c_r16Pages hx_2) ⟨le_of_eq lz, trivial⟩) ?_
    refine rts _ rfl (opD_assign lz) ?_
    refine .nil ?_
    refine aw_keep [(1, _), (6, _)] ⟨lg (ls rfl (ls rfl (ls rfl (os rfl oz)))), lg lz, trivial⟩ ?_
    refine aw_seq ?_
    refine aw_seq ?_
    refine aw_region (by decide) ?_
    refine rts _ rfl (opD_move oz) ?_
    refine rts _ rfl (opD_lss lz (ev_const _ _)) ?_
    refine rts _ rfl (opD_move lz) ?_
    refine rtg _ rfl lz (fun hg4_3_1 => opD_move (ls rfl (ls rfl (ls rfl oz)))) ?_
    refine rtg _ rfl (ls rfl lz) (fun hg4_4_2 => opD_move (ls rfl (ls rfl (ls rfl (ls rfl (os rfl oz)))))) ?_
    refine rtg _ rfl (ls rfl (ls rfl lz)) (fun hg4_5_3 => opD_len_sl Go.Proofs.Tryd.underlying36 (lz.trans (pif_pos hg4_5_3))) ?_
    refine rtg _ rfl (ls rfl (ls rfl (ls rfl lz))) (fun hg4_6_4 => opD_geq ((ls rfl (ls rfl lz)).trans (pif_pos hg4_6_4)) (lz.trans (pif_pos hg4_6_4))) ?_
    refine rts _ rfl (opD_or (ls rfl (ls rfl (ls rfl (ls rfl lz)))) lz) ?_
    refine .nil ?_
    refine aw_keep [(1, _), (6, _), (19, _)] ⟨lg (ls rfl (ls rfl (ls rfl (ls rfl (ls rfl (ls rfl (ls rfl (ls rfl oz)))))))), lg (ls rfl (ls rfl (ls rfl (ls rfl (ls rfl (ls rfl (ls rfl (ls rfl (os rfl oz))))))))), lg lz, trivial⟩ ?_
    refine aw_cond _ (os rfl (os rfl oz)) (fun hc => ?_) (fun hc => ?_)
    · skip
      replace h0 := ifb_t h0 hc
      clear hc
      refine aw_seq ?_
      refine aw_region (by decide) ?_
      refine rts _ rfl (opD_assign (ev_const _ _)) ?_
      refine rts _ rfl (opD_assign (ev_const _ _)) ?_
      refine .nil ?_
      refine aw_keep [(4, _), (5, _)] ⟨lg (ls rfl lz), lg lz, trivial⟩ ?_
      refine aw_ret ?_
      obtain rfl := some_of h0
      exact done_ext (.inr rfl) ((res_list (rs := [_, _]) (ps := [_, _]) rfl rfl ⟨it_tmp oz, it_tmp (os rfl oz), trivial⟩).le (tup_le ⟨(Pd.le_refl _), (Pd.le_refl _), trivial⟩)) (tup_bnd (bnd_cons (pl_bnd _ _ _) (bnd_cons (pl_bnd _ _ _) bnd_nil)))
    · skip
      replace h0 := ifb_f h0 hc
      clear hc
      refine aw_skip ?_
      refine aw_keep [(1, _), (6, _)] ⟨lg oz, lg (os rfl oz), trivial⟩ ?_
      refine aw_seq ?_
      refine aw_region (by decide) ?_
      refine rts _ rfl (opD_move (os rfl oz)) ?_
      refine rts _ rfl (opD_move (ls rfl oz)) ?_
      replace h0 := ixb_some h0
      obtain ⟨x_3, hx_3, hbx_3, h0⟩ := h0
      refine rts _ rfl (opD_indexAddr_sl (i := p1.toNat) Go.Proofs.Tryd.underlying36 sz3_W1 (ls rfl lz) lz hbx_3.2.2 hbx_3.2.1) ?_
      refine rts _ rfl (opD_load_el_one ag3_W1 lz hx_3 rfl) ?_
      refine rts _ rfl (opD_assign lz) ?_
      refine rts _ rfl (opD_assign (ev_const _ _)) ?_
      refine .nil ?_
      refine aw_keep [(4, _), (5, _)] ⟨lg (ls rfl lz), lg lz, trivial⟩ ?_
      refine aw_ret ?_
      obtain rfl := some_of h0
      exact done_ext (.inr rfl) ((res_list (rs := [_, _]) (ps := [_, _]) rfl rfl ⟨it_tmp oz, it_tmp (os rfl oz), trivial⟩).le (tup_le ⟨(Pd.le_refl _), (Pd.le_refl _), trivial⟩)) (tup_bnd (bnd_cons (pl_bnd _ _ _) (bnd_cons (pl_bnd _ _ _) bnd_nil)))

def F_r16Number_b0 (p1 : Int) (x_2 : ((List Int))) (t_4 : Int) : Option ((Int) ⊕ ((Int × Int) ⊕ (Unit))) :=
  ifb (decide (t_4 < (x_2.length : Int))) (ixb x_2 t_4 fun x_6 => ifb (decide (x_6 = p1)) (some (.inr (.inl (t_4, 0)))) (some (.inl (IntKind.i64.wrap (t_4 + 1))))) (some (.inr (.inr ())))
def F_r16Number (fl : Nat) (p0 : (List Stx)) (p1 : Int) : Option (Int × Int) :=
  bnd (F_r16May fl p0 1024) fun x_1 => ifb (!x_1) (some (0, 1)) (bnd (F_r16Pages fl p0) fun x_2 => bnd (lp (F_r16Number_b0 p1 x_2) fl 0) fun z_3 => ocs z_3 (fun qz_3_0 => some qz_3_0) fun z_3_0 => some (0, 2))
set_option maxRecDepth 100000 in
set_option maxHeartbeats 2000000 in
theorem c_r16Number {fl : Nat} {p0 : (List Stx)} {p1 : Int} {R : Int × Int} (h0 : F_r16Number fl p0 p1 = some R) : Pure Go.Proofs.Tryd.prog 31 [sl kStx none none p0, pl (.int .i64 p1)] (tup [pl (.int .i64 R.1), pl (.int .i64 R.2)]) := by
  intro s
  unfold F_r16Number at h0
  refine ac_of_aw s.boxes.length s.fr.length Go.Proofs.Tryd.func31 rfl (by simp [Go.Proofs.Tryd.ntmps31]) ?_
  refine aw_ext0 ?_
  refine aw_keep [(0, _), (1, _)] ⟨lg ez, lg (es ez), trivial⟩ ?_
  refine aw_seq ?_
  refine aw_region (by decide) ?_
  refine rts _ rfl (opD_assign (ev_const _ _)) ?_
  refine rts _ rfl (opD_assign (ev_const _ _)) ?_
  refine .nil ?_
  refine aw_keep [(0, _), (1, _)] ⟨lg (ls rfl (ls rfl oz)), lg (ls rfl (ls rfl (os rfl oz))), trivial⟩ ?_
  refine aw_seq ?_
  refine aw_seq ?_
  refine aw_region (by decide) ?_
  refine rts _ rfl (opD_move oz) ?_
  replace h0 := bnd_some h0
  obtain ⟨x_1, hx_1, h0⟩ := h0
  refine rts _ rfl (opD_pure ht37_W1 (c_r16May hx_1) ⟨le_of_eq lz, le_of_eq (ev_const _ _), trivial⟩) ?_
  refine rts _ rfl (opD_not lz) ?_
  refine .nil ?_
  refine aw_keep [(0, _), (1, _), (10, _)] ⟨lg (ls rfl (ls rfl (ls rfl oz))), lg (ls rfl (ls rfl (ls rfl (os rfl oz)))), lg lz, trivial⟩ ?_
  refine aw_cond _ (os rfl (os rfl oz)) (fun hc => ?_) (fun hc => ?_)
  · skip
    replace h0 := ifb_t h0 hc
    clear hc
    refine aw_seq ?_
    refine aw_region (by decide) ?_
    refine rts _ rfl (opD_assign (ev_const _ _)) ?_
    refine rts _ rfl (opD_assign (ev_const _ _)) ?_
    refine .nil ?_
    refine aw_keep [(4, _), (5, _)] ⟨lg (ls rfl lz), lg lz, trivial⟩ ?_
    refine aw_ret ?_
    obtain rfl := some_of h0
    exact done_ext (.inr rfl) ((res_list (rs := [_, _]) (ps := [_, _]) rfl rfl ⟨it_tmp oz, it_tmp (os rfl oz), trivial⟩).le (tup_le ⟨(Pd.le_refl _), (Pd.le_refl _), trivial⟩)) (tup_bnd (bnd_cons (pl_bnd _ _ _) (bnd_cons (pl_bnd _ _ _) bnd_nil)))
  · skip
    replace h0 := ifb_f h0 hc
    clear hc
    refine aw_skip ?_
    refine aw_keep [(0, _), (1, _)] ⟨lg oz, lg (os rfl oz), trivial⟩ ?_
    refine aw_seq ?_
    refine aw_region (by decide) ?_
    refine rts _ rfl (opD_move oz) ?_
    replace h0 := bnd_some h0
    obtain ⟨x_2, hx_2, h0⟩ := h0
    refine rts _ rfl (opD_pure ht40_W1 (c_r16Pages hx_2) ⟨le_of_eq lz, trivial⟩) ?_
    refine rts _ rfl (opD_assign lz) ?_
    refine .nil ?_
    refine aw_keep [(1, _), (6, _)] ⟨lg (ls rfl (ls rfl (ls rfl (os rfl oz)))), lg lz, trivial⟩ ?_
    refine aw_seq ?_
    refine aw_seq ?_
    refine aw_region (by decide) ?_
    refine rts _ rfl (opD_assign (ev_const _ _)) ?_
    refine .nil ?_
    refine aw_keep [(1, _), (6, _), (7, _)] ⟨lg (ls rfl oz), lg (ls rfl (os rfl oz)), lg lz, trivial⟩ ?_
    replace h0 := bnd_some h0
    obtain ⟨z_3, hz_3, h0⟩ := h0
    refine aw_mid (fun e st => ∃ v : Unit, Holds e [] ∧ st = s.ext [] [] ∧ (.inr v) = z_3) ?_ ?_
    · skip
      refine aw_wkN rfl 0 0 rfl rfl ?_
      refine aw_block ?_
      refine aw_loop (fun n e st => ∃ v : Int, Holds e [(1, pl (.int .i64 p1)), (6, sl (kI .i64) none none x_2), (7, pl (.int .i64 v))] ∧ st = s.ext [] [] ∧ lp (F_r16Number_b0 p1 x_2) n v = some z_3) fl ⟨0, ⟨le_of_eq (eg oz), le_of_eq (eg (os rfl oz)), le_of_eq (eg (os rfl (os rfl oz))), trivial⟩, rfl, hz_3⟩ ?_
      rintro n e st ⟨t_4, hH, rfl, hz_3⟩
      replace hz_3 := lp_some hz_3
      obtain ⟨m_z_5, z_5, rfl, hz_5, hz_3⟩ := hz_3
      unfold F_r16Number_b0 at hz_5
      refine aw_keep _ hH ?_
      refine aw_wkN rfl 0 0 rfl rfl ?_
      refine aw_seq ?_
      refine aw_seq ?_
      refine aw_region (by decide) ?_
      refine rts _ rfl (opD_move (os rfl (os rfl oz))) ?_
      refine rts _ rfl (opD_move (ls rfl (os rfl oz))) ?_
      refine rts _ rfl (opD_len_sl Go.Proofs.Tryd.underlying36 lz) ?_
      refine rts _ rfl (opD_lss (ls rfl (ls rfl lz)) lz) ?_
      refine .nil ?_
      refine aw_keep [(1, _), (6, _), (7, _), (16, _)] ⟨lg (ls rfl (ls rfl (ls rfl (ls rfl oz)))), lg (ls rfl (ls rfl (ls rfl (ls rfl (os rfl oz))))), lg (ls rfl (ls rfl (ls rfl (ls rfl (os rfl (os rfl oz)))))), lg lz, trivial⟩ ?_
      refine aw_cond _ (os rfl (os rfl (os rfl oz))) (fun hc => ?_) (fun hc => ?_)
      · skip
        replace hz_5 := ifb_t hz_5 hc
        clear hc
        refine aw_skip ?_
        refine aw_keep [(1, _), (6, _), (7, _)] ⟨lg oz, lg (os rfl oz), lg (os rfl (os rfl oz)), trivial⟩ ?_
        refine aw_seq ?_
        refine aw_block ?_
        refine aw_seq ?_
        refine aw_region (by decide) ?_
        refine rts _ rfl (opD_move (os rfl oz)) ?_
        refine rts _ rfl (opD_move (ls rfl (os rfl (os rfl oz)))) ?_
        replace hz_5 := ixb_some hz_5
        obtain ⟨x_6, hx_6, hbx_6, hz_5⟩ := hz_5
        refine rts _ rfl (opD_indexAddr_sl (i := t_4.toNat) Go.Proofs.Tryd.underlying36 sz3_W1 (ls rfl lz) lz hbx_6.2.2 hbx_6.2.1) ?_
        refine rts _ rfl (opD_load_el_one ag3_W1 lz hx_6 rfl) ?_
        refine rts _ rfl (opD_move (ls rfl (ls rfl (ls rfl (ls rfl oz))))) ?_
        refine rts _ rfl (opD_eql (ls rfl lz) lz) ?_
        refine .nil ?_
        refine aw_keep [(1, _), (6, _), (7, _), (24, _)] ⟨lg (ls rfl (ls rfl (ls rfl (ls rfl (ls rfl (ls rfl oz)))))), lg (ls rfl (ls rfl (ls rfl (ls rfl (ls rfl (ls rfl (os rfl oz))))))), lg (ls rfl (ls rfl (ls rfl (ls rfl (ls rfl (ls rfl (os rfl (os rfl oz)))))))), lg lz, trivial⟩ ?_
        refine aw_cond _ (os rfl (os rfl (os rfl oz))) (fun hc => ?_) (fun hc => ?_)
        · skip
          replace hz_5 := ifb_t hz_5 hc
          clear hc
          refine aw_seq ?_
          refine aw_region (by decide) ?_
          refine rts _ rfl (opD_move (os rfl (os rfl oz))) ?_
          refine rts _ rfl (opD_assign lz) ?_
          refine rts _ rfl (opD_assign (ev_const _ _)) ?_
          refine .nil ?_
          refine aw_keep [(4, _), (5, _)] ⟨lg (ls rfl lz), lg lz, trivial⟩ ?_
          refine aw_ret ?_
          obtain rfl := some_of hz_5
          replace hz_3 := ocs_r hz_3
          obtain rfl := some_of hz_3
          replace h0 := ocs_l h0
          refine wk_no ?_
          refine wk_no ?_
          obtain rfl := some_of h0
          exact done_ext (.inr rfl) ((res_list (rs := [_, _]) (ps := [_, _]) rfl rfl ⟨it_tmp oz, it_tmp (os rfl oz), trivial⟩).le (tup_le ⟨(Pd.le_refl _), (Pd.le_refl _), trivial⟩)) (tup_bnd (bnd_cons (pl_bnd _ _ _) (bnd_cons (pl_bnd _ _ _) bnd_nil)))
        · skip
          replace hz_5 := ifb_f hz_5 hc
          clear hc
          refine aw_skip ?_
          refine aw_keep [(1, _), (6, _), (7, _)] ⟨lg oz, lg (os rfl oz), lg (os rfl (os rfl oz)), trivial⟩ ?_
          refine aw_region (by decide) ?_
          refine rts _ rfl (opD_move (os rfl (os rfl oz))) ?_
          refine rts _ rfl (opD_add lz (ev_const _ _) rfl) ?_
          refine rts _ rfl (opD_assign lz) ?_
          refine .nil ?_
          obtain rfl := some_of hz_5
          replace hz_3 := ocs_l hz_3
          refine wk_yesN rfl (l := [(1, pl (.int .i64 p1)), (6, sl (kI .i64) none none x_2), (7, pl (.int .i64 (IntKind.i64.wrap (t_4 + 1))))]) (bs' := []) ⟨le_of_eq (eg (ls rfl (ls rfl (ls rfl oz)))), le_of_eq (eg (ls rfl (ls rfl (ls rfl (os rfl oz))))), le_of_eq (eg lz), trivial⟩ (bnd_cons (pl_bnd _ _ _) (bnd_cons (sl_b (kb_I _)) (bnd_cons (pl_bnd _ _ _) bnd_nil))) (Nat.le_of_ble_eq_true rfl) (by simp only [na, nb, nc, nd, nf, ng, nh, ni, nj, nk] <;> rfl) bxle_nil rfl (by simp only [na, nb, nc, nd, nf, ng, nh, ni, nj, nk] <;> rfl) bl_nil ?_
          exact ⟨m_z_5, Nat.lt_succ_self _, IntKind.i64.wrap (t_4 + 1), ⟨le_of_eq (eg oz), le_of_eq (eg (os rfl oz)), le_of_eq (eg (os rfl (os rfl oz))), trivial⟩, rfl, hz_3⟩
      · skip
        replace hz_5 := ifb_f hz_5 hc
        clear hc
        refine aw_exit ?_
        obtain rfl := some_of hz_5
        replace hz_3 := ocs_r hz_3
        refine wk_no ?_
        refine wk_yesN rfl (l := []) (bs' := []) trivial bnd_nil (Nat.le_of_ble_eq_true rfl) (by simp only [na, nb, nc, nd, nf, ng, nh, ni, nj, nk] <;> rfl) bxle_nil rfl (by simp only [na, nb, nc, nd, nf, ng, nh, ni, nj, nk] <;> rfl) bl_nil ?_
        exact ⟨(), trivial, rfl, some_of hz_3⟩
    · rintro e st ⟨vz_3, hH, rfl, rfl⟩
      refine aw_keep _ hH ?_
      replace h0 := ocs_r h0
      refine aw_keep [] trivial ?_
      refine aw_seq ?_
      refine aw_region (by decide) ?_
      refine rts _ rfl (opD_assign (ev_const _ _)) ?_
      refine rts _ rfl (opD_assign (ev_const _ _)) ?_
      refine .nil ?_
      refine aw_keep [(4, _), (5, _)] ⟨lg (ls rfl lz), lg lz, trivial⟩ ?_
      refine aw_ret ?_
      obtain rfl := some_of h0
      exact done_ext (.inr rfl) ((res_list (rs := [_, _]) (ps := [_, _]) rfl rfl ⟨it_tmp oz, it_tmp (os rfl oz), trivial⟩).le (tup_le ⟨(Pd.le_refl _), (Pd.le_refl _), trivial⟩)) (tup_bnd (bnd_cons (pl_bnd _ _ _) (bnd_cons (pl_bnd _ _ _) bnd_nil)))
end Go.Proofs.YtjbgddpaclcjfaaDoor.Eng.A

namespace Go.Proofs.YtjbgddpaclcjfaaDoor.Eng.Ha
open Go.RowKit Go.Proofs.YtjbgddpaclcjfaaDoor.Plain Go.Proofs.YtjbgddpaclcjfaaDoor.Eng

theorem sz137 : sizeT Go.Proofs.Tryd.prog 137 = some 2 := by kernel_rfl
theorem zt137 : zeroT Go.Proofs.Tryd.prog 137 = some [.int .i64 0, .int .i64 0] := by kernel_rfl
theorem el137 : elT Go.Proofs.Tryd.prog 137 = some (2, 16) := by kernel_rfl

open Go.Proofs.YtjbgddpaclcjfaaDoor.Eng.A

set_option maxRecDepth 100000 in
set_option maxHeartbeats 1000000 in
theorem clhX_nil {s : St} : AC Go.Proofs.Tryd.prog 95 [sl kStx none (some true) ([] : List Stx)] s (hsl s.boxes.length 4 0 ([] : List Stx).length kStx.sz) (s.ext [⟨hot 137 4, flat kStx ([] : List Stx)⟩] []) := by
  refine ac_of_aw (s.boxes.length + 1) s.fr.length Go.Proofs.Tryd.func95 rfl (by simp [Go.Proofs.Tryd.ntmps95]) ?_
  refine aw_ext0 ?_
  refine aw_keep [(0, _)] ⟨lg ez, trivial⟩ ?_
  refine aw_seq ?_
  refine aw_region (by decide) ?_
  refine rts _ rfl (opD_assign (ev_const _ _)) ?_
  refine .nil ?_
  refine aw_keep [(2, _), (0, _)] ⟨lg lz, lg (ls rfl oz), trivial⟩ ?_
  refine aw_seq ?_
  refine aw_seq ?_
  refine aw_region (by decide) ?_
  refine rts _ rfl (opD_move (os rfl oz)) ?_
  refine rts _ rfl (opD_eqnil Go.Proofs.Tryd.underlying48 lz) ?_
  refine .nil ?_
  refine aw_keep [(4, _), (2, _), (0, _)] ⟨lg lz, lg (ls rfl (ls rfl oz)), lg (ls rfl (ls rfl (os rfl oz))), trivial⟩ ?_
  refine aw_cond _ oz (fun hc => ?_) (fun hc => ?_)
  · skip
    refine aw_seq ?_
    refine aw_region (by decide) ?_
    refine rts _ rfl (nilHN rfl kStx (n := 0) (r := 4) (te := 137) rfl rfl (ev_const _ _) rfl) ?_
    refine .nil ?_
    refine aw_keep [(2, _), (4, _), (0, _)] ⟨lg lz, lg (ls rfl oz), lg (ls rfl (os rfl (os rfl oz))), trivial⟩ ?_
    refine aw_ret ?_
    exact done_newP (.inr rfl) (res_1 rfl (eg oz)) (hsl_bnd _ (by omega)) (flatKB kb_Stx)
  · skip
    exfalso; revert hc; simp

set_option maxRecDepth 100000 in
set_option maxHeartbeats 1000000 in
theorem clhX_some {s : St} {l : List Stx} (hl : l.length * 16 ≤ 140737488355328) (hl2 : l.length ≤ 140737488355328) : AC Go.Proofs.Tryd.prog 95 [sl kStx none (some false) l] s (hsl s.boxes.length 4 0 l.length kStx.sz) (s.ext [⟨hot 137 4, flat kStx l⟩] []) := by
  refine ac_of_aw (s.boxes.length + 1) s.fr.length Go.Proofs.Tryd.func95 rfl (by simp [Go.Proofs.Tryd.ntmps95]) ?_
  refine aw_ext0 ?_
  refine aw_keep [(0, _)] ⟨lg ez, trivial⟩ ?_
  refine aw_seq ?_
  refine aw_region (by decide) ?_
  refine rts _ rfl (opD_assign (ev_const _ _)) ?_
  refine .nil ?_
  refine aw_keep [(2, _), (0, _)] ⟨lg lz, lg (ls rfl oz), trivial⟩ ?_
  refine aw_seq ?_
  refine aw_seq ?_
  refine aw_region (by decide) ?_
  refine rts _ rfl (opD_move (os rfl oz)) ?_
  refine rts _ rfl (opD_eqnil Go.Proofs.Tryd.underlying48 lz) ?_
  refine .nil ?_
  refine aw_keep [(4, _), (2, _), (0, _)] ⟨lg lz, lg (ls rfl (ls rfl oz)), lg (ls rfl (ls rfl (os rfl oz))), trivial⟩ ?_
  refine aw_cond _ oz (fun hc => ?_) (fun hc => ?_)
  · skip
    exfalso; revert hc; simp
  · skip
    refine aw_skip ?_
    refine aw_keep [(4, _), (2, _), (0, _)] ⟨lg oz, lg (os rfl oz), lg (os rfl (os rfl oz)), trivial⟩ ?_
    refine aw_seq ?_
    refine aw_region (by decide) ?_
    refine rts _ rfl (buildEmptyHN (k := kStx) rfl Go.Proofs.Tryd.underlying48 sz137 zt137 rfl (by first | exact List.length_nil | (simp only [List.length_cons, List.length_nil, Nat.zero_add, Nat.reduceAdd]; rfl)) (by simp only [List.nil_append, List.cons_append, List.map_cons, List.map_nil, List.set_cons_zero, List.set_cons_succ, List.take_succ_cons, List.take_zero, List.drop_succ_cons, List.drop_zero]; rfl)) ?_
    refine rts _ rfl (opD_move (ls rfl (os rfl (os rfl oz)))) ?_
    refine rts _ rfl (appendHN (k := kStx) (l := []) rfl Go.Proofs.Tryd.underlying48 el137 rfl (Nat.le_refl 2) rfl (ls rfl lz) lz rfl kb_Stx (by simpa using hl) (by simp; omega) rfl) ?_
    refine rts _ rfl (opD_assign lz) ?_
    refine .nil ?_
    refine aw_keep [(2, _), (4, _), (0, _)] ⟨lg lz, lg (ls rfl (ls rfl (ls rfl (ls rfl oz)))), lg (ls rfl (ls rfl (ls rfl (ls rfl (os rfl (os rfl oz)))))), trivial⟩ ?_
    refine aw_ret ?_
    exact done_newP (.inr rfl) (res_1 rfl (eg oz)) (hsl_bnd _ (by omega)) (flatKB kb_Stx)

set_option maxRecDepth 100000 in
set_option maxHeartbeats 1000000 in
theorem cloneX_nil : Own1 Go.Proofs.Tryd.prog 95 [sl kStx none (some true) ([] : List Stx)] kStx 137 none ([] : List Stx) := by
  intro s
  refine ac_of_aw s.boxes.length (s.fr.length + 1) Go.Proofs.Tryd.func95 rfl (by simp [Go.Proofs.Tryd.ntmps95]) ?_
  refine aw_ext0 ?_
  refine aw_keep [(0, _)] ⟨lg ez, trivial⟩ ?_
  refine aw_seq ?_
  refine aw_region (by decide) ?_
  refine rts _ rfl (opD_assign (ev_const _ _)) ?_
  refine .nil ?_
  refine aw_keep [(2, _), (0, _)] ⟨lg lz, lg (ls rfl oz), trivial⟩ ?_
  refine aw_seq ?_
  refine aw_seq ?_
  refine aw_region (by decide) ?_
  refine rts _ rfl (opD_move (os rfl oz)) ?_
  refine rts _ rfl (opD_eqnil Go.Proofs.Tryd.underlying48 lz) ?_
  refine .nil ?_
  refine aw_keep [(4, _), (2, _), (0, _)] ⟨lg lz, lg (ls rfl (ls rfl oz)), lg (ls rfl (ls rfl (os rfl oz))), trivial⟩ ?_
  refine aw_cond _ oz (fun hc => ?_) (fun hc => ?_)
  · skip
    refine aw_fr ⟨137, 2, 0⟩ ?_
    refine aw_seq ?_
    refine aw_region (by decide) ?_
    refine rts _ rfl (opD_assign (ev_const _ _)) ?_
    refine .nil ?_
    refine aw_keep [(2, _), (4, _), (0, _)] ⟨lg lz, lg (ls rfl oz), lg (ls rfl (os rfl (os rfl oz))), trivial⟩ ?_
    refine aw_ret ?_
    exact done_own (.inr rfl) ((res_1 rfl (eg oz)).le ((nil_le _ _).trans (sl_nl _ _ _ _))) rfl (kbl kb_Stx _ _ _)
  · skip
    exfalso; revert hc; simp

set_option maxRecDepth 100000 in
set_option maxHeartbeats 1000000 in
theorem cloneX_some {l : List Stx} (hl : l.length * 16 ≤ 140737488355328) (hl2 : l.length ≤ 140737488355328) : Own1 Go.Proofs.Tryd.prog 95 [sl kStx none (some false) l] kStx 137 none l := by
  intro s
  refine ac_of_aw s.boxes.length (s.fr.length + 1) Go.Proofs.Tryd.func95 rfl (by simp [Go.Proofs.Tryd.ntmps95]) ?_
  refine aw_ext0 ?_
  refine aw_keep [(0, _)] ⟨lg ez, trivial⟩ ?_
  refine aw_seq ?_
  refine aw_region (by decide) ?_
  refine rts _ rfl (opD_assign (ev_const _ _)) ?_
  refine .nil ?_
  refine aw_keep [(2, _), (0, _)] ⟨lg lz, lg (ls rfl oz), trivial⟩ ?_
  refine aw_seq ?_
  refine aw_seq ?_
  refine aw_region (by decide) ?_
  refine rts _ rfl (opD_move (os rfl oz)) ?_
  refine rts _ rfl (opD_eqnil Go.Proofs.Tryd.underlying48 lz) ?_
  refine .nil ?_
  refine aw_keep [(4, _), (2, _), (0, _)] ⟨lg lz, lg (ls rfl (ls rfl oz)), lg (ls rfl (ls rfl (os rfl oz))), trivial⟩ ?_
  refine aw_cond _ oz (fun hc => ?_) (fun hc => ?_)
  · skip
    exfalso; revert hc; simp
  · skip
    refine aw_skip ?_
    refine aw_keep [(4, _), (2, _), (0, _)] ⟨lg oz, lg (os rfl oz), lg (os rfl (os rfl oz)), trivial⟩ ?_
    refine aw_seq ?_
    refine aw_region (by decide) ?_
    refine rts _ rfl (opD_buildEmpty (k := kStx) Go.Proofs.Tryd.underlying48 sz137 zt137 rfl (by first | exact List.length_nil | (simp only [List.length_cons, List.length_nil, Nat.zero_add, Nat.reduceAdd]; rfl)) (by simp only [List.nil_append, List.cons_append, List.map_cons, List.map_nil, List.set_cons_zero, List.set_cons_succ, List.take_succ_cons, List.take_zero, List.drop_succ_cons, List.drop_zero]; rfl)) ?_
    refine rts _ rfl (opD_move (ls rfl (os rfl (os rfl oz)))) ?_
    refine rts _ rfl ((by first | exact opD_appendX Go.Proofs.Tryd.underlying48 el137 (ls rfl lz) lz rfl (by first | omega | (simp only [List.length_cons, List.length_nil, List.length_append]; omega)) (by first | omega | (simp only [List.length_cons, List.length_nil, List.length_append]; omega)) (by first | (with_reducible exact List.nil_append _) | exact rfl) (by simp only [List.nil_append, List.cons_append, List.map_cons, List.map_nil, List.set_cons_zero, List.set_cons_succ, List.take_succ_cons, List.take_zero, List.drop_succ_cons, List.drop_zero]; rfl) | exact opD_appendN (k := kStx) Go.Proofs.Tryd.underlying48 el137 (ls rfl lz) lz (by first | omega | (simp only [List.length_cons, List.length_nil, List.length_append]; omega)) (by first | omega | (simp only [List.length_cons, List.length_nil, List.length_append]; omega)) (by first | exact List.length_nil | (simp only [List.length_cons, List.length_nil, Nat.zero_add, Nat.reduceAdd]; rfl)) (by simp only [List.nil_append, List.cons_append, List.map_cons, List.map_nil, List.set_cons_zero, List.set_cons_succ, List.take_succ_cons, List.take_zero, List.drop_succ_cons, List.drop_zero]; rfl))) ?_
    refine rts _ rfl (opD_assign lz) ?_
    refine .nil ?_
    refine aw_keep [(2, _), (4, _), (0, _)] ⟨lg lz, lg (ls rfl (ls rfl (ls rfl (ls rfl oz)))), lg (ls rfl (ls rfl (ls rfl (ls rfl (os rfl (os rfl oz)))))), trivial⟩ ?_
    refine aw_ret ?_
    exact done_own (.inr rfl) (res_1 rfl (eg oz)) rfl (kbl kb_Stx _ _ _)

theorem cloneX {l : List Stx} (hl : l.length * 16 ≤ 140737488355328) (hl2 : l.length ≤ 140737488355328) : Own1 Go.Proofs.Tryd.prog 95 [sl kStx none none l] kStx 137 none l := fun s => ac_nl (fun h => by subst h; exact cloneX_nil s) (cloneX_some hl hl2 s)

theorem clX {l : List Stx} (hl : l.length * 16 ≤ 140737488355328) (hl2 : l.length ≤ 140737488355328) : ∀ s, AC Go.Proofs.Tryd.prog 95 [sl kStx none none l] s (hsl s.boxes.length 4 0 l.length kStx.sz) (s.ext [⟨hot 137 4, flat kStx l⟩] []) := fun s => ac_nl (fun h => by subst h; exact clhX_nil) (clhX_some hl hl2)
def oCloneX {α : Type} (b : Nat) (l : List α) : Option (List α) := grd (Fits b l.length ∧ l.length ≤ 140737488355328) (some l)
theorem c_oCloneX {p0 R : List Stx} (h0 : oCloneX 16 p0 = some R) : Own1 Go.Proofs.Tryd.prog 95 [sl kStx none none p0] kStx 137 none R := by
  obtain ⟨⟨h1, h2⟩, h3⟩ := grd_some h0
  obtain rfl := some_of h3
  exact cloneX h1.1 h2
end Go.Proofs.YtjbgddpaclcjfaaDoor.Eng.Ha

