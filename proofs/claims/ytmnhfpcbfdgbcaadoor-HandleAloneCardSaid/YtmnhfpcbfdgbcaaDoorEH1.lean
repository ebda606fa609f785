/- EH1: what functions do, walked; used by the laws of this seat. -/
import Derived.Test.YtmnhfpcbfdgbcaaDoorEU1
import Derived.Test.YtmnhfpcbfdgbcaaDoorEW2
import Derived.Test.YtmnhfpcbfdgbcaaDoorEX6
import Derived.Test.YtmnhfpcbfdgbcaaDoorEX5
import Derived.Test.YtmnhfpcbfdgbcaaDoorEX7
namespace Go.Proofs.YtmnhfpcbfdgbcaaDoor.Eng.A
set_option linter.unusedVariables false
set_option linter.unusedSimpArgs false
open Go.RowKit Go.Proofs.YtmnhfpcbfdgbcaaDoor.Plain Go.Proofs.YtmnhfpcbfdgbcaaDoor.Eng Go.Proofs.YtmnhfpcbfdgbcaaDoor.Eng.Pk Go.Proofs.YtmnhfpcbfdgbcaaDoor.Eng.Rd

theorem ag22_U10 : aggT Go.Proofs.Tryd.prog 22 = some false := by kernel_rfl
theorem fo147_0_U10 : fieldOff Go.Proofs.Tryd.prog 147 0 = some 0 := by kernel_rfl
theorem ag144_U10 : aggT Go.Proofs.Tryd.prog 144 = some false := by kernel_rfl
theorem fo147_1_U10 : fieldOff Go.Proofs.Tryd.prog 147 1 = some 1 := by kernel_rfl
theorem ag145_U10 : aggT Go.Proofs.Tryd.prog 145 = some false := by kernel_rfl
theorem sz4_U10 : sizeT Go.Proofs.Tryd.prog 4 = some 1 := by kernel_rfl
theorem ag4_U10 : aggT Go.Proofs.Tryd.prog 4 = some false := by kernel_rfl
theorem sz148_U10 : sizeT Go.Proofs.Tryd.prog 148 = some 5 := by kernel_rfl
theorem fo148_0_U10 : fieldOff Go.Proofs.Tryd.prog 148 0 = some 0 := by kernel_rfl
theorem ag148_U10 : aggT Go.Proofs.Tryd.prog 148 = some true := by kernel_rfl
theorem zt148_U10 : zeroT Go.Proofs.Tryd.prog 148 = some [.int .u64 0, .int .u64 0, .int .u64 0, .int .u64 0, .int .u64 0] := by kernel_rfl
theorem el148_U10 : elT Go.Proofs.Tryd.prog 148 = some (5, 40) := by kernel_rfl
theorem zt147_U10 : zeroT Go.Proofs.Tryd.prog 147 = some [.slice none 0 0, .slice none 0 0] := by kernel_rfl
theorem ag147_U10 : aggT Go.Proofs.Tryd.prog 147 = some true := by kernel_rfl
theorem sz147_U10 : sizeT Go.Proofs.Tryd.prog 147 = some 2 := by kernel_rfl
theorem ht84_U10 : hasText Go.Proofs.Tryd.prog 84 = true := by kernel_rfl
theorem fo148_1_U10 : fieldOff Go.Proofs.Tryd.prog 148 1 = some 1 := by kernel_rfl
theorem sz22_U10 : sizeT Go.Proofs.Tryd.prog 22 = some 1 := by kernel_rfl
theorem mixed_U10 : Go.Proofs.Tryd.prog.follows .mixedOrders = true := by kernel_rfl
theorem el4_U10 : elT Go.Proofs.Tryd.prog 4 = some (1, 1) := by kernel_rfl
theorem zt4_U10 : zeroT Go.Proofs.Tryd.prog 4 = some [.bool false] := by kernel_rfl
theorem pt147_U10 : placesT Go.Proofs.Tryd.prog 147 2 = some [(0, 1), (1, 1)] := by kernel_rfl
theorem pt148_U10 : placesT Go.Proofs.Tryd.prog 148 5 = some [(0, 1), (1, 1), (2, 1), (3, 1), (4, 1)] := by kernel_rfl
theorem fo148_2_U10 : fieldOff Go.Proofs.Tryd.prog 148 2 = some 2 := by kernel_rfl
theorem sz137_U10 : sizeT Go.Proofs.Tryd.prog 137 = some 5 := by kernel_rfl
theorem ag137_U10 : aggT Go.Proofs.Tryd.prog 137 = some true := by kernel_rfl

open Go.Proofs.YtmnhfpcbfdgbcaaDoor.Eng.Er Go.Proofs.YtmnhfpcbfdgbcaaDoor.Eng.Er2

structure Itm where
  Who : Int
  No : Int
  Space : Int
  Gen : Int
  Txn : Int
  deriving DecidableEq
instance : Inhabited Itm := ⟨⟨0, 0, 0, 0, 0⟩⟩
def kItm : Kn Itm := ⟨5, fun x => [pl (.int .u64 x.Who), pl (.int .u64 x.No), pl (.int .u64 x.Space), pl (.int .u64 x.Gen), pl (.int .u64 x.Txn)], fun _ => rfl, fun x p hp => by
  have h : ∀ p ∈ [pl (.int .u64 x.Who), pl (.int .u64 x.No), pl (.int .u64 x.Space), pl (.int .u64 x.Gen), pl (.int .u64 x.Txn)], Pd.One p := (ones_cons (one_pl rfl) (ones_cons (one_pl rfl) (ones_cons (one_pl rfl) (ones_cons (one_pl rfl) (ones_cons (one_pl rfl) ones_nil)))))
  exact h p hp⟩
theorem kb_Itm : KB kItm := fun x n m p hp => ((bnd_cons (pl_bnd _ _ _) (bnd_cons (pl_bnd _ _ _) (bnd_cons (pl_bnd _ _ _) (bnd_cons (pl_bnd _ _ _) (bnd_cons (pl_bnd _ _ _) bnd_nil))))) : ∀ p ∈ [pl (.int .u64 x.Who), pl (.int .u64 x.No), pl (.int .u64 x.Space), pl (.int .u64 x.Gen), pl (.int .u64 x.Txn)], p.Bnd n m) p hp

structure Tab where
  L : (List Itm)
  There : (List Bool)
  deriving DecidableEq
instance : Inhabited Tab := ⟨⟨[], []⟩⟩
theorem eq_Itm (a0 : Int) (a1 : Int) (a2 : Int) (a3 : Int) (a4 : Int) (b0 : Int) (b1 : Int) (b2 : Int) (b3 : Int) (b4 : Int) (w : World) : (binOp .eql 137 (.agg [.int .u64 a0, .int .u64 a1, .int .u64 a2, .int .u64 a3, .int .u64 a4].toArray) (.agg [.int .u64 b0, .int .u64 b1, .int .u64 b2, .int .u64 b3, .int .u64 b4].toArray)).run Go.Proofs.Tryd.prog w = .ok (.bool (decide (a0 = b0) && (decide (a1 = b1) && (decide (a2 = b2) && (decide (a3 = b3) && (decide (a4 = b4) && true)))))) w ∧ (binOp .neq 137 (.agg [.int .u64 a0, .int .u64 a1, .int .u64 a2, .int .u64 a3, .int .u64 a4].toArray) (.agg [.int .u64 b0, .int .u64 b1, .int .u64 b2, .int .u64 b3, .int .u64 b4].toArray)).run Go.Proofs.Tryd.prog w = .ok (.bool (!(decide (a0 = b0) && (decide (a1 = b1) && (decide (a2 = b2) && (decide (a3 = b3) && (decide (a4 = b4) && true))))))) w := by
  have h := eqS (P := Go.Proofs.Tryd.prog) (t := 137) (xs := [.int .u64 a0, .int .u64 a1, .int .u64 a2, .int .u64 a3, .int .u64 a4].toArray) (ys := [.int .u64 b0, .int .u64 b1, .int .u64 b2, .int .u64 b3, .int .u64 b4].toArray) (w := w) Go.Proofs.Tryd.underlying137 (by kernel_rfl) (eqf_cons (by decide) (run_part_one ag22_U10 rfl w) (run_part_one ag22_U10 rfl w) (run_equalIn_int w _ _ _ _ _ _ Go.Proofs.Tryd.underlying22) (eqf_cons (by decide) (run_part_one ag22_U10 rfl w) (run_part_one ag22_U10 rfl w) (run_equalIn_int w _ _ _ _ _ _ Go.Proofs.Tryd.underlying22) (eqf_cons (by decide) (run_part_one ag22_U10 rfl w) (run_part_one ag22_U10 rfl w) (run_equalIn_int w _ _ _ _ _ _ Go.Proofs.Tryd.underlying22) (eqf_cons (by decide) (run_part_one ag22_U10 rfl w) (run_part_one ag22_U10 rfl w) (run_equalIn_int w _ _ _ _ _ _ Go.Proofs.Tryd.underlying22) (eqf_cons (by decide) (run_part_one ag22_U10 rfl w) (run_part_one ag22_U10 rfl w) (run_equalIn_int w _ _ _ _ _ _ Go.Proofs.Tryd.underlying22) eqf_nil)))))
  simp only [str_beq, beq_dec, Bool.and_assoc, Bool.true_and] at h
  exact h

theorem eq_Itm_g (op : BinOp) (t u : Operand) (xs ys : Array Value) (w : World) : (eqGuard op 137 t u (.agg xs) (.agg ys)).run Go.Proofs.Tryd.prog w = .ok () w := run_eqGuard_agg w op 137 t u _ _ (by kernel_rfl)

def F_hof2_b0 (p0 : Tab) (p1 : Int) (t_2 : (List Itm) × Int) : Option (((List Itm) × Int) ⊕ (((List Itm)))) :=
  ifb (decide (t_2.2 < (p0.L.length : Int))) (bnd (ixb p0.There t_2.2 fun x_5 => grd ((x_5 == true) = true → Below t_2.2 p0.L.length) <| ifb (x_5 && (decide (((p0.L.getD t_2.2.toNat default).Who) = p1))) (ixb p0.L t_2.2 fun x_6 => grd (Fits 40 (t_2.1.length + ([x_6] : (List Itm)).length)) <| some (t_2.1 ++ ([x_6] : (List Itm)))) (some t_2.1)) fun z_4 => some (.inl (z_4, IntKind.i64.wrap (t_2.2 + 1)))) (some (.inr t_2.1))
def F_hof2 (fl : Nat) (p0 : Tab) (p1 : Int) : Option ((List Itm)) :=
  bnd (lp (F_hof2_b0 p0 p1) fl (([] : (List Itm)), 0)) fun z_1 => some z_1
set_option maxRecDepth 100000 in
set_option maxHeartbeats 2000000 in
theorem c_hof2 {fl : Nat} {p0 : Tab} {p1 : Int} {R : (List Itm)} (h0 : F_hof2 fl p0 p1 = some R) : Pure Go.Proofs.Tryd.prog 84 [agg [sl kItm none none p0.L, sl kB none none p0.There], pl (.int .u64 p1)] (sl kItm none none R) := by
  intro s
  unfold F_hof2 at h0
  refine ac_of_aw s.boxes.length s.fr.length Go.Proofs.Tryd.func84 rfl (by simp [Go.Proofs.Tryd.ntmps84]) ?_
  refine aw_ext0 ?_
  refine aw_keep [(0, _), (1, _)] ⟨lg ez, lg (es ez), trivial⟩ ?_
  refine aw_seq ?_
  refine aw_region (by decide) ?_
  refine rts _ rfl (boxAN rfl oz (bnd_cons (sl_b kb_Itm) (bnd_cons (sl_b kb_B) bnd_nil)) (by first | exact List.length_nil | (simp only [List.length_cons, List.length_nil, Nat.zero_add, Nat.reduceAdd] <;> rfl)) (by simp only [na, nb, nc, nd, nf, ng, nh, ni, nj, nk] <;> rfl)) ?_
  refine rts _ rfl (opD_assign (ev_const _ _)) ?_
  refine .nil ?_
  refine aw_keep [(1, _), (2, _)] ⟨lg (ls rfl (ls rfl (os rfl oz))), lg (ls rfl lz), trivial⟩ ?_
  refine aw_seq ?_
  refine aw_region (by decide) ?_
  refine rts _ rfl (opD_assign (ev_const _ _)) ?_
  refine .nil ?_
  refine aw_keep [(1, _), (2, _), (5, _)] ⟨lg (ls rfl oz), lg (ls rfl (os rfl oz)), lg lz, trivial⟩ ?_
  refine aw_seq ?_
  refine aw_seq ?_
  refine aw_region (by decide) ?_
  refine rts _ rfl (opD_assign (ev_const _ _)) ?_
  refine .nil ?_
  refine aw_keep [(1, _), (2, _), (5, _), (6, _)] ⟨lg (ls rfl oz), lg (ls rfl (os rfl oz)), lg (ls rfl (os rfl (os rfl oz))), lg lz, trivial⟩ ?_
  replace h0 := bnd_some h0
  obtain ⟨z_1, hz_1, h0⟩ := h0
  refine aw_mid (fun e st => ∃ v : (List Itm), Holds e [(5, sl kItm none none v)] ∧ st = s.ext [⟨147, [sl kItm none none p0.L, sl kB none none p0.There]⟩] [] ∧ v = z_1) ?_ ?_
  · skip
    refine aw_wkN rfl 1 0 rfl rfl ?_
    refine aw_block ?_
    refine aw_fr ⟨148, 5, 0⟩ ?_
    refine aw_loop (fun n e st => ∃ v : (List Itm) × Int, Holds e [(1, pl (.int .u64 p1)), (2, ptr (s.boxes.length + 0) 0), (5, sl kItm (some (s.fr.length + 0)) none v.1), (6, pl (.int .i64 v.2))] ∧ st = s.ext [⟨147, [sl kItm none none p0.L, sl kB none none p0.There]⟩] [⟨148, 5, v.1.length⟩] ∧ lp (F_hof2_b0 p0 p1) n v = some z_1) fl ⟨(([] : (List Itm)), 0), ⟨le_of_eq (eg oz), le_of_eq (eg (os rfl oz)), (le_of_eq (eg (os rfl (os rfl oz)))).trans (nil_own rfl), le_of_eq (eg (os rfl (os rfl (os rfl oz)))), trivial⟩, rfl, hz_1⟩ ?_
    rintro n e st ⟨t_2, hH, rfl, hz_1⟩
    replace hz_1 := lp_some hz_1
    obtain ⟨m_z_3, z_3, rfl, hz_3, hz_1⟩ := hz_1
    unfold F_hof2_b0 at hz_3
    refine aw_keep _ hH ?_
    refine aw_wkN rfl 1 1 rfl rfl ?_
    refine aw_seq ?_
    refine aw_seq ?_
    refine aw_region (by decide) ?_
    refine rts _ rfl (opD_move (os rfl (os rfl (os rfl oz)))) ?_
    refine rts _ rfl (opD_fieldAddr fo147_0_U10 (ls rfl (os rfl oz))) ?_
    refine rts _ rfl (opD_load_one ag144_U10 lz (loc_getN rfl rfl) rfl) ?_
    refine rts _ rfl (opD_len_sl Go.Proofs.Tryd.underlying144 lz) ?_
    refine rts _ rfl (opD_lss (ls rfl (ls rfl (ls rfl lz))) lz) ?_
    refine .nil ?_
    refine aw_keep [(1, _), (2, _), (5, _), (6, _), (11, _)] ⟨lg (ls rfl (ls rfl (ls rfl (ls rfl (ls rfl oz))))), lg (ls rfl (ls rfl (ls rfl (ls rfl (ls rfl (os rfl oz)))))), lg (ls rfl (ls rfl (ls rfl (ls rfl (ls rfl (os rfl (os rfl oz))))))), lg (ls rfl (ls rfl (ls rfl (ls rfl (ls rfl (os rfl (os rfl (os rfl oz)))))))), lg lz, trivial⟩ ?_
    refine aw_cond _ (os rfl (os rfl (os rfl (os rfl oz)))) (fun hc => ?_) (fun hc => ?_)
    · skip
      replace hz_3 := ifb_t hz_3 hc
      clear hc
      refine aw_skip ?_
      refine aw_keep [(1, _), (2, _), (5, _), (6, _)] ⟨lg oz, lg (os rfl oz), lg (os rfl (os rfl oz)), lg (os rfl (os rfl (os rfl oz))), trivial⟩ ?_
      refine aw_seq ?_
      replace hz_3 := bnd_some hz_3
      obtain ⟨z_4, hz_4, hz_3⟩ := hz_3
      refine aw_mid (fun e st => ∃ v : (List Itm), Holds e [(1, pl (.int .u64 p1)), (2, ptr (s.boxes.length + 0) 0), (5, sl kItm (some (s.fr.length + 0)) none v), (6, pl (.int .i64 t_2.2))] ∧ st = s.ext [⟨147, [sl kItm none none p0.L, sl kB none none p0.There]⟩] [⟨148, 5, v.length⟩] ∧ v = z_4) ?_ ?_
      · skip
        refine aw_wkN rfl 1 1 rfl rfl ?_
        refine aw_block ?_
        refine aw_seq ?_
        refine aw_region (by decide) ?_
        refine rts _ rfl (opD_fieldAddr fo147_1_U10 (os rfl oz)) ?_
        refine rts _ rfl (opD_load_one ag145_U10 lz (loc_getN rfl rfl) rfl) ?_
        refine rts _ rfl (opD_move (ls rfl (ls rfl (os rfl (os rfl (os rfl oz)))))) ?_
        replace hz_4 := ixb_some hz_4
        obtain ⟨x_5, hx_5, hbx_5, hz_4⟩ := hz_4
        refine rts _ rfl (opD_indexAddr_sl (i := t_2.2.toNat) Go.Proofs.Tryd.underlying145 sz4_U10 (ls rfl lz) lz hbx_5.2.2 hbx_5.2.1) ?_
        refine rts _ rfl (opD_load_el_one ag4_U10 lz hx_5 rfl) ?_
        refine rts _ rfl (opD_move lz) ?_
        refine rtg _ rfl lz (fun hg5_6_111 => opD_fieldAddr fo147_0_U10 (ls rfl (ls rfl (ls rfl (ls rfl (ls rfl (ls rfl (os rfl oz)))))))) ?_
        refine rtg _ rfl (ls rfl lz) (fun hg5_7_112 => opD_load_one ag144_U10 (lz.trans (pif_pos hg5_7_112)) (loc_getN rfl rfl) rfl) ?_
        refine rtg _ rfl (ls rfl (ls rfl lz)) (fun hg5_8_113 => opD_move (ls rfl (ls rfl (ls rfl (ls rfl (ls rfl (ls rfl (ls rfl (ls rfl (os rfl (os rfl (os rfl oz)))))))))))) ?_
        replace hz_4 := grd_some hz_4
        obtain ⟨hg_115, hz_4⟩ := hz_4
        refine rtg _ rfl (ls rfl (ls rfl (ls rfl lz))) (fun hg5_9_114 => opD_indexAddr_sl (i := t_2.2.toNat) Go.Proofs.Tryd.underlying144 sz148_U10 ((ls rfl lz).trans (pif_pos hg5_9_114)) (lz.trans (pif_pos hg5_9_114)) (hg_115 hg5_9_114).eq (hg_115 hg5_9_114).2) ?_
        refine rtg _ rfl (ls rfl (ls rfl (ls rfl (ls rfl lz)))) (fun hg5_10_116 => opD_fieldAddr_el fo148_0_U10 (lz.trans (pif_pos hg5_10_116))) ?_
        refine rtg _ rfl (ls rfl (ls rfl (ls rfl (ls rfl (ls rfl lz))))) (fun hg5_11_117 => opD_load_el_one ag22_U10 (lz.trans (pif_pos hg5_11_117)) (at_getD default (hg_115 hg5_11_117).2) rfl) ?_
        refine rtg _ rfl (ls rfl (ls rfl (ls rfl (ls rfl (ls rfl (ls rfl lz)))))) (fun hg5_12_118 => opD_move (ls rfl (ls rfl (ls rfl (ls rfl (ls rfl (ls rfl (ls rfl (ls rfl (ls rfl (ls rfl (ls rfl (ls rfl oz))))))))))))) ?_
        refine rtg _ rfl (ls rfl (ls rfl (ls rfl (ls rfl (ls rfl (ls rfl (ls rfl lz))))))) (fun hg5_13_119 => opD_eql ((ls rfl lz).trans (pif_pos hg5_13_119)) (lz.trans (pif_pos hg5_13_119))) ?_
        refine rts _ rfl (opD_and (ls rfl (ls rfl (ls rfl (ls rfl (ls rfl (ls rfl (ls rfl (ls rfl lz)))))))) lz) ?_
        refine .nil ?_
        refine aw_keep [(1, _), (2, _), (5, _), (6, _), (28, _)] ⟨lg (ls rfl (ls rfl (ls rfl (ls rfl (ls rfl (ls rfl (ls rfl (ls rfl (ls rfl (ls rfl (ls rfl (ls rfl (ls rfl (ls rfl (ls rfl oz))))))))))))))), lg (ls rfl (ls rfl (ls rfl (ls rfl (ls rfl (ls rfl (ls rfl (ls rfl (ls rfl (ls rfl (ls rfl (ls rfl (ls rfl (ls rfl (ls rfl (os rfl oz)))))))))))))))), lg (ls rfl (ls rfl (ls rfl (ls rfl (ls rfl (ls rfl (ls rfl (ls rfl (ls rfl (ls rfl (ls rfl (ls rfl (ls rfl (ls rfl (ls rfl (os rfl (os rfl oz))))))))))))))))), lg (ls rfl (ls rfl (ls rfl (ls rfl (ls rfl (ls rfl (ls rfl (ls rfl (ls rfl (ls rfl (ls rfl (ls rfl (ls rfl (ls rfl (ls rfl (os rfl (os rfl (os rfl oz)))))))))))))))))), lg lz, trivial⟩ ?_
        refine aw_cond _ (os rfl (os rfl (os rfl (os rfl oz)))) (fun hc => ?_) (fun hc => ?_)
        · skip
          replace hz_4 := ifb_t hz_4 hc
          clear hc
          refine aw_region (by decide) ?_
          refine rts _ rfl (opD_move (os rfl (os rfl oz))) ?_
          refine rts _ rfl (opD_fieldAddr fo147_0_U10 (ls rfl (os rfl oz))) ?_
          refine rts _ rfl (opD_load_one ag144_U10 lz (loc_getN rfl rfl) rfl) ?_
          refine rts _ rfl (opD_move (ls rfl (ls rfl (ls rfl (os rfl (os rfl (os rfl oz))))))) ?_
          replace hz_4 := ixb_some hz_4
          obtain ⟨x_6, hx_6, hbx_6, hz_4⟩ := hz_4
          refine rts _ rfl (opD_indexAddr_sl (i := t_2.2.toNat) Go.Proofs.Tryd.underlying144 sz148_U10 (ls rfl lz) lz hbx_6.2.2 hbx_6.2.1) ?_
          refine rts _ rfl (opD_load_el_aggX (qs := [_, _, _, _, _]) ag148_U10 sz148_U10 lz hx_6 (Nat.le_of_ble_eq_true rfl) rfl) ?_
          refine rts _ rfl (opD_buildOwn (k := kItm) ([x_6] : (List Itm)) Go.Proofs.Tryd.underlying144 sz148_U10 zt148_U10 (by decide) rfl (parts_cons (cellsA lz) parts_nil) rfl rfl (by first | exact List.length_nil | (simp only [List.length_cons, List.length_nil, Nat.zero_add, Nat.reduceAdd] <;> rfl)) (by simp only [na, nb, nc, nd, nf, ng, nh, ni, nj, nk] <;> rfl)) ?_
          replace hz_4 := grd_some hz_4
          obtain ⟨hg_120, hz_4⟩ := hz_4
          refine rts _ rfl (opD_appendX Go.Proofs.Tryd.underlying144 el148_U10 (ls rfl (ls rfl (ls rfl (ls rfl (ls rfl (ls rfl lz)))))) lz rfl hg_120.1 hg_120.2 rfl (by simp only [na, nb, nc, nd, nf, ng, nh, ni, nj, nk] <;> rfl)) ?_
          refine rts _ rfl (opD_assign lz) ?_
          refine .nil ?_
          refine wk_yesN rfl (l := [(1, pl (.int .u64 p1)), (2, ptr (s.boxes.length + 0) 0), (5, sl kItm (some (s.fr.length + 0)) none (t_2.1 ++ ([x_6] : (List Itm)))), (6, pl (.int .i64 t_2.2))]) (bs' := [⟨147, [sl kItm none none p0.L, sl kB none none p0.There]⟩]) ⟨le_of_eq (eg (ls rfl (ls rfl (ls rfl (ls rfl (ls rfl (ls rfl (ls rfl (ls rfl (ls rfl oz)))))))))), le_of_eq (eg (ls rfl (ls rfl (ls rfl (ls rfl (ls rfl (ls rfl (ls rfl (ls rfl (ls rfl (os rfl oz))))))))))), le_of_eq (eg lz), le_of_eq (eg (ls rfl (ls rfl (ls rfl (ls rfl (ls rfl (ls rfl (ls rfl (ls rfl (ls rfl (os rfl (os rfl (os rfl oz))))))))))))), trivial⟩ (bnd_cons (pl_bnd _ _ _) (bnd_cons (ptr_bnd _ (by first | omega | (simp only [List.length_append, List.length_cons, List.length_nil]; omega))) (bnd_cons (sl_ob kb_Itm (by first | omega | (simp only [List.length_append, List.length_cons, List.length_nil, ext_fr_length, upd_fr_length]; omega))) (bnd_cons (pl_bnd _ _ _) bnd_nil)))) (Nat.le_of_ble_eq_true rfl) (by simp only [na, nb, nc, nd, nf, ng, nh, ni, nj, nk] <;> rfl) (bxle_same bxle_nil) rfl (by simp only [na, nb, nc, nd, nf, ng, nh, ni, nj, nk] <;> rfl) (bl_cons (bnd_cons (sl_b kb_Itm) (bnd_cons (sl_b kb_B) bnd_nil)) bl_nil) ?_
          exact ⟨(t_2.1 ++ ([x_6] : (List Itm))), ⟨le_of_eq (eg oz), le_of_eq (eg (os rfl oz)), le_of_eq (eg (os rfl (os rfl oz))), le_of_eq (eg (os rfl (os rfl (os rfl oz)))), trivial⟩, rfl, some_of hz_4⟩
        · skip
          replace hz_4 := ifb_f hz_4 hc
          clear hc
          refine aw_skip ?_
          refine wk_yesN rfl (l := [(1, pl (.int .u64 p1)), (2, ptr (s.boxes.length + 0) 0), (5, sl kItm (some (s.fr.length + 0)) none t_2.1), (6, pl (.int .i64 t_2.2))]) (bs' := [⟨147, [sl kItm none none p0.L, sl kB none none p0.There]⟩]) ⟨le_of_eq (eg oz), le_of_eq (eg (os rfl oz)), le_of_eq (eg (os rfl (os rfl oz))), le_of_eq (eg (os rfl (os rfl (os rfl oz)))), trivial⟩ (bnd_cons (pl_bnd _ _ _) (bnd_cons (ptr_bnd _ (by first | omega | (simp only [List.length_append, List.length_cons, List.length_nil]; omega))) (bnd_cons (sl_ob kb_Itm (by first | omega | (simp only [List.length_append, List.length_cons, List.length_nil, ext_fr_length, upd_fr_length]; omega))) (bnd_cons (pl_bnd _ _ _) bnd_nil)))) (Nat.le_of_ble_eq_true rfl) (by simp only [na, nb, nc, nd, nf, ng, nh, ni, nj, nk] <;> rfl) (bxle_same bxle_nil) rfl (by simp only [na, nb, nc, nd, nf, ng, nh, ni, nj, nk] <;> rfl) (bl_cons (bnd_cons (sl_b kb_Itm) (bnd_cons (sl_b kb_B) bnd_nil)) bl_nil) ?_
          exact ⟨t_2.1, ⟨le_of_eq (eg oz), le_of_eq (eg (os rfl oz)), le_of_eq (eg (os rfl (os rfl oz))), le_of_eq (eg (os rfl (os rfl (os rfl oz)))), trivial⟩, rfl, some_of hz_4⟩
      · rintro e st ⟨vz_4, hH, rfl, rfl⟩
        refine aw_keep _ hH ?_
        refine aw_keep [(1, _), (2, _), (5, _), (6, _)] ⟨lg oz, lg (os rfl oz), lg (os rfl (os rfl oz)), lg (os rfl (os rfl (os rfl oz))), trivial⟩ ?_
        refine aw_region (by decide) ?_
        refine rts _ rfl (opD_move (os rfl (os rfl (os rfl oz)))) ?_
        refine rts _ rfl (opD_add lz (ev_const _ _) rfl) ?_
        refine rts _ rfl (opD_assign lz) ?_
        refine .nil ?_
        obtain rfl := some_of hz_3
        replace hz_1 := ocs_l hz_1
        refine wk_yesN rfl (l := [(1, pl (.int .u64 p1)), (2, ptr (s.boxes.length + 0) 0), (5, sl kItm (some (s.fr.length + 0)) none vz_4), (6, pl (.int .i64 (IntKind.i64.wrap (t_2.2 + 1))))]) (bs' := [⟨147, [sl kItm none none p0.L, sl kB none none p0.There]⟩]) ⟨le_of_eq (eg (ls rfl (ls rfl (ls rfl oz)))), le_of_eq (eg (ls rfl (ls rfl (ls rfl (os rfl oz))))), le_of_eq (eg (ls rfl (ls rfl (ls rfl (os rfl (os rfl oz)))))), le_of_eq (eg lz), trivial⟩ (bnd_cons (pl_bnd _ _ _) (bnd_cons (ptr_bnd _ (by first | omega | (simp only [List.length_append, List.length_cons, List.length_nil]; omega))) (bnd_cons (sl_ob kb_Itm (by first | omega | (simp only [List.length_append, List.length_cons, List.length_nil, ext_fr_length, upd_fr_length]; omega))) (bnd_cons (pl_bnd _ _ _) bnd_nil)))) (Nat.le_of_ble_eq_true rfl) (by simp only [na, nb, nc, nd, nf, ng, nh, ni, nj, nk] <;> rfl) (bxle_same bxle_nil) rfl (by simp only [na, nb, nc, nd, nf, ng, nh, ni, nj, nk] <;> rfl) (bl_cons (bnd_cons (sl_b kb_Itm) (bnd_cons (sl_b kb_B) bnd_nil)) bl_nil) ?_
        exact ⟨m_z_3, Nat.lt_succ_self _, (vz_4, IntKind.i64.wrap (t_2.2 + 1)), ⟨le_of_eq (eg oz), le_of_eq (eg (os rfl oz)), le_of_eq (eg (os rfl (os rfl oz))), le_of_eq (eg (os rfl (os rfl (os rfl oz)))), trivial⟩, rfl, hz_1⟩
    · skip
      replace hz_3 := ifb_f hz_3 hc
      clear hc
      refine aw_exit ?_
      obtain rfl := some_of hz_3
      replace hz_1 := ocs_r hz_1
      refine wk_no ?_
      refine wk_yesN rfl (l := [(5, sl kItm none none t_2.1)]) (bs' := [⟨147, [sl kItm none none p0.L, sl kB none none p0.There]⟩]) ⟨(le_of_eq (eg (os rfl (os rfl oz)))).trans (sl_le _ (some (s.fr.length + 0)) none _), trivial⟩ (bnd_cons (sl_b kb_Itm) bnd_nil) (Nat.le_of_ble_eq_true rfl) (by simp only [na, nb, nc, nd, nf, ng, nh, ni, nj, nk] <;> rfl) (bxle_same bxle_nil) rfl (by simp only [na, nb, nc, nd, nf, ng, nh, ni, nj, nk] <;> rfl) (bl_cons (bnd_cons (sl_b kb_Itm) (bnd_cons (sl_b kb_B) bnd_nil)) bl_nil) ?_
      exact ⟨t_2.1, ⟨le_of_eq (eg oz), trivial⟩, rfl, some_of hz_1⟩
  · rintro e st ⟨vz_1, hH, rfl, rfl⟩
    refine aw_keep _ hH ?_
    refine aw_keep [(5, _)] ⟨lg oz, trivial⟩ ?_
    refine aw_seq ?_
    refine aw_region (by decide) ?_
    refine rts _ rfl (opD_move oz) ?_
    refine rts _ rfl (opD_assign lz) ?_
    refine .nil ?_
    refine aw_keep [(4, _)] ⟨lg lz, trivial⟩ ?_
    refine aw_ret ?_
    obtain rfl := some_of h0
    exact done_ext (.inr rfl) ((res_one rfl (it_tmp oz)).le (Pd.le_refl _)) (sl_b kb_Itm)

def F_hgive2_b0 (p0 : Tab) (p1 : Itm) (t_3 : Int × Int) : Option ((Int × Int) ⊕ ((Int))) :=
  ifb (decide (t_3.1 < (p0.L.length : Int))) (bnd (ixb p0.L t_3.1 fun x_6 => ifb (decide (x_6.Who = p1.Who)) (some (IntKind.u64.wrap (t_3.2 + 1))) (some t_3.2)) fun z_5 => some (.inl (IntKind.i64.wrap (t_3.1 + 1), z_5))) (some (.inr t_3.2))
def F_hgive2 (fl : Nat) (p0 : Tab) (p1 : Itm) : Option (Tab × Int × Int) :=
  bnd (F_hof2 fl p0 p1.Who) fun x_1 => ifb (decide (7 < (x_1.length : Int))) (some (p0, 0, 7)) (bnd (lp (F_hgive2_b0 p0 p1) fl (0, 1)) fun z_2 => grd (Fits 40 p0.L.length) <| grd (Fits 40 (p0.L.length + ([(⟨p1.Who, z_2, p1.Space, p1.Gen, p1.Txn⟩ : Itm)] : (List Itm)).length)) <| grd (Fits 1 p0.There.length) <| grd (Fits 1 (p0.There.length + ([true] : (List Bool)).length)) <| some ((⟨(p0.L ++ ([(⟨p1.Who, z_2, p1.Space, p1.Gen, p1.Txn⟩ : Itm)] : (List Itm))), (p0.There ++ ([true] : (List Bool)))⟩ : Tab), z_2, 0))
set_option maxRecDepth 100000 in
set_option maxHeartbeats 2000000 in
theorem c_hgive2 {fl : Nat} {p0 : Tab} {p1 : Itm} {R : Tab × Int × Int} (h0 : F_hgive2 fl p0 p1 = some R) : Pure Go.Proofs.Tryd.prog 82 [agg [sl kItm none none p0.L, sl kB none none p0.There], agg [pl (.int .u64 p1.Who), pl (.int .u64 p1.No), pl (.int .u64 p1.Space), pl (.int .u64 p1.Gen), pl (.int .u64 p1.Txn)]] (tup [agg [sl kItm none none R.1.L, sl kB none none R.1.There], pl (.int .u64 R.2.1), pl (.int .i64 R.2.2)]) := by
  intro s
  unfold F_hgive2 at h0
  refine ac_of_aw s.boxes.length s.fr.length Go.Proofs.Tryd.func82 rfl (by simp [Go.Proofs.Tryd.ntmps82]) ?_
  refine aw_ext0 ?_
  refine aw_keep [(0, _), (1, _)] ⟨lg ez, lg (es ez), trivial⟩ ?_
  refine aw_seq ?_
  refine aw_region (by decide) ?_
  refine rts _ rfl (boxAN rfl oz (bnd_cons (sl_b kb_Itm) (bnd_cons (sl_b kb_B) bnd_nil)) (by first | exact List.length_nil | (simp only [List.length_cons, List.length_nil, Nat.zero_add, Nat.reduceAdd] <;> rfl)) (by simp only [na, nb, nc, nd, nf, ng, nh, ni, nj, nk] <;> rfl)) ?_
  refine rts _ rfl (boxAN rfl (ls rfl (os rfl oz)) (bnd_cons (pl_bnd _ _ _) (bnd_cons (pl_bnd _ _ _) (bnd_cons (pl_bnd _ _ _) (bnd_cons (pl_bnd _ _ _) (bnd_cons (pl_bnd _ _ _) bnd_nil))))) (by first | exact List.length_nil | (simp only [List.length_cons, List.length_nil, Nat.zero_add, Nat.reduceAdd] <;> rfl)) (by simp only [na, nb, nc, nd, nf, ng, nh, ni, nj, nk] <;> rfl)) ?_
  refine rts _ rfl (allocN rfl zt147_U10 (by first | exact List.length_nil | (simp only [List.length_cons, List.length_nil, Nat.zero_add, Nat.reduceAdd] <;> rfl)) (by simp only [na, nb, nc, nd, nf, ng, nh, ni, nj, nk] <;> rfl)) ?_
  refine rts _ rfl (opD_assign (ev_const _ _)) ?_
  refine rts _ rfl (opD_assign (ev_const _ _)) ?_
  refine .nil ?_
  refine aw_keep [(2, _), (3, _), (4, _)] ⟨lg (ls rfl (ls rfl (ls rfl (ls rfl lz)))), lg (ls rfl (ls rfl (ls rfl lz))), lg (ls rfl (ls rfl lz)), trivial⟩ ?_
  refine aw_seq ?_
  refine aw_seq ?_
  refine aw_region (by decide) ?_
  refine rts _ rfl (opD_load_aggX (qs := [_, _]) ag147_U10 sz147_U10 oz (loc_getN rfl rfl) (Nat.le_of_ble_eq_true rfl) rfl) ?_
  refine rts _ rfl (opD_fieldAddr fo148_0_U10 (ls rfl (os rfl oz))) ?_
  refine rts _ rfl (opD_load_one ag22_U10 lz (loc_getN rfl rfl) rfl) ?_
  replace h0 := bnd_some h0
  obtain ⟨x_1, hx_1, h0⟩ := h0
  refine rts _ rfl (opD_pure ht84_U10 (c_hof2 hx_1) ⟨(le_of_eq (ls rfl (ls rfl lz))).trans (agg_le ⟨(Pd.le_refl _), (Pd.le_refl _), trivial⟩), le_of_eq lz, trivial⟩) ?_
  refine rts _ rfl (opD_len_sl Go.Proofs.Tryd.underlying144 lz) ?_
  refine rts _ rfl (opD_gtr lz (ev_const _ _)) ?_
  refine .nil ?_
  refine aw_keep [(2, _), (3, _), (4, _), (15, _)] ⟨lg (ls rfl (ls rfl (ls rfl (ls rfl (ls rfl (ls rfl oz)))))), lg (ls rfl (ls rfl (ls rfl (ls rfl (ls rfl (ls rfl (os rfl oz))))))), lg (ls rfl (ls rfl (ls rfl (ls rfl (ls rfl (ls rfl (os rfl (os rfl oz)))))))), lg lz, trivial⟩ ?_
  refine aw_cond _ (os rfl (os rfl (os rfl oz))) (fun hc => ?_) (fun hc => ?_)
  · skip
    replace h0 := ifb_t h0 hc
    clear hc
    refine aw_seq ?_
    refine aw_region (by decide) ?_
    refine rts _ rfl (opD_load_aggX (qs := [_, _]) ag147_U10 sz147_U10 oz (loc_getN rfl rfl) (Nat.le_of_ble_eq_true rfl) rfl) ?_
    refine rts _ rfl (storeAN rfl sz147_U10 (ls rfl (os rfl (os rfl oz))) lz (ones_cons (one_sl _ _ _ _) (ones_cons (one_sl _ _ _ _) ones_nil)) rfl rfl (Nat.le_of_ble_eq_true rfl) (List.cons_ne_nil _ _) (bnd_cons (sl_b kb_Itm) (bnd_cons (sl_b kb_B) bnd_nil)) (by simp only [na, nb, nc, nd, nf, ng, nh, ni, nj, nk] <;> rfl) (by simp only [na, nb, nc, nd, nf, ng, nh, ni, nj, nk] <;> rfl)) ?_
    refine rts _ rfl (opD_assign (ev_const _ _)) ?_
    refine rts _ rfl (opD_assign (ev_const _ _)) ?_
    refine .nil ?_
    refine aw_keep [(4, _), (5, _), (6, _)] ⟨lg (ls rfl (ls rfl (lx (ls rfl (os rfl (os rfl oz)))))), lg (ls rfl lz), lg lz, trivial⟩ ?_
    refine aw_ret ?_
    obtain rfl := some_of h0
    exact done_ext (.inr rfl) ((res_list (rs := [_, _, _]) (ps := [_, _, _]) rfl rfl ⟨it_cellA (B := ⟨147, [_, _]⟩) ag147_U10 sz147_U10 oz (loc_getN rfl rfl) rfl, it_tmp (os rfl oz), it_tmp (os rfl (os rfl oz)), trivial⟩).le (tup_le ⟨(agg_le ⟨(Pd.le_refl _), (Pd.le_refl _), trivial⟩), (Pd.le_refl _), (Pd.le_refl _), trivial⟩)) (tup_bnd (bnd_cons (agg_bnd (bnd_cons (sl_b kb_Itm) (bnd_cons (sl_b kb_B) bnd_nil))) (bnd_cons (pl_bnd _ _ _) (bnd_cons (pl_bnd _ _ _) bnd_nil))))
  · skip
    replace h0 := ifb_f h0 hc
    clear hc
    refine aw_skip ?_
    refine aw_keep [(2, _), (3, _), (4, _)] ⟨lg oz, lg (os rfl oz), lg (os rfl (os rfl oz)), trivial⟩ ?_
    refine aw_seq ?_
    refine aw_region (by decide) ?_
    refine rts _ rfl (opD_fieldAddr fo148_1_U10 (os rfl oz)) ?_
    refine rts _ rfl (storeON rfl sz22_U10 lz (le_of_eq (ev_const _ _)) (one_pl rfl) rfl (Nat.le_of_ble_eq_true rfl) (pl_bnd _ _ _) (by simp only [na, nb, nc, nd, nf, ng, nh, ni, nj, nk] <;> rfl) (by simp only [na, nb, nc, nd, nf, ng, nh, ni, nj, nk] <;> rfl)) ?_
    refine .nil ?_
    refine aw_keep [(2, _), (3, _), (4, _)] ⟨lg (lx (ls rfl oz)), lg (lx (ls rfl (os rfl oz))), lg (lx (ls rfl (os rfl (os rfl oz)))), trivial⟩ ?_
    refine aw_seq ?_
    refine aw_seq ?_
    refine aw_region (by decide) ?_
    refine rts _ rfl (opD_assign (ev_const _ _)) ?_
    refine .nil ?_
    refine aw_keep [(2, _), (3, _), (4, _), (7, _)] ⟨lg (ls rfl oz), lg (ls rfl (os rfl oz)), lg (ls rfl (os rfl (os rfl oz))), lg lz, trivial⟩ ?_
    replace h0 := bnd_some h0
    obtain ⟨z_2, hz_2, h0⟩ := h0
    refine aw_mid (fun e st => ∃ v : Int, Holds e [(2, ptr (s.boxes.length + 0) 0), (3, ptr (s.boxes.length + 1) 0), (4, ptr (s.boxes.length + 2) 0)] ∧ st = s.ext [⟨147, [sl kItm none none p0.L, sl kB none none p0.There]⟩, ⟨148, [pl (.int .u64 p1.Who), pl (.int .u64 v), pl (.int .u64 p1.Space), pl (.int .u64 p1.Gen), pl (.int .u64 p1.Txn)]⟩, ⟨147, [pl (.slice none 0 0), pl (.slice none 0 0)]⟩] [] ∧ v = z_2) ?_ ?_
    · skip
      refine aw_wkN rfl 3 0 rfl rfl ?_
      refine aw_block ?_
      refine aw_loop (fun n e st => ∃ v : Int × Int, Holds e [(2, ptr (s.boxes.length + 0) 0), (3, ptr (s.boxes.length + 1) 0), (4, ptr (s.boxes.length + 2) 0), (7, pl (.int .i64 v.1))] ∧ st = s.ext [⟨147, [sl kItm none none p0.L, sl kB none none p0.There]⟩, ⟨148, [pl (.int .u64 p1.Who), pl (.int .u64 v.2), pl (.int .u64 p1.Space), pl (.int .u64 p1.Gen), pl (.int .u64 p1.Txn)]⟩, ⟨147, [pl (.slice none 0 0), pl (.slice none 0 0)]⟩] [] ∧ lp (F_hgive2_b0 p0 p1) n v = some z_2) fl ⟨(0, 1), ⟨le_of_eq (eg oz), le_of_eq (eg (os rfl oz)), le_of_eq (eg (os rfl (os rfl oz))), le_of_eq (eg (os rfl (os rfl (os rfl oz)))), trivial⟩, rfl, hz_2⟩ ?_
      rintro n e st ⟨t_3, hH, rfl, hz_2⟩
      replace hz_2 := lp_some hz_2
      obtain ⟨m_z_4, z_4, rfl, hz_4, hz_2⟩ := hz_2
      unfold F_hgive2_b0 at hz_4
      refine aw_keep _ hH ?_
      refine aw_wkN rfl 3 0 rfl rfl ?_
      refine aw_seq ?_
      refine aw_seq ?_
      refine aw_region (by decide) ?_
      refine rts _ rfl (opD_move (os rfl (os rfl (os rfl oz)))) ?_
      refine rts _ rfl (opD_fieldAddr fo147_0_U10 (ls rfl oz)) ?_
      refine rts _ rfl (opD_load_one ag144_U10 lz (loc_getN rfl rfl) rfl) ?_
      refine rts _ rfl (opD_len_sl Go.Proofs.Tryd.underlying144 lz) ?_
      refine rts _ rfl (opD_lss (ls rfl (ls rfl (ls rfl lz))) lz) ?_
      refine .nil ?_
      refine aw_keep [(2, _), (3, _), (4, _), (7, _), (22, _)] ⟨lg (ls rfl (ls rfl (ls rfl (ls rfl (ls rfl oz))))), lg (ls rfl (ls rfl (ls rfl (ls rfl (ls rfl (os rfl oz)))))), lg (ls rfl (ls rfl (ls rfl (ls rfl (ls rfl (os rfl (os rfl oz))))))), lg (ls rfl (ls rfl (ls rfl (ls rfl (ls rfl (os rfl (os rfl (os rfl oz)))))))), lg lz, trivial⟩ ?_
      refine aw_cond _ (os rfl (os rfl (os rfl (os rfl oz)))) (fun hc => ?_) (fun hc => ?_)
      · skip
        replace hz_4 := ifb_t hz_4 hc
        clear hc
        refine aw_skip ?_
        refine aw_keep [(2, _), (3, _), (4, _), (7, _)] ⟨lg oz, lg (os rfl oz), lg (os rfl (os rfl oz)), lg (os rfl (os rfl (os rfl oz))), trivial⟩ ?_
        refine aw_seq ?_
        replace hz_4 := bnd_some hz_4
        obtain ⟨z_5, hz_5, hz_4⟩ := hz_4
        refine aw_mid (fun e st => ∃ v : Int, Holds e [(2, ptr (s.boxes.length + 0) 0), (3, ptr (s.boxes.length + 1) 0), (4, ptr (s.boxes.length + 2) 0), (7, pl (.int .i64 t_3.1))] ∧ st = s.ext [⟨147, [sl kItm none none p0.L, sl kB none none p0.There]⟩, ⟨148, [pl (.int .u64 p1.Who), pl (.int .u64 v), pl (.int .u64 p1.Space), pl (.int .u64 p1.Gen), pl (.int .u64 p1.Txn)]⟩, ⟨147, [pl (.slice none 0 0), pl (.slice none 0 0)]⟩] [] ∧ v = z_5) ?_ ?_
        · skip
          refine aw_wkN rfl 3 0 rfl rfl ?_
          refine aw_block ?_
          refine aw_seq ?_
          refine aw_flat mixed_U10 (by decide +kernel) ?_
          refine zts _ rfl (opD_fieldAddr fo147_0_U10 oz) ?_
          refine zts _ rfl (opD_load_one ag144_U10 lz (loc_getN rfl rfl) rfl) ?_
          refine zts _ rfl (opD_move (ls rfl (ls rfl (os rfl (os rfl (os rfl oz)))))) ?_
          replace hz_5 := ixb_some hz_5
          obtain ⟨x_6, hx_6, hbx_6, hz_5⟩ := hz_5
          refine zts _ rfl (opD_indexAddr_sl (i := t_3.1.toNat) Go.Proofs.Tryd.underlying144 sz148_U10 (ls rfl lz) lz hbx_6.2.2 hbx_6.2.1) ?_
          refine zts _ rfl (opD_fieldAddr_el fo148_0_U10 lz) ?_
          refine zts _ rfl (opD_load_el_one ag22_U10 lz hx_6 rfl) ?_
          refine zts _ rfl (opD_fieldAddr fo148_0_U10 (ls rfl (ls rfl (ls rfl (ls rfl (ls rfl (ls rfl (os rfl oz)))))))) ?_
          refine zts _ rfl (opD_load_one ag22_U10 lz (loc_getN rfl rfl) rfl) ?_
          refine zts _ rfl (opD_eql (ls rfl (ls rfl lz)) lz) ?_
          refine .nil ?_
          refine aw_keep [(2, _), (3, _), (4, _), (7, _), (33, _)] ⟨lg (ls rfl (ls rfl (ls rfl (ls rfl (ls rfl (ls rfl (ls rfl (ls rfl (ls rfl oz))))))))), lg (ls rfl (ls rfl (ls rfl (ls rfl (ls rfl (ls rfl (ls rfl (ls rfl (ls rfl (os rfl oz)))))))))), lg (ls rfl (ls rfl (ls rfl (ls rfl (ls rfl (ls rfl (ls rfl (ls rfl (ls rfl (os rfl (os rfl oz))))))))))), lg (ls rfl (ls rfl (ls rfl (ls rfl (ls rfl (ls rfl (ls rfl (ls rfl (ls rfl (os rfl (os rfl (os rfl oz)))))))))))), lg lz, trivial⟩ ?_
          refine aw_cond _ (os rfl (os rfl (os rfl (os rfl oz)))) (fun hc => ?_) (fun hc => ?_)
          · skip
            replace hz_5 := ifb_t hz_5 hc
            clear hc
            refine aw_region (by decide) ?_
            refine rts _ rfl (opD_fieldAddr fo148_1_U10 (os rfl oz)) ?_
            refine rts _ rfl (opD_load_one ag22_U10 lz (loc_getN rfl rfl) rfl) ?_
            refine rts _ rfl (opD_add lz (ev_const _ _) rfl) ?_
            refine rts _ rfl (opD_fieldAddr fo148_1_U10 (ls rfl (ls rfl (ls rfl (os rfl oz))))) ?_
            refine rts _ rfl (storeON rfl sz22_U10 lz (le_of_eq (ls rfl lz)) (one_pl rfl) rfl (Nat.le_of_ble_eq_true rfl) (pl_bnd _ _ _) (by simp only [na, nb, nc, nd, nf, ng, nh, ni, nj, nk] <;> rfl) (by simp only [na, nb, nc, nd, nf, ng, nh, ni, nj, nk] <;> rfl)) ?_
            refine .nil ?_
            refine wk_yesN rfl (l := [(2, ptr (s.boxes.length + 0) 0), (3, ptr (s.boxes.length + 1) 0), (4, ptr (s.boxes.length + 2) 0), (7, pl (.int .i64 t_3.1))]) (bs' := [⟨147, [sl kItm none none p0.L, sl kB none none p0.There]⟩, ⟨148, [pl (.int .u64 p1.Who), pl (.int .u64 (IntKind.u64.wrap (t_3.2 + 1))), pl (.int .u64 p1.Space), pl (.int .u64 p1.Gen), pl (.int .u64 p1.Txn)]⟩, ⟨147, [pl (.slice none 0 0), pl (.slice none 0 0)]⟩]) ⟨le_of_eq (eg (lx (ls rfl (ls rfl (ls rfl (ls rfl oz)))))), le_of_eq (eg (lx (ls rfl (ls rfl (ls rfl (ls rfl (os rfl oz))))))), le_of_eq (eg (lx (ls rfl (ls rfl (ls rfl (ls rfl (os rfl (os rfl oz)))))))), le_of_eq (eg (lx (ls rfl (ls rfl (ls rfl (ls rfl (os rfl (os rfl (os rfl oz))))))))), trivial⟩ (bnd_cons (ptr_bnd _ (by first | omega | (simp only [List.length_append, List.length_cons, List.length_nil]; omega))) (bnd_cons (ptr_bnd _ (by first | omega | (simp only [List.length_append, List.length_cons, List.length_nil]; omega))) (bnd_cons (ptr_bnd _ (by first | omega | (simp only [List.length_append, List.length_cons, List.length_nil]; omega))) (bnd_cons (pl_bnd _ _ _) bnd_nil)))) (Nat.le_of_ble_eq_true rfl) (by simp only [na, nb, nc, nd, nf, ng, nh, ni, nj, nk] <;> rfl) (bxle_same (bxle_same (bxle_same bxle_nil))) rfl (by simp only [na, nb, nc, nd, nf, ng, nh, ni, nj, nk] <;> rfl) (bl_cons (bnd_cons (sl_b kb_Itm) (bnd_cons (sl_b kb_B) bnd_nil)) (bl_cons (bnd_cons (pl_bnd _ _ _) (bnd_cons (pl_bnd _ _ _) (bnd_cons (pl_bnd _ _ _) (bnd_cons (pl_bnd _ _ _) (bnd_cons (pl_bnd _ _ _) bnd_nil))))) (bl_cons (bnd_cons (pl_bnd _ _ _) (bnd_cons (pl_bnd _ _ _) bnd_nil)) bl_nil))) ?_
            exact ⟨IntKind.u64.wrap (t_3.2 + 1), ⟨le_of_eq (eg oz), le_of_eq (eg (os rfl oz)), le_of_eq (eg (os rfl (os rfl oz))), le_of_eq (eg (os rfl (os rfl (os rfl oz)))), trivial⟩, rfl, some_of hz_5⟩
          · skip
            replace hz_5 := ifb_f hz_5 hc
            clear hc
            refine aw_skip ?_
            refine wk_yesN rfl (l := [(2, ptr (s.boxes.length + 0) 0), (3, ptr (s.boxes.length + 1) 0), (4, ptr (s.boxes.length + 2) 0), (7, pl (.int .i64 t_3.1))]) (bs' := [⟨147, [sl kItm none none p0.L, sl kB none none p0.There]⟩, ⟨148, [pl (.int .u64 p1.Who), pl (.int .u64 t_3.2), pl (.int .u64 p1.Space), pl (.int .u64 p1.Gen), pl (.int .u64 p1.Txn)]⟩, ⟨147, [pl (.slice none 0 0), pl (.slice none 0 0)]⟩]) ⟨le_of_eq (eg oz), le_of_eq (eg (os rfl oz)), le_of_eq (eg (os rfl (os rfl oz))), le_of_eq (eg (os rfl (os rfl (os rfl oz)))), trivial⟩ (bnd_cons (ptr_bnd _ (by first | omega | (simp only [List.length_append, List.length_cons, List.length_nil]; omega))) (bnd_cons (ptr_bnd _ (by first | omega | (simp only [List.length_append, List.length_cons, List.length_nil]; omega))) (bnd_cons (ptr_bnd _ (by first | omega | (simp only [List.length_append, List.length_cons, List.length_nil]; omega))) (bnd_cons (pl_bnd _ _ _) bnd_nil)))) (Nat.le_of_ble_eq_true rfl) (by simp only [na, nb, nc, nd, nf, ng, nh, ni, nj, nk] <;> rfl) (bxle_same (bxle_same (bxle_same bxle_nil))) rfl (by simp only [na, nb, nc, nd, nf, ng, nh, ni, nj, nk] <;> rfl) (bl_cons (bnd_cons (sl_b kb_Itm) (bnd_cons (sl_b kb_B) bnd_nil)) (bl_cons (bnd_cons (pl_bnd _ _ _) (bnd_cons (pl_bnd _ _ _) (bnd_cons (pl_bnd _ _ _) (bnd_cons (pl_bnd _ _ _) (bnd_cons (pl_bnd _ _ _) bnd_nil))))) (bl_cons (bnd_cons (pl_bnd _ _ _) (bnd_cons (pl_bnd _ _ _) bnd_nil)) bl_nil))) ?_
            exact ⟨t_3.2, ⟨le_of_eq (eg oz), le_of_eq (eg (os rfl oz)), le_of_eq (eg (os rfl (os rfl oz))), le_of_eq (eg (os rfl (os rfl (os rfl oz)))), trivial⟩, rfl, some_of hz_5⟩
        · rintro e st ⟨vz_5, hH, rfl, rfl⟩
          refine aw_keep _ hH ?_
          refine aw_keep [(2, _), (3, _), (4, _), (7, _)] ⟨lg oz, lg (os rfl oz), lg (os rfl (os rfl oz)), lg (os rfl (os rfl (os rfl oz))), trivial⟩ ?_
          refine aw_region (by decide) ?_
          refine rts _ rfl (opD_move (os rfl (os rfl (os rfl oz)))) ?_
          refine rts _ rfl (opD_add lz (ev_const _ _) rfl) ?_
          refine rts _ rfl (opD_assign lz) ?_
          refine .nil ?_
          obtain rfl := some_of hz_4
          replace hz_2 := ocs_l hz_2
          refine wk_yesN rfl (l := [(2, ptr (s.boxes.length + 0) 0), (3, ptr (s.boxes.length + 1) 0), (4, ptr (s.boxes.length + 2) 0), (7, pl (.int .i64 (IntKind.i64.wrap (t_3.1 + 1))))]) (bs' := [⟨147, [sl kItm none none p0.L, sl kB none none p0.There]⟩, ⟨148, [pl (.int .u64 p1.Who), pl (.int .u64 vz_5), pl (.int .u64 p1.Space), pl (.int .u64 p1.Gen), pl (.int .u64 p1.Txn)]⟩, ⟨147, [pl (.slice none 0 0), pl (.slice none 0 0)]⟩]) ⟨le_of_eq (eg (ls rfl (ls rfl (ls rfl oz)))), le_of_eq (eg (ls rfl (ls rfl (ls rfl (os rfl oz))))), le_of_eq (eg (ls rfl (ls rfl (ls rfl (os rfl (os rfl oz)))))), le_of_eq (eg lz), trivial⟩ (bnd_cons (ptr_bnd _ (by first | omega | (simp only [List.length_append, List.length_cons, List.length_nil]; omega))) (bnd_cons (ptr_bnd _ (by first | omega | (simp only [List.length_append, List.length_cons, List.length_nil]; omega))) (bnd_cons (ptr_bnd _ (by first | omega | (simp only [List.length_append, List.length_cons, List.length_nil]; omega))) (bnd_cons (pl_bnd _ _ _) bnd_nil)))) (Nat.le_of_ble_eq_true rfl) (by simp only [na, nb, nc, nd, nf, ng, nh, ni, nj, nk] <;> rfl) (bxle_same (bxle_same (bxle_same bxle_nil))) rfl (by simp only [na, nb, nc, nd, nf, ng, nh, ni, nj, nk] <;> rfl) (bl_cons (bnd_cons (sl_b kb_Itm) (bnd_cons (sl_b kb_B) bnd_nil)) (bl_cons (bnd_cons (pl_bnd _ _ _) (bnd_cons (pl_bnd _ _ _) (bnd_cons (pl_bnd _ _ _) (bnd_cons (pl_bnd _ _ _) (bnd_cons (pl_bnd _ _ _) bnd_nil))))) (bl_cons (bnd_cons (pl_bnd _ _ _) (bnd_cons (pl_bnd _ _ _) bnd_nil)) bl_nil))) ?_
          exact ⟨m_z_4, Nat.lt_succ_self _, (IntKind.i64.wrap (t_3.1 + 1), vz_5), ⟨le_of_eq (eg oz), le_of_eq (eg (os rfl oz)), le_of_eq (eg (os rfl (os rfl oz))), le_of_eq (eg (os rfl (os rfl (os rfl oz)))), trivial⟩, rfl, hz_2⟩
      · skip
        replace hz_4 := ifb_f hz_4 hc
        clear hc
        refine aw_exit ?_
        obtain rfl := some_of hz_4
        replace hz_2 := ocs_r hz_2
        refine wk_no ?_
        refine wk_yesN rfl (l := [(2, ptr (s.boxes.length + 0) 0), (3, ptr (s.boxes.length + 1) 0), (4, ptr (s.boxes.length + 2) 0)]) (bs' := [⟨147, [sl kItm none none p0.L, sl kB none none p0.There]⟩, ⟨148, [pl (.int .u64 p1.Who), pl (.int .u64 t_3.2), pl (.int .u64 p1.Space), pl (.int .u64 p1.Gen), pl (.int .u64 p1.Txn)]⟩, ⟨147, [pl (.slice none 0 0), pl (.slice none 0 0)]⟩]) ⟨le_of_eq (eg oz), le_of_eq (eg (os rfl oz)), le_of_eq (eg (os rfl (os rfl oz))), trivial⟩ (bnd_cons (ptr_bnd _ (by first | omega | (simp only [List.length_append, List.length_cons, List.length_nil]; omega))) (bnd_cons (ptr_bnd _ (by first | omega | (simp only [List.length_append, List.length_cons, List.length_nil]; omega))) (bnd_cons (ptr_bnd _ (by first | omega | (simp only [List.length_append, List.length_cons, List.length_nil]; omega))) bnd_nil))) (Nat.le_of_ble_eq_true rfl) (by simp only [na, nb, nc, nd, nf, ng, nh, ni, nj, nk] <;> rfl) (bxle_same (bxle_same (bxle_same bxle_nil))) rfl (by simp only [na, nb, nc, nd, nf, ng, nh, ni, nj, nk] <;> rfl) (bl_cons (bnd_cons (sl_b kb_Itm) (bnd_cons (sl_b kb_B) bnd_nil)) (bl_cons (bnd_cons (pl_bnd _ _ _) (bnd_cons (pl_bnd _ _ _) (bnd_cons (pl_bnd _ _ _) (bnd_cons (pl_bnd _ _ _) (bnd_cons (pl_bnd _ _ _) bnd_nil))))) (bl_cons (bnd_cons (pl_bnd _ _ _) (bnd_cons (pl_bnd _ _ _) bnd_nil)) bl_nil))) ?_
        exact ⟨t_3.2, ⟨le_of_eq (eg oz), le_of_eq (eg (os rfl oz)), le_of_eq (eg (os rfl (os rfl oz))), trivial⟩, rfl, some_of hz_2⟩
    · rintro e st ⟨vz_2, hH, rfl, rfl⟩
      refine aw_keep _ hH ?_
      refine aw_keep [(2, _), (3, _), (4, _)] ⟨lg oz, lg (os rfl oz), lg (os rfl (os rfl oz)), trivial⟩ ?_
      refine aw_seq ?_
      refine aw_region (by decide) ?_
      refine rts _ rfl (opD_assign (ev_const _ _)) ?_
      refine .nil ?_
      refine aw_keep [(2, _), (3, _), (4, _), (8, _)] ⟨lg (ls rfl oz), lg (ls rfl (os rfl oz)), lg (ls rfl (os rfl (os rfl oz))), lg lz, trivial⟩ ?_
      refine aw_seq ?_
      refine aw_region (by decide) ?_
      refine rts _ rfl (opD_assign (ev_const _ _)) ?_
      refine .nil ?_
      refine aw_keep [(2, _), (3, _), (4, _), (8, _), (9, _)] ⟨lg (ls rfl oz), lg (ls rfl (os rfl oz)), lg (ls rfl (os rfl (os rfl oz))), lg (ls rfl (os rfl (os rfl (os rfl oz)))), lg lz, trivial⟩ ?_
      refine aw_seq ?_
      refine aw_drawn [false, false, false, true, false, false, true, false, false, false, true, false, true, false, false, false, true, false, false] [[0], [0], [0], [0, 1], [0, 1], [0, 1], [1, 2], [0, 1, 2], [0, 1, 2], [0, 1, 2], [2, 3], [0, 1, 2, 3], [3, 4], [4], [0, 1, 2, 3, 4, 5], [0, 1, 2, 3, 4, 5], [4, 5], [5], [5]] mixed_U10 (by decide +kernel) ?_
      refine dtp _ rfl (fun s => opD_move (os rfl (os rfl (os rfl oz)))) ?_
      refine dtp _ rfl (fun s => opD_fieldAddr fo147_0_U10 (ls rfl oz)) ?_
      refine dtlG1 ag144_U10 lz (loc_getN rfl rfl) rfl rfl ?_
      replace h0 := grd_some h0
      obtain ⟨hg_5, h0⟩ := h0
      refine dta _ rfl (opD_appendNil (k := kItm) Go.Proofs.Tryd.underlying144 el148_U10 (ls rfl (ls rfl lz)) lz hg_5.1 hg_5.2 (by first | exact List.length_nil | (simp only [List.length_cons, List.length_nil, Nat.zero_add, Nat.reduceAdd] <;> rfl)) (by simp only [na, nb, nc, nd, nf, ng, nh, ni, nj, nk] <;> rfl)) ?_
      refine dtlGA (qs := [_, _, _, _, _]) ag148_U10 sz148_U10 (ls rfl (ls rfl (ls rfl (ls rfl (os rfl oz))))) (loc_getN rfl rfl) (Nat.le_of_ble_eq_true rfl) rfl rfl ?_
      refine dtp _ rfl (fun s => opD_buildSlice (k := kItm) ([(⟨p1.Who, vz_2, p1.Space, p1.Gen, p1.Txn⟩ : Itm)] : (List Itm)) Go.Proofs.Tryd.underlying144 sz148_U10 zt148_U10 (by decide) rfl (parts_cons (cellsA lz) parts_nil) rfl rfl) ?_
      replace h0 := grd_some h0
      obtain ⟨hg_6, h0⟩ := h0
      refine dta _ rfl (opD_appendX Go.Proofs.Tryd.underlying144 el148_U10 (ls rfl (ls rfl lz)) lz rfl hg_6.1 hg_6.2 rfl (by simp only [na, nb, nc, nd, nf, ng, nh, ni, nj, nk] <;> rfl)) ?_
      refine dtp _ rfl (fun s => opD_move (ls rfl (ls rfl (ls rfl (ls rfl (ls rfl (ls rfl (ls rfl (os rfl (os rfl (os rfl (os rfl oz)))))))))))) ?_
      refine dtp _ rfl (fun s => opD_fieldAddr fo147_1_U10 (ls rfl (ls rfl (ls rfl (ls rfl (ls rfl (ls rfl (ls rfl (ls rfl oz))))))))) ?_
      refine dtlG1 ag145_U10 lz (loc_getN rfl rfl) rfl rfl ?_
      replace h0 := grd_some h0
      obtain ⟨hg_7, h0⟩ := h0
      refine dta _ rfl (opD_appendNil (k := kB) Go.Proofs.Tryd.underlying145 el4_U10 (ls rfl (ls rfl lz)) lz hg_7.1 hg_7.2 (by first | exact List.length_nil | (simp only [List.length_cons, List.length_nil, Nat.zero_add, Nat.reduceAdd] <;> rfl)) (by simp only [na, nb, nc, nd, nf, ng, nh, ni, nj, nk] <;> rfl)) ?_
      refine dtp _ rfl (fun s => opD_buildSlice (k := kB) ([true] : (List Bool)) Go.Proofs.Tryd.underlying145 sz4_U10 zt4_U10 (by decide) rfl (parts_cons (cells1 (ev_const _ _) (one_pl rfl)) parts_nil) rfl rfl) ?_
      replace h0 := grd_some h0
      obtain ⟨hg_8, h0⟩ := h0
      refine dta _ rfl (opD_appendX Go.Proofs.Tryd.underlying145 el4_U10 (ls rfl lz) lz rfl hg_8.1 hg_8.2 rfl (by simp only [na, nb, nc, nd, nf, ng, nh, ni, nj, nk] <;> rfl)) ?_
      refine dtp _ rfl (fun s => opD_build_struct (rs := [_, _]) Go.Proofs.Tryd.underlying147 pt147_U10 zt147_U10 (parts_cons (cells1 (ls rfl (ls rfl (ls rfl (ls rfl (ls rfl (ls rfl lz)))))) (one_sl _ _ _ _)) (parts_cons (cells1 lz (one_sl _ _ _ _)) parts_nil)) rfl) ?_
      refine dtp _ rfl (fun s => opD_fieldAddr fo148_1_U10 (ls rfl (ls rfl (ls rfl (ls rfl (ls rfl (ls rfl (ls rfl (ls rfl (ls rfl (ls rfl (ls rfl (ls rfl (ls rfl (ls rfl (os rfl oz)))))))))))))))) ?_
      refine dtlG1 ag22_U10 lz (loc_getN rfl rfl) rfl rfl ?_
      refine dta _ rfl (storeAN rfl sz147_U10 (ls rfl (ls rfl (ls rfl (ls rfl (ls rfl (ls rfl (ls rfl (ls rfl (ls rfl (ls rfl (ls rfl (ls rfl (ls rfl (ls rfl (ls rfl (ls rfl (os rfl (os rfl oz)))))))))))))))))) (ls rfl (ls rfl lz)) (ones_cons (one_sl _ _ _ _) (ones_cons (one_sl _ _ _ _) ones_nil)) rfl rfl (Nat.le_of_ble_eq_true rfl) (List.cons_ne_nil _ _) (bnd_cons (sl_ob kb_Itm (by first | omega | (simp only [List.length_append, List.length_cons, List.length_nil, ext_fr_length, upd_fr_length]; omega))) (bnd_cons (sl_ob kb_B (by first | omega | (simp only [List.length_append, List.length_cons, List.length_nil, ext_fr_length, upd_fr_length]; omega))) bnd_nil)) (by simp only [na, nb, nc, nd, nf, ng, nh, ni, nj, nk] <;> rfl) (by simp only [na, nb, nc, nd, nf, ng, nh, ni, nj, nk] <;> rfl)) ?_
      refine dtp _ rfl (fun s => opD_assign (lx lz)) ?_
      refine dtp _ rfl (fun s => opD_assign (ev_const _ _)) ?_
      refine .nil ?_
      dsimp only [List.nil_append, List.cons_append]
      refine ⟨rfl, ⟨trivial, trivial, ⟨(by first | exact loc_getN rfl rfl | exact updx_get hlt | exact ⟨_, loc_getN rfl rfl⟩ | exact ⟨_, updx_get hlt⟩ | exact upd2_g hgh hlt | exact upd2_h hlt2), trivial⟩, trivial, ⟨(by first | exact loc_getN rfl rfl | exact updx_get hlt | exact ⟨_, loc_getN rfl rfl⟩ | exact ⟨_, updx_get hlt⟩ | exact upd2_g hgh hlt | exact upd2_h hlt2), (by first | exact loc_getN rfl rfl | exact updx_get hlt | exact ⟨_, loc_getN rfl rfl⟩ | exact ⟨_, updx_get hlt⟩ | exact upd2_g hgh hlt | exact upd2_h hlt2), trivial⟩, trivial, trivial, trivial, trivial, ⟨(by first | exact loc_getN rfl rfl | exact updx_get hlt | exact ⟨_, loc_getN rfl rfl⟩ | exact ⟨_, updx_get hlt⟩ | exact upd2_g hgh hlt | exact upd2_h hlt2), (by first | exact loc_getN rfl rfl | exact updx_get hlt | exact ⟨_, loc_getN rfl rfl⟩ | exact ⟨_, updx_get hlt⟩ | exact upd2_g hgh hlt | exact upd2_h hlt2), (by first | exact loc_getN rfl rfl | exact updx_get hlt | exact ⟨_, loc_getN rfl rfl⟩ | exact ⟨_, updx_get hlt⟩ | exact upd2_g hgh hlt | exact upd2_h hlt2), trivial⟩, trivial, trivial, trivial, trivial, trivial, ⟨(by first | exact loc_getN rfl rfl | exact updx_get hlt | exact ⟨_, loc_getN rfl rfl⟩ | exact ⟨_, updx_get hlt⟩ | exact upd2_g hgh hlt | exact upd2_h hlt2), (by first | exact loc_getN rfl rfl | exact updx_get hlt | exact ⟨_, loc_getN rfl rfl⟩ | exact ⟨_, updx_get hlt⟩ | exact upd2_g hgh hlt | exact upd2_h hlt2), (by first | exact loc_getN rfl rfl | exact updx_get hlt | exact ⟨_, loc_getN rfl rfl⟩ | exact ⟨_, updx_get hlt⟩ | exact upd2_g hgh hlt | exact upd2_h hlt2), (by first | exact loc_getN rfl rfl | exact updx_get hlt | exact ⟨_, loc_getN rfl rfl⟩ | exact ⟨_, updx_get hlt⟩ | exact upd2_g hgh hlt | exact upd2_h hlt2), (by first | exact loc_getN rfl rfl | exact updx_get hlt | exact ⟨_, loc_getN rfl rfl⟩ | exact ⟨_, updx_get hlt⟩ | exact upd2_g hgh hlt | exact upd2_h hlt2), (by first | exact loc_getN rfl rfl | exact updx_get hlt | exact ⟨_, loc_getN rfl rfl⟩ | exact ⟨_, updx_get hlt⟩ | exact upd2_g hgh hlt | exact upd2_h hlt2), trivial⟩, trivial, trivial, trivial, trivial⟩, ?_⟩
      refine aw_keep [(4, _), (5, _), (6, _)] ⟨lg (ls rfl (ls rfl (lx (ls rfl (ls rfl (ls rfl (ls rfl (ls rfl (ls rfl (ls rfl (ls rfl (ls rfl (ls rfl (ls rfl (ls rfl (ls rfl (ls rfl (ls rfl (ls rfl (os rfl (os rfl oz))))))))))))))))))))), lg (ls rfl lz), lg lz, trivial⟩ ?_
      refine aw_ret ?_
      obtain rfl := some_of h0
      exact done_ext (.inr rfl) ((res_list (rs := [_, _, _]) (ps := [_, _, _]) rfl rfl ⟨it_cellA (B := ⟨147, [_, _]⟩) ag147_U10 sz147_U10 oz (loc_getN rfl rfl) rfl, it_tmp (os rfl oz), it_tmp (os rfl (os rfl oz)), trivial⟩).le (tup_le ⟨(agg_le ⟨(sl_any _ _ _ _), (sl_any _ _ _ _), trivial⟩), (Pd.le_refl _), (Pd.le_refl _), trivial⟩)) (tup_bnd (bnd_cons (agg_bnd (bnd_cons (sl_b kb_Itm) (bnd_cons (sl_b kb_B) bnd_nil))) (bnd_cons (pl_bnd _ _ _) (bnd_cons (pl_bnd _ _ _) bnd_nil))))

def F_hget2_b0 (p2 : Int) (x_1 : ((List Itm))) (t_3 : Int) : Option ((Int) ⊕ ((Itm × Int) ⊕ (Unit))) :=
  ifb (decide (t_3 < (x_1.length : Int))) (ixb x_1 t_3 fun x_5 => ifb (decide (x_5.No = p2)) (ixb x_1 t_3 fun x_6 => some (.inr (.inl (x_6, 0)))) (some (.inl (IntKind.i64.wrap (t_3 + 1))))) (some (.inr (.inr ())))
def F_hget2 (fl : Nat) (p0 : Tab) (p1 : Int) (p2 : Int) : Option (Itm × Int) :=
  bnd (F_hof2 fl p0 p1) fun x_1 => bnd (lp (F_hget2_b0 p2 x_1) fl 0) fun z_2 => ocs z_2 (fun qz_2_0 => some qz_2_0) fun z_2_0 => some ((⟨0, 0, 0, 0, 0⟩ : Itm), 11)
set_option maxRecDepth 100000 in
set_option maxHeartbeats 2000000 in
theorem c_hget2 {fl : Nat} {p0 : Tab} {p1 : Int} {p2 : Int} {R : Itm × Int} (h0 : F_hget2 fl p0 p1 p2 = some R) : Pure Go.Proofs.Tryd.prog 80 [agg [sl kItm none none p0.L, sl kB none none p0.There], pl (.int .u64 p1), pl (.int .u64 p2)] (tup [agg [pl (.int .u64 R.1.Who), pl (.int .u64 R.1.No), pl (.int .u64 R.1.Space), pl (.int .u64 R.1.Gen), pl (.int .u64 R.1.Txn)], pl (.int .i64 R.2)]) := by
  intro s
  unfold F_hget2 at h0
  refine ac_of_aw s.boxes.length s.fr.length Go.Proofs.Tryd.func80 rfl (by simp [Go.Proofs.Tryd.ntmps80]) ?_
  refine aw_ext0 ?_
  refine aw_keep [(0, _), (1, _), (2, _)] ⟨lg ez, lg (es ez), lg (es (es ez)), trivial⟩ ?_
  refine aw_seq ?_
  refine aw_region (by decide) ?_
  refine rts _ rfl (boxAN rfl oz (bnd_cons (sl_b kb_Itm) (bnd_cons (sl_b kb_B) bnd_nil)) (by first | exact List.length_nil | (simp only [List.length_cons, List.length_nil, Nat.zero_add, Nat.reduceAdd] <;> rfl)) (by simp only [na, nb, nc, nd, nf, ng, nh, ni, nj, nk] <;> rfl)) ?_
  refine rts _ rfl (allocN rfl zt148_U10 (by first | exact List.length_nil | (simp only [List.length_cons, List.length_nil, Nat.zero_add, Nat.reduceAdd] <;> rfl)) (by simp only [na, nb, nc, nd, nf, ng, nh, ni, nj, nk] <;> rfl)) ?_
  refine rts _ rfl (opD_assign (ev_const _ _)) ?_
  refine .nil ?_
  refine aw_keep [(1, _), (2, _), (3, _), (6, _)] ⟨lg (ls rfl (ls rfl (ls rfl (os rfl oz)))), lg (ls rfl (ls rfl (ls rfl (os rfl (os rfl oz))))), lg (ls rfl (ls rfl lz)), lg (ls rfl lz), trivial⟩ ?_
  refine aw_seq ?_
  refine aw_region (by decide) ?_
  refine rts _ rfl (opD_load_aggX (qs := [_, _]) ag147_U10 sz147_U10 (os rfl (os rfl oz)) (loc_getN rfl rfl) (Nat.le_of_ble_eq_true rfl) rfl) ?_
  refine rts _ rfl (opD_move (ls rfl oz)) ?_
  replace h0 := bnd_some h0
  obtain ⟨x_1, hx_1, h0⟩ := h0
  refine rts _ rfl (opD_pure ht84_U10 (c_hof2 hx_1) ⟨(le_of_eq (ls rfl lz)).trans (agg_le ⟨(Pd.le_refl _), (Pd.le_refl _), trivial⟩), le_of_eq lz, trivial⟩) ?_
  refine rts _ rfl (opD_assign lz) ?_
  refine .nil ?_
  refine aw_keep [(2, _), (6, _), (8, _)] ⟨lg (ls rfl (ls rfl (ls rfl (ls rfl (os rfl oz))))), lg (ls rfl (ls rfl (ls rfl (ls rfl (os rfl (os rfl (os rfl oz))))))), lg lz, trivial⟩ ?_
  refine aw_seq ?_
  refine aw_seq ?_
  refine aw_region (by decide) ?_
  refine rts _ rfl (opD_assign (ev_const _ _)) ?_
  refine .nil ?_
  refine aw_keep [(2, _), (6, _), (8, _), (9, _)] ⟨lg (ls rfl oz), lg (ls rfl (os rfl oz)), lg (ls rfl (os rfl (os rfl oz))), lg lz, trivial⟩ ?_
  replace h0 := bnd_some h0
  obtain ⟨z_2, hz_2, h0⟩ := h0
  refine aw_mid (fun e st => ∃ v : Unit, Holds e [(6, ptr (s.boxes.length + 1) 0)] ∧ st = s.ext [⟨147, [sl kItm none none p0.L, sl kB none none p0.There]⟩, ⟨148, [pl (.int .u64 0), pl (.int .u64 0), pl (.int .u64 0), pl (.int .u64 0), pl (.int .u64 0)]⟩] [] ∧ (.inr v) = z_2) ?_ ?_
  · skip
    refine aw_wkN rfl 2 0 rfl rfl ?_
    refine aw_block ?_
    refine aw_loop (fun n e st => ∃ v : Int, Holds e [(2, pl (.int .u64 p2)), (6, ptr (s.boxes.length + 1) 0), (8, sl kItm none none x_1), (9, pl (.int .i64 v))] ∧ st = s.ext [⟨147, [sl kItm none none p0.L, sl kB none none p0.There]⟩, ⟨148, [pl (.int .u64 0), pl (.int .u64 0), pl (.int .u64 0), pl (.int .u64 0), pl (.int .u64 0)]⟩] [] ∧ lp (F_hget2_b0 p2 x_1) n v = some z_2) fl ⟨0, ⟨le_of_eq (eg oz), le_of_eq (eg (os rfl oz)), le_of_eq (eg (os rfl (os rfl oz))), le_of_eq (eg (os rfl (os rfl (os rfl oz)))), trivial⟩, rfl, hz_2⟩ ?_
    rintro n e st ⟨t_3, hH, rfl, hz_2⟩
    replace hz_2 := lp_some hz_2
    obtain ⟨m_z_4, z_4, rfl, hz_4, hz_2⟩ := hz_2
    unfold F_hget2_b0 at hz_4
    refine aw_keep _ hH ?_
    refine aw_wkN rfl 2 0 rfl rfl ?_
    refine aw_seq ?_
    refine aw_seq ?_
    refine aw_region (by decide) ?_
    refine rts _ rfl (opD_move (os rfl (os rfl (os rfl oz)))) ?_
    refine rts _ rfl (opD_move (ls rfl (os rfl (os rfl oz)))) ?_
    refine rts _ rfl (opD_len_sl Go.Proofs.Tryd.underlying144 lz) ?_
    refine rts _ rfl (opD_lss (ls rfl (ls rfl lz)) lz) ?_
    refine .nil ?_
    refine aw_keep [(2, _), (6, _), (8, _), (9, _), (16, _)] ⟨lg (ls rfl (ls rfl (ls rfl (ls rfl oz)))), lg (ls rfl (ls rfl (ls rfl (ls rfl (os rfl oz))))), lg (ls rfl (ls rfl (ls rfl (ls rfl (os rfl (os rfl oz)))))), lg (ls rfl (ls rfl (ls rfl (ls rfl (os rfl (os rfl (os rfl oz))))))), lg lz, trivial⟩ ?_
    refine aw_cond _ (os rfl (os rfl (os rfl (os rfl oz)))) (fun hc => ?_) (fun hc => ?_)
    · skip
      replace hz_4 := ifb_t hz_4 hc
      clear hc
      refine aw_skip ?_
      refine aw_keep [(2, _), (6, _), (8, _), (9, _)] ⟨lg oz, lg (os rfl oz), lg (os rfl (os rfl oz)), lg (os rfl (os rfl (os rfl oz))), trivial⟩ ?_
      refine aw_seq ?_
      refine aw_block ?_
      refine aw_seq ?_
      refine aw_region (by decide) ?_
      refine rts _ rfl (opD_move (os rfl (os rfl oz))) ?_
      refine rts _ rfl (opD_move (ls rfl (os rfl (os rfl (os rfl oz))))) ?_
      replace hz_4 := ixb_some hz_4
      obtain ⟨x_5, hx_5, hbx_5, hz_4⟩ := hz_4
      refine rts _ rfl (opD_indexAddr_sl (i := t_3.toNat) Go.Proofs.Tryd.underlying144 sz148_U10 (ls rfl lz) lz hbx_5.2.2 hbx_5.2.1) ?_
      refine rts _ rfl (opD_fieldAddr_el fo148_1_U10 lz) ?_
      refine rts _ rfl (opD_load_el_one ag22_U10 lz hx_5 rfl) ?_
      refine rts _ rfl (opD_move (ls rfl (ls rfl (ls rfl (ls rfl (ls rfl oz)))))) ?_
      refine rts _ rfl (opD_eql (ls rfl lz) lz) ?_
      refine .nil ?_
      refine aw_keep [(2, _), (6, _), (8, _), (9, _), (25, _)] ⟨lg (ls rfl (ls rfl (ls rfl (ls rfl (ls rfl (ls rfl (ls rfl oz))))))), lg (ls rfl (ls rfl (ls rfl (ls rfl (ls rfl (ls rfl (ls rfl (os rfl oz)))))))), lg (ls rfl (ls rfl (ls rfl (ls rfl (ls rfl (ls rfl (ls rfl (os rfl (os rfl oz))))))))), lg (ls rfl (ls rfl (ls rfl (ls rfl (ls rfl (ls rfl (ls rfl (os rfl (os rfl (os rfl oz)))))))))), lg lz, trivial⟩ ?_
      refine aw_cond _ (os rfl (os rfl (os rfl (os rfl oz)))) (fun hc => ?_) (fun hc => ?_)
      · skip
        replace hz_4 := ifb_t hz_4 hc
        clear hc
        refine aw_seq ?_
        refine aw_region (by decide) ?_
        refine rts _ rfl (opD_move (os rfl (os rfl oz))) ?_
        refine rts _ rfl (opD_move (ls rfl (os rfl (os rfl (os rfl oz))))) ?_
        replace hz_4 := ixb_some hz_4
        obtain ⟨x_6, hx_6, hbx_6, hz_4⟩ := hz_4
        refine rts _ rfl (opD_indexAddr_sl (i := t_3.toNat) Go.Proofs.Tryd.underlying144 sz148_U10 (ls rfl lz) lz hbx_6.2.2 hbx_6.2.1) ?_
        refine rts _ rfl (opD_load_el_aggX (qs := [_, _, _, _, _]) ag148_U10 sz148_U10 lz hx_6 (Nat.le_of_ble_eq_true rfl) rfl) ?_
        refine rts _ rfl (storeAN rfl sz148_U10 (ls rfl (ls rfl (ls rfl (ls rfl (os rfl oz))))) lz (ones_cons (one_pl rfl) (ones_cons (one_pl rfl) (ones_cons (one_pl rfl) (ones_cons (one_pl rfl) (ones_cons (one_pl rfl) ones_nil))))) rfl rfl (Nat.le_of_ble_eq_true rfl) (List.cons_ne_nil _ _) (bnd_cons (pl_bnd _ _ _) (bnd_cons (pl_bnd _ _ _) (bnd_cons (pl_bnd _ _ _) (bnd_cons (pl_bnd _ _ _) (bnd_cons (pl_bnd _ _ _) bnd_nil))))) (by simp only [na, nb, nc, nd, nf, ng, nh, ni, nj, nk] <;> rfl) (by simp only [na, nb, nc, nd, nf, ng, nh, ni, nj, nk] <;> rfl)) ?_
        refine rts _ rfl (opD_assign (ev_const _ _)) ?_
        refine .nil ?_
        refine aw_keep [(6, _), (7, _)] ⟨lg (ls rfl (lx (ls rfl (ls rfl (ls rfl (ls rfl (os rfl oz))))))), lg lz, trivial⟩ ?_
        refine aw_ret ?_
        obtain rfl := some_of hz_4
        replace hz_2 := ocs_r hz_2
        obtain rfl := some_of hz_2
        replace h0 := ocs_l h0
        refine wk_no ?_
        refine wk_no ?_
        obtain rfl := some_of h0
        exact done_ext (.inr rfl) ((res_list (rs := [_, _]) (ps := [_, _]) rfl rfl ⟨it_cellA (B := ⟨148, [_, _, _, _, _]⟩) ag148_U10 sz148_U10 oz (loc_getN rfl rfl) rfl, it_tmp (os rfl oz), trivial⟩).le (tup_le ⟨(agg_le ⟨(Pd.le_refl _), (Pd.le_refl _), (Pd.le_refl _), (Pd.le_refl _), (Pd.le_refl _), trivial⟩), (Pd.le_refl _), trivial⟩)) (tup_bnd (bnd_cons (agg_bnd (bnd_cons (pl_bnd _ _ _) (bnd_cons (pl_bnd _ _ _) (bnd_cons (pl_bnd _ _ _) (bnd_cons (pl_bnd _ _ _) (bnd_cons (pl_bnd _ _ _) bnd_nil)))))) (bnd_cons (pl_bnd _ _ _) bnd_nil)))
      · skip
        replace hz_4 := ifb_f hz_4 hc
        clear hc
        refine aw_skip ?_
        refine aw_keep [(2, _), (6, _), (8, _), (9, _)] ⟨lg oz, lg (os rfl oz), lg (os rfl (os rfl oz)), lg (os rfl (os rfl (os rfl oz))), trivial⟩ ?_
        refine aw_region (by decide) ?_
        refine rts _ rfl (opD_move (os rfl (os rfl (os rfl oz)))) ?_
        refine rts _ rfl (opD_add lz (ev_const _ _) rfl) ?_
        refine rts _ rfl (opD_assign lz) ?_
        refine .nil ?_
        obtain rfl := some_of hz_4
        replace hz_2 := ocs_l hz_2
        refine wk_yesN rfl (l := [(2, pl (.int .u64 p2)), (6, ptr (s.boxes.length + 1) 0), (8, sl kItm none none x_1), (9, pl (.int .i64 (IntKind.i64.wrap (t_3 + 1))))]) (bs' := [⟨147, [sl kItm none none p0.L, sl kB none none p0.There]⟩, ⟨148, [pl (.int .u64 0), pl (.int .u64 0), pl (.int .u64 0), pl (.int .u64 0), pl (.int .u64 0)]⟩]) ⟨le_of_eq (eg (ls rfl (ls rfl (ls rfl oz)))), le_of_eq (eg (ls rfl (ls rfl (ls rfl (os rfl oz))))), le_of_eq (eg (ls rfl (ls rfl (ls rfl (os rfl (os rfl oz)))))), le_of_eq (eg lz), trivial⟩ (bnd_cons (pl_bnd _ _ _) (bnd_cons (ptr_bnd _ (by first | omega | (simp only [List.length_append, List.length_cons, List.length_nil]; omega))) (bnd_cons (sl_b kb_Itm) (bnd_cons (pl_bnd _ _ _) bnd_nil)))) (Nat.le_of_ble_eq_true rfl) (by simp only [na, nb, nc, nd, nf, ng, nh, ni, nj, nk] <;> rfl) (bxle_same (bxle_same bxle_nil)) rfl (by simp only [na, nb, nc, nd, nf, ng, nh, ni, nj, nk] <;> rfl) (bl_cons (bnd_cons (sl_b kb_Itm) (bnd_cons (sl_b kb_B) bnd_nil)) (bl_cons (bnd_cons (pl_bnd _ _ _) (bnd_cons (pl_bnd _ _ _) (bnd_cons (pl_bnd _ _ _) (bnd_cons (pl_bnd _ _ _) (bnd_cons (pl_bnd _ _ _) bnd_nil))))) bl_nil)) ?_
        exact ⟨m_z_4, Nat.lt_succ_self _, IntKind.i64.wrap (t_3 + 1), ⟨le_of_eq (eg oz), le_of_eq (eg (os rfl oz)), le_of_eq (eg (os rfl (os rfl oz))), le_of_eq (eg (os rfl (os rfl (os rfl oz)))), trivial⟩, rfl, hz_2⟩
    · skip
      replace hz_4 := ifb_f hz_4 hc
      clear hc
      refine aw_exit ?_
      obtain rfl := some_of hz_4
      replace hz_2 := ocs_r hz_2
      refine wk_no ?_
      refine wk_yesN rfl (l := [(6, ptr (s.boxes.length + 1) 0)]) (bs' := [⟨147, [sl kItm none none p0.L, sl kB none none p0.There]⟩, ⟨148, [pl (.int .u64 0), pl (.int .u64 0), pl (.int .u64 0), pl (.int .u64 0), pl (.int .u64 0)]⟩]) ⟨le_of_eq (eg (os rfl oz)), trivial⟩ (bnd_cons (ptr_bnd _ (by first | omega | (simp only [List.length_append, List.length_cons, List.length_nil]; omega))) bnd_nil) (Nat.le_of_ble_eq_true rfl) (by simp only [na, nb, nc, nd, nf, ng, nh, ni, nj, nk] <;> rfl) (bxle_same (bxle_same bxle_nil)) rfl (by simp only [na, nb, nc, nd, nf, ng, nh, ni, nj, nk] <;> rfl) (bl_cons (bnd_cons (sl_b kb_Itm) (bnd_cons (sl_b kb_B) bnd_nil)) (bl_cons (bnd_cons (pl_bnd _ _ _) (bnd_cons (pl_bnd _ _ _) (bnd_cons (pl_bnd _ _ _) (bnd_cons (pl_bnd _ _ _) (bnd_cons (pl_bnd _ _ _) bnd_nil))))) bl_nil)) ?_
      exact ⟨(), ⟨le_of_eq (eg oz), trivial⟩, rfl, some_of hz_2⟩
  · rintro e st ⟨vz_2, hH, rfl, rfl⟩
    refine aw_keep _ hH ?_
    replace h0 := ocs_r h0
    refine aw_keep [(6, _)] ⟨lg oz, trivial⟩ ?_
    refine aw_seq ?_
    refine aw_region (by decide) ?_
    refine rts _ rfl (opD_build_struct (rs := [_, _, _, _, _]) Go.Proofs.Tryd.underlying148 pt148_U10 zt148_U10 parts_nil rfl) ?_
    refine rts _ rfl (storeAN rfl sz148_U10 (ls rfl oz) lz (ones_cons (one_pl rfl) (ones_cons (one_pl rfl) (ones_cons (one_pl rfl) (ones_cons (one_pl rfl) (ones_cons (one_pl rfl) ones_nil))))) rfl rfl (Nat.le_of_ble_eq_true rfl) (List.cons_ne_nil _ _) (bnd_cons (pl_bnd _ _ _) (bnd_cons (pl_bnd _ _ _) (bnd_cons (pl_bnd _ _ _) (bnd_cons (pl_bnd _ _ _) (bnd_cons (pl_bnd _ _ _) bnd_nil))))) (by simp only [na, nb, nc, nd, nf, ng, nh, ni, nj, nk] <;> rfl) (by simp only [na, nb, nc, nd, nf, ng, nh, ni, nj, nk] <;> rfl)) ?_
    refine rts _ rfl (opD_assign (ev_const _ _)) ?_
    refine .nil ?_
    refine aw_keep [(6, _), (7, _)] ⟨lg (ls rfl (lx (ls rfl oz))), lg lz, trivial⟩ ?_
    refine aw_ret ?_
    obtain rfl := some_of h0
    exact done_ext (.inr rfl) ((res_list (rs := [_, _]) (ps := [_, _]) rfl rfl ⟨it_cellA (B := ⟨148, [_, _, _, _, _]⟩) ag148_U10 sz148_U10 oz (loc_getN rfl rfl) rfl, it_tmp (os rfl oz), trivial⟩).le (tup_le ⟨(agg_le ⟨(Pd.le_refl _), (Pd.le_refl _), (Pd.le_refl _), (Pd.le_refl _), (Pd.le_refl _), trivial⟩), (Pd.le_refl _), trivial⟩)) (tup_bnd (bnd_cons (agg_bnd (bnd_cons (pl_bnd _ _ _) (bnd_cons (pl_bnd _ _ _) (bnd_cons (pl_bnd _ _ _) (bnd_cons (pl_bnd _ _ _) (bnd_cons (pl_bnd _ _ _) bnd_nil)))))) (bnd_cons (pl_bnd _ _ _) bnd_nil)))

def F_hdrop2_b0 (p0 : Tab) (p1 : Bool) (p2 : Int) (p3 : Int) (t_2 : (List Bool) × Int) : Option (((List Bool) × Int) ⊕ (((List Bool)))) :=
  ifb (decide (t_2.2 < (p0.L.length : Int))) (ixb p0.L t_2.2 fun x_4 => ixb p0.There t_2.2 fun x_5 => grd (Fits 1 (t_2.1.length + ([(x_5 && (!((p1 && (decide (x_4.Space = p2))) || (((!p1) && (decide (x_4.Who = p2))) && (decide (x_4.No = p3))))))] : (List Bool)).length)) <| some (.inl ((t_2.1 ++ ([(x_5 && (!((p1 && (decide (x_4.Space = p2))) || (((!p1) && (decide (x_4.Who = p2))) && (decide (x_4.No = p3))))))] : (List Bool))), IntKind.i64.wrap (t_2.2 + 1)))) (some (.inr t_2.1))
def F_hdrop2 (fl : Nat) (p0 : Tab) (p1 : Bool) (p2 : Int) (p3 : Int) : Option (Tab) :=
  bnd (lp (F_hdrop2_b0 p0 p1 p2 p3) fl (([] : (List Bool)), 0)) fun z_1 => some (⟨p0.L, z_1⟩ : Tab)
set_option maxRecDepth 100000 in
set_option maxHeartbeats 2000000 in
theorem c_hdrop2 {fl : Nat} {p0 : Tab} {p1 : Bool} {p2 : Int} {p3 : Int} {R : Tab} (h0 : F_hdrop2 fl p0 p1 p2 p3 = some R) : Pure Go.Proofs.Tryd.prog 81 [agg [sl kItm none none p0.L, sl kB none none p0.There], pl (.bool p1), pl (.int .u64 p2), pl (.int .u64 p3)] (agg [sl kItm none none R.L, sl kB none none R.There]) := by
  intro s
  unfold F_hdrop2 at h0
  refine ac_of_aw s.boxes.length s.fr.length Go.Proofs.Tryd.func81 rfl (by simp [Go.Proofs.Tryd.ntmps81]) ?_
  refine aw_ext0 ?_
  refine aw_keep [(0, _), (1, _), (2, _), (3, _)] ⟨lg ez, lg (es ez), lg (es (es ez)), lg (es (es (es ez))), trivial⟩ ?_
  refine aw_seq ?_
  refine aw_region (by decide) ?_
  refine rts _ rfl (boxAN rfl oz (bnd_cons (sl_b kb_Itm) (bnd_cons (sl_b kb_B) bnd_nil)) (by first | exact List.length_nil | (simp only [List.length_cons, List.length_nil, Nat.zero_add, Nat.reduceAdd] <;> rfl)) (by simp only [na, nb, nc, nd, nf, ng, nh, ni, nj, nk] <;> rfl)) ?_
  refine rts _ rfl (allocN rfl zt147_U10 (by first | exact List.length_nil | (simp only [List.length_cons, List.length_nil, Nat.zero_add, Nat.reduceAdd] <;> rfl)) (by simp only [na, nb, nc, nd, nf, ng, nh, ni, nj, nk] <;> rfl)) ?_
  refine .nil ?_
  refine aw_keep [(1, _), (2, _), (3, _), (4, _), (8, _)] ⟨lg (ls rfl (ls rfl (os rfl oz))), lg (ls rfl (ls rfl (os rfl (os rfl oz)))), lg (ls rfl (ls rfl (os rfl (os rfl (os rfl oz))))), lg (ls rfl lz), lg lz, trivial⟩ ?_
  refine aw_seq ?_
  refine aw_region (by decide) ?_
  refine rts _ rfl (opD_assign (ev_const _ _)) ?_
  refine .nil ?_
  refine aw_keep [(1, _), (2, _), (3, _), (4, _), (8, _), (9, _)] ⟨lg (ls rfl oz), lg (ls rfl (os rfl oz)), lg (ls rfl (os rfl (os rfl oz))), lg (ls rfl (os rfl (os rfl (os rfl oz)))), lg (ls rfl (os rfl (os rfl (os rfl (os rfl oz))))), lg lz, trivial⟩ ?_
  refine aw_seq ?_
  refine aw_seq ?_
  refine aw_region (by decide) ?_
  refine rts _ rfl (opD_assign (ev_const _ _)) ?_
  refine .nil ?_
  refine aw_keep [(1, _), (2, _), (3, _), (4, _), (8, _), (9, _), (10, _)] ⟨lg (ls rfl oz), lg (ls rfl (os rfl oz)), lg (ls rfl (os rfl (os rfl oz))), lg (ls rfl (os rfl (os rfl (os rfl oz)))), lg (ls rfl (os rfl (os rfl (os rfl (os rfl oz))))), lg (ls rfl (os rfl (os rfl (os rfl (os rfl (os rfl oz)))))), lg lz, trivial⟩ ?_
  replace h0 := bnd_some h0
  obtain ⟨z_1, hz_1, h0⟩ := h0
  refine aw_mid (fun e st => ∃ v : (List Bool), Holds e [(4, ptr (s.boxes.length + 0) 0), (8, ptr (s.boxes.length + 1) 0), (9, sl kB none none v)] ∧ st = s.ext [⟨147, [sl kItm none none p0.L, sl kB none none p0.There]⟩, ⟨147, [pl (.slice none 0 0), pl (.slice none 0 0)]⟩] [] ∧ v = z_1) ?_ ?_
  · skip
    refine aw_wkN rfl 2 0 rfl rfl ?_
    refine aw_block ?_
    refine aw_fr ⟨4, 1, 0⟩ ?_
    refine aw_loop (fun n e st => ∃ v : (List Bool) × Int, Holds e [(1, pl (.bool p1)), (2, pl (.int .u64 p2)), (3, pl (.int .u64 p3)), (4, ptr (s.boxes.length + 0) 0), (8, ptr (s.boxes.length + 1) 0), (9, sl kB (some (s.fr.length + 0)) none v.1), (10, pl (.int .i64 v.2))] ∧ st = s.ext [⟨147, [sl kItm none none p0.L, sl kB none none p0.There]⟩, ⟨147, [pl (.slice none 0 0), pl (.slice none 0 0)]⟩] [⟨4, 1, v.1.length⟩] ∧ lp (F_hdrop2_b0 p0 p1 p2 p3) n v = some z_1) fl ⟨(([] : (List Bool)), 0), ⟨le_of_eq (eg oz), le_of_eq (eg (os rfl oz)), le_of_eq (eg (os rfl (os rfl oz))), le_of_eq (eg (os rfl (os rfl (os rfl oz)))), le_of_eq (eg (os rfl (os rfl (os rfl (os rfl oz))))), (le_of_eq (eg (os rfl (os rfl (os rfl (os rfl (os rfl oz))))))).trans (nil_own rfl), le_of_eq (eg (os rfl (os rfl (os rfl (os rfl (os rfl (os rfl oz))))))), trivial⟩, rfl, hz_1⟩ ?_
    rintro n e st ⟨t_2, hH, rfl, hz_1⟩
    replace hz_1 := lp_some hz_1
    obtain ⟨m_z_3, z_3, rfl, hz_3, hz_1⟩ := hz_1
    unfold F_hdrop2_b0 at hz_3
    refine aw_keep _ hH ?_
    refine aw_wkN rfl 2 1 rfl rfl ?_
    refine aw_seq ?_
    refine aw_seq ?_
    refine aw_region (by decide) ?_
    refine rts _ rfl (opD_move (os rfl (os rfl (os rfl (os rfl (os rfl (os rfl oz))))))) ?_
    refine rts _ rfl (opD_fieldAddr fo147_0_U10 (ls rfl (os rfl (os rfl (os rfl oz))))) ?_
    refine rts _ rfl (opD_load_one ag144_U10 lz (loc_getN rfl rfl) rfl) ?_
    refine rts _ rfl (opD_len_sl Go.Proofs.Tryd.underlying144 lz) ?_
    refine rts _ rfl (opD_lss (ls rfl (ls rfl (ls rfl lz))) lz) ?_
    refine .nil ?_
    refine aw_keep [(1, _), (2, _), (3, _), (4, _), (8, _), (9, _), (10, _), (17, _)] ⟨lg (ls rfl (ls rfl (ls rfl (ls rfl (ls rfl oz))))), lg (ls rfl (ls rfl (ls rfl (ls rfl (ls rfl (os rfl oz)))))), lg (ls rfl (ls rfl (ls rfl (ls rfl (ls rfl (os rfl (os rfl oz))))))), lg (ls rfl (ls rfl (ls rfl (ls rfl (ls rfl (os rfl (os rfl (os rfl oz)))))))), lg (ls rfl (ls rfl (ls rfl (ls rfl (ls rfl (os rfl (os rfl (os rfl (os rfl oz))))))))), lg (ls rfl (ls rfl (ls rfl (ls rfl (ls rfl (os rfl (os rfl (os rfl (os rfl (os rfl oz)))))))))), lg (ls rfl (ls rfl (ls rfl (ls rfl (ls rfl (os rfl (os rfl (os rfl (os rfl (os rfl (os rfl oz))))))))))), lg lz, trivial⟩ ?_
    refine aw_cond _ (os rfl (os rfl (os rfl (os rfl (os rfl (os rfl (os rfl oz))))))) (fun hc => ?_) (fun hc => ?_)
    · skip
      replace hz_3 := ifb_t hz_3 hc
      clear hc
      refine aw_skip ?_
      refine aw_keep [(1, _), (2, _), (3, _), (4, _), (8, _), (9, _), (10, _)] ⟨lg oz, lg (os rfl oz), lg (os rfl (os rfl oz)), lg (os rfl (os rfl (os rfl oz))), lg (os rfl (os rfl (os rfl (os rfl oz)))), lg (os rfl (os rfl (os rfl (os rfl (os rfl oz))))), lg (os rfl (os rfl (os rfl (os rfl (os rfl (os rfl oz)))))), trivial⟩ ?_
      refine aw_seq ?_
      refine aw_block ?_
      refine aw_seq ?_
      refine aw_region (by decide) ?_
      refine rts _ rfl (opD_fieldAddr fo147_0_U10 (os rfl (os rfl (os rfl oz)))) ?_
      refine rts _ rfl (opD_load_one ag144_U10 lz (loc_getN rfl rfl) rfl) ?_
      refine rts _ rfl (opD_move (ls rfl (ls rfl (os rfl (os rfl (os rfl (os rfl (os rfl (os rfl oz))))))))) ?_
      replace hz_3 := ixb_some hz_3
      obtain ⟨x_4, hx_4, hbx_4, hz_3⟩ := hz_3
      refine rts _ rfl (opD_indexAddr_sl (i := t_2.2.toNat) Go.Proofs.Tryd.underlying144 sz148_U10 (ls rfl lz) lz hbx_4.2.2 hbx_4.2.1) ?_
      refine rts _ rfl (opD_load_el_aggX (qs := [_, _, _, _, _]) ag148_U10 sz148_U10 lz hx_4 (Nat.le_of_ble_eq_true rfl) rfl) ?_
      refine rts _ rfl (allocN rfl zt148_U10 (by first | exact List.length_nil | (simp only [List.length_cons, List.length_nil, Nat.zero_add, Nat.reduceAdd] <;> rfl)) (by simp only [na, nb, nc, nd, nf, ng, nh, ni, nj, nk] <;> rfl)) ?_
      refine rts _ rfl (storeAN rfl sz148_U10 lz (ls rfl lz) (ones_cons (one_pl rfl) (ones_cons (one_pl rfl) (ones_cons (one_pl rfl) (ones_cons (one_pl rfl) (ones_cons (one_pl rfl) ones_nil))))) rfl rfl (Nat.le_of_ble_eq_true rfl) (List.cons_ne_nil _ _) (bnd_cons (pl_bnd _ _ _) (bnd_cons (pl_bnd _ _ _) (bnd_cons (pl_bnd _ _ _) (bnd_cons (pl_bnd _ _ _) (bnd_cons (pl_bnd _ _ _) bnd_nil))))) (by simp only [na, nb, nc, nd, nf, ng, nh, ni, nj, nk] <;> rfl) (by simp only [na, nb, nc, nd, nf, ng, nh, ni, nj, nk] <;> rfl)) ?_
      refine .nil ?_
      refine aw_keep [(1, _), (2, _), (3, _), (4, _), (8, _), (9, _), (10, _), (11, _)] ⟨lg (lx (ls rfl (ls rfl (ls rfl (ls rfl (ls rfl (ls rfl oz))))))), lg (lx (ls rfl (ls rfl (ls rfl (ls rfl (ls rfl (ls rfl (os rfl oz)))))))), lg (lx (ls rfl (ls rfl (ls rfl (ls rfl (ls rfl (ls rfl (os rfl (os rfl oz))))))))), lg (lx (ls rfl (ls rfl (ls rfl (ls rfl (ls rfl (ls rfl (os rfl (os rfl (os rfl oz)))))))))), lg (lx (ls rfl (ls rfl (ls rfl (ls rfl (ls rfl (ls rfl (os rfl (os rfl (os rfl (os rfl oz))))))))))), lg (lx (ls rfl (ls rfl (ls rfl (ls rfl (ls rfl (ls rfl (os rfl (os rfl (os rfl (os rfl (os rfl oz)))))))))))), lg (lx (ls rfl (ls rfl (ls rfl (ls rfl (ls rfl (ls rfl (os rfl (os rfl (os rfl (os rfl (os rfl (os rfl oz))))))))))))), lg (lx lz), trivial⟩ ?_
      refine aw_seq ?_
      refine aw_region (by decide) ?_
      refine rts _ rfl (opD_move oz) ?_
      refine rts _ rfl (opD_move lz) ?_
      refine rtg _ rfl lz (fun hg6_2_106 => opD_fieldAddr fo148_2_U10 (ls rfl (ls rfl (os rfl (os rfl (os rfl (os rfl (os rfl (os rfl (os rfl oz)))))))))) ?_
      refine rtg _ rfl (ls rfl lz) (fun hg6_3_107 => opD_load_one ag22_U10 (lz.trans (pif_pos hg6_3_107)) (loc_getN rfl rfl) rfl) ?_
      refine rtg _ rfl (ls rfl (ls rfl lz)) (fun hg6_4_108 => opD_move (ls rfl (ls rfl (ls rfl (ls rfl (os rfl oz)))))) ?_
      refine rtg _ rfl (ls rfl (ls rfl (ls rfl lz))) (fun hg6_5_109 => opD_eql ((ls rfl lz).trans (pif_pos hg6_5_109)) (lz.trans (pif_pos hg6_5_109))) ?_
      refine rts _ rfl (opD_and (ls rfl (ls rfl (ls rfl (ls rfl lz)))) lz) ?_
      refine rts _ rfl (opD_move lz) ?_
      refine rtg _ rfl lz (fun hg6_8_110 => opD_move (ls rfl (ls rfl (ls rfl (ls rfl (ls rfl (ls rfl (ls rfl (ls rfl oz))))))))) ?_
      refine rtg _ rfl (ls rfl lz) (fun hg6_9_111 => opD_not (lz.trans (pif_pos hg6_9_111))) ?_
      refine rtg _ rfl (ls rfl (ls rfl lz)) (fun hg6_10_112 => opD_move (lz.trans (pif_pos hg6_10_112))) ?_
      refine rtg2 _ rfl lz (fun hg6_11_113 => opD_fieldAddr fo148_0_U10 (ls rfl (ls rfl (ls rfl (ls rfl (ls rfl (ls rfl (ls rfl (ls rfl (ls rfl (ls rfl (ls rfl (os rfl (os rfl (os rfl (os rfl (os rfl (os rfl (os rfl oz))))))))))))))))))) ?_
      refine rtg2 _ rfl (ls rfl lz) (fun hg6_12_114 => opD_load_one ag22_U10 (lz.trans (pif_pos hg6_12_114)) (loc_getN rfl rfl) rfl) ?_
      refine rtg2 _ rfl (ls rfl (ls rfl lz)) (fun hg6_13_115 => opD_move (ls rfl (ls rfl (ls rfl (ls rfl (ls rfl (ls rfl (ls rfl (ls rfl (ls rfl (ls rfl (ls rfl (ls rfl (ls rfl (os rfl oz))))))))))))))) ?_
      refine rtg2 _ rfl (ls rfl (ls rfl (ls rfl lz))) (fun hg6_14_116 => opD_eql ((ls rfl lz).trans (pif_pos hg6_14_116)) (lz.trans (pif_pos hg6_14_116))) ?_
      refine rtg _ rfl (ls rfl (ls rfl (ls rfl (ls rfl (ls rfl (ls rfl (ls rfl lz))))))) (fun hg6_15_117 => opD_and ((ls rfl (ls rfl (ls rfl (ls rfl lz)))).trans (pif_pos hg6_15_117)) (lz.trans (pif_and hg6_15_117))) ?_
      refine rtg _ rfl (ls rfl (ls rfl (ls rfl (ls rfl (ls rfl (ls rfl (ls rfl (ls rfl lz)))))))) (fun hg6_16_118 => opD_move (lz.trans (pif_pos hg6_16_118))) ?_
      refine rtg2 _ rfl lz (fun hg6_17_119 => opD_fieldAddr fo148_1_U10 (ls rfl (ls rfl (ls rfl (ls rfl (ls rfl (ls rfl (ls rfl (ls rfl (ls rfl (ls rfl (ls rfl (ls rfl (ls rfl (ls rfl (ls rfl (ls rfl (ls rfl (os rfl (os rfl (os rfl (os rfl (os rfl (os rfl (os rfl oz))))))))))))))))))))))))) ?_
      refine rtg2 _ rfl (ls rfl lz) (fun hg6_18_120 => opD_load_one ag22_U10 (lz.trans (pif_pos hg6_18_120)) (loc_getN rfl rfl) rfl) ?_
      refine rtg2 _ rfl (ls rfl (ls rfl lz)) (fun hg6_19_121 => opD_move (ls rfl (ls rfl (ls rfl (ls rfl (ls rfl (ls rfl (ls rfl (ls rfl (ls rfl (ls rfl (ls rfl (ls rfl (ls rfl (ls rfl (ls rfl (ls rfl (ls rfl (ls rfl (ls rfl (os rfl (os rfl oz)))))))))))))))))))))) ?_
      refine rtg2 _ rfl (ls rfl (ls rfl (ls rfl lz))) (fun hg6_20_122 => opD_eql ((ls rfl lz).trans (pif_pos hg6_20_122)) (lz.trans (pif_pos hg6_20_122))) ?_
      refine rtg _ rfl (ls rfl (ls rfl (ls rfl (ls rfl (ls rfl (ls rfl (ls rfl (ls rfl (ls rfl (ls rfl (ls rfl (ls rfl (ls rfl lz))))))))))))) (fun hg6_21_123 => opD_and ((ls rfl (ls rfl (ls rfl (ls rfl lz)))).trans (pif_pos hg6_21_123)) (lz.trans (pif_and hg6_21_123))) ?_
      refine rts _ rfl (opD_or (ls rfl (ls rfl (ls rfl (ls rfl (ls rfl (ls rfl (ls rfl (ls rfl (ls rfl (ls rfl (ls rfl (ls rfl (ls rfl (ls rfl lz)))))))))))))) lz) ?_
      refine rts _ rfl (opD_assign lz) ?_
      refine .nil ?_
      refine aw_keep [(1, _), (2, _), (3, _), (4, _), (8, _), (9, _), (10, _), (12, _)] ⟨lg (ls rfl (ls rfl (ls rfl (ls rfl (ls rfl (ls rfl (ls rfl (ls rfl (ls rfl (ls rfl (ls rfl (ls rfl (ls rfl (ls rfl (ls rfl (ls rfl (ls rfl (ls rfl (ls rfl (ls rfl (ls rfl (ls rfl (ls rfl (ls rfl oz)))))))))))))))))))))))), lg (ls rfl (ls rfl (ls rfl (ls rfl (ls rfl (ls rfl (ls rfl (ls rfl (ls rfl (ls rfl (ls rfl (ls rfl (ls rfl (ls rfl (ls rfl (ls rfl (ls rfl (ls rfl (ls rfl (ls rfl (ls rfl (ls rfl (ls rfl (ls rfl (os rfl oz))))))))))))))))))))))))), lg (ls rfl (ls rfl (ls rfl (ls rfl (ls rfl (ls rfl (ls rfl (ls rfl (ls rfl (ls rfl (ls rfl (ls rfl (ls rfl (ls rfl (ls rfl (ls rfl (ls rfl (ls rfl (ls rfl (ls rfl (ls rfl (ls rfl (ls rfl (ls rfl (os rfl (os rfl oz)))))))))))))))))))))))))), lg (ls rfl (ls rfl (ls rfl (ls rfl (ls rfl (ls rfl (ls rfl (ls rfl (ls rfl (ls rfl (ls rfl (ls rfl (ls rfl (ls rfl (ls rfl (ls rfl (ls rfl (ls rfl (ls rfl (ls rfl (ls rfl (ls rfl (ls rfl (ls rfl (os rfl (os rfl (os rfl oz))))))))))))))))))))))))))), lg (ls rfl (ls rfl (ls rfl (ls rfl (ls rfl (ls rfl (ls rfl (ls rfl (ls rfl (ls rfl (ls rfl (ls rfl (ls rfl (ls rfl (ls rfl (ls rfl (ls rfl (ls rfl (ls rfl (ls rfl (ls rfl (ls rfl (ls rfl (ls rfl (os rfl (os rfl (os rfl (os rfl oz)))))))))))))))))))))))))))), lg (ls rfl (ls rfl (ls rfl (ls rfl (ls rfl (ls rfl (ls rfl (ls rfl (ls rfl (ls rfl (ls rfl (ls rfl (ls rfl (ls rfl (ls rfl (ls rfl (ls rfl (ls rfl (ls rfl (ls rfl (ls rfl (ls rfl (ls rfl (ls rfl (os rfl (os rfl (os rfl (os rfl (os rfl oz))))))))))))))))))))))))))))), lg (ls rfl (ls rfl (ls rfl (ls rfl (ls rfl (ls rfl (ls rfl (ls rfl (ls rfl (ls rfl (ls rfl (ls rfl (ls rfl (ls rfl (ls rfl (ls rfl (ls rfl (ls rfl (ls rfl (ls rfl (ls rfl (ls rfl (ls rfl (ls rfl (os rfl (os rfl (os rfl (os rfl (os rfl (os rfl oz)))))))))))))))))))))))))))))), lg lz, trivial⟩ ?_
      refine aw_region (by decide) ?_
      refine rts _ rfl (opD_move (os rfl (os rfl (os rfl (os rfl (os rfl oz)))))) ?_
      refine rts _ rfl (opD_fieldAddr fo147_1_U10 (ls rfl (os rfl (os rfl (os rfl oz))))) ?_
      refine rts _ rfl (opD_load_one ag145_U10 lz (loc_getN rfl rfl) rfl) ?_
      refine rts _ rfl (opD_move (ls rfl (ls rfl (ls rfl (os rfl (os rfl (os rfl (os rfl (os rfl (os rfl oz)))))))))) ?_
      replace hz_3 := ixb_some hz_3
      obtain ⟨x_5, hx_5, hbx_5, hz_3⟩ := hz_3
      refine rts _ rfl (opD_indexAddr_sl (i := t_2.2.toNat) Go.Proofs.Tryd.underlying145 sz4_U10 (ls rfl lz) lz hbx_5.2.2 hbx_5.2.1) ?_
      refine rts _ rfl (opD_load_el_one ag4_U10 lz hx_5 rfl) ?_
      refine rts _ rfl (opD_move lz) ?_
      refine rtg _ rfl lz (fun hg7_7_124 => opD_move (ls rfl (ls rfl (ls rfl (ls rfl (ls rfl (ls rfl (ls rfl (os rfl (os rfl (os rfl (os rfl (os rfl (os rfl (os rfl oz))))))))))))))) ?_
      refine rtg _ rfl (ls rfl lz) (fun hg7_8_125 => opD_not (lz.trans (pif_pos hg7_8_125))) ?_
      refine rts _ rfl (opD_and (ls rfl (ls rfl lz)) lz) ?_
      refine rts _ rfl (opD_buildOwn (k := kB) ([(x_5 && (!((p1 && (decide (x_4.Space = p2))) || (((!p1) && (decide (x_4.Who = p2))) && (decide (x_4.No = p3))))))] : (List Bool)) Go.Proofs.Tryd.underlying145 sz4_U10 zt4_U10 (by decide) rfl (parts_cons (cells1 lz (one_pl rfl)) parts_nil) rfl rfl (by first | exact List.length_nil | (simp only [List.length_cons, List.length_nil, Nat.zero_add, Nat.reduceAdd] <;> rfl)) (by simp only [na, nb, nc, nd, nf, ng, nh, ni, nj, nk] <;> rfl)) ?_
      replace hz_3 := grd_some hz_3
      obtain ⟨hg_126, hz_3⟩ := hz_3
      refine rts _ rfl (opD_appendX Go.Proofs.Tryd.underlying145 el4_U10 (ls rfl (ls rfl (ls rfl (ls rfl (ls rfl (ls rfl (ls rfl (ls rfl (ls rfl (ls rfl lz)))))))))) lz rfl hg_126.1 hg_126.2 rfl (by simp only [na, nb, nc, nd, nf, ng, nh, ni, nj, nk] <;> rfl)) ?_
      refine rts _ rfl (opD_assign lz) ?_
      refine .nil ?_
      refine aw_keep [(1, _), (2, _), (3, _), (4, _), (8, _), (9, _), (10, _)] ⟨lg (ls rfl (ls rfl (ls rfl (ls rfl (ls rfl (ls rfl (ls rfl (ls rfl (ls rfl (ls rfl (ls rfl (ls rfl (ls rfl oz))))))))))))), lg (ls rfl (ls rfl (ls rfl (ls rfl (ls rfl (ls rfl (ls rfl (ls rfl (ls rfl (ls rfl (ls rfl (ls rfl (ls rfl (os rfl oz)))))))))))))), lg (ls rfl (ls rfl (ls rfl (ls rfl (ls rfl (ls rfl (ls rfl (ls rfl (ls rfl (ls rfl (ls rfl (ls rfl (ls rfl (os rfl (os rfl oz))))))))))))))), lg (ls rfl (ls rfl (ls rfl (ls rfl (ls rfl (ls rfl (ls rfl (ls rfl (ls rfl (ls rfl (ls rfl (ls rfl (ls rfl (os rfl (os rfl (os rfl oz)))))))))))))))), lg (ls rfl (ls rfl (ls rfl (ls rfl (ls rfl (ls rfl (ls rfl (ls rfl (ls rfl (ls rfl (ls rfl (ls rfl (ls rfl (os rfl (os rfl (os rfl (os rfl oz))))))))))))))))), lg lz, lg (ls rfl (ls rfl (ls rfl (ls rfl (ls rfl (ls rfl (ls rfl (ls rfl (ls rfl (ls rfl (ls rfl (ls rfl (ls rfl (os rfl (os rfl (os rfl (os rfl (os rfl (os rfl oz))))))))))))))))))), trivial⟩ ?_
      refine aw_region (by decide) ?_
      refine rts _ rfl (opD_move (os rfl (os rfl (os rfl (os rfl (os rfl (os rfl oz))))))) ?_
      refine rts _ rfl (opD_add lz (ev_const _ _) rfl) ?_
      refine rts _ rfl (opD_assign lz) ?_
      refine .nil ?_
      obtain rfl := some_of hz_3
      replace hz_1 := ocs_l hz_1
      refine wk_yesN rfl (l := [(1, pl (.bool p1)), (2, pl (.int .u64 p2)), (3, pl (.int .u64 p3)), (4, ptr (s.boxes.length + 0) 0), (8, ptr (s.boxes.length + 1) 0), (9, sl kB (some (s.fr.length + 0)) none (t_2.1 ++ ([(x_5 && (!((p1 && (decide (x_4.Space = p2))) || (((!p1) && (decide (x_4.Who = p2))) && (decide (x_4.No = p3))))))] : (List Bool)))), (10, pl (.int .i64 (IntKind.i64.wrap (t_2.2 + 1))))]) (bs' := [⟨147, [sl kItm none none p0.L, sl kB none none p0.There]⟩, ⟨147, [pl (.slice none 0 0), pl (.slice none 0 0)]⟩]) ⟨le_of_eq (eg (ls rfl (ls rfl (ls rfl oz)))), le_of_eq (eg (ls rfl (ls rfl (ls rfl (os rfl oz))))), le_of_eq (eg (ls rfl (ls rfl (ls rfl (os rfl (os rfl oz)))))), le_of_eq (eg (ls rfl (ls rfl (ls rfl (os rfl (os rfl (os rfl oz))))))), le_of_eq (eg (ls rfl (ls rfl (ls rfl (os rfl (os rfl (os rfl (os rfl oz)))))))), le_of_eq (eg (ls rfl (ls rfl (ls rfl (os rfl (os rfl (os rfl (os rfl (os rfl oz))))))))), le_of_eq (eg lz), trivial⟩ (bnd_cons (pl_bnd _ _ _) (bnd_cons (pl_bnd _ _ _) (bnd_cons (pl_bnd _ _ _) (bnd_cons (ptr_bnd _ (by first | omega | (simp only [List.length_append, List.length_cons, List.length_nil]; omega))) (bnd_cons (ptr_bnd _ (by first | omega | (simp only [List.length_append, List.length_cons, List.length_nil]; omega))) (bnd_cons (sl_ob kb_B (by first | omega | (simp only [List.length_append, List.length_cons, List.length_nil, ext_fr_length, upd_fr_length]; omega))) (bnd_cons (pl_bnd _ _ _) bnd_nil))))))) (Nat.le_of_ble_eq_true rfl) (by simp only [na, nb, nc, nd, nf, ng, nh, ni, nj, nk] <;> rfl) (bxle_same (bxle_same bxle_nil)) rfl (by simp only [na, nb, nc, nd, nf, ng, nh, ni, nj, nk] <;> rfl) (bl_cons (bnd_cons (sl_b kb_Itm) (bnd_cons (sl_b kb_B) bnd_nil)) (bl_cons (bnd_cons (pl_bnd _ _ _) (bnd_cons (pl_bnd _ _ _) bnd_nil)) bl_nil)) ?_
      exact ⟨m_z_3, Nat.lt_succ_self _, ((t_2.1 ++ ([(x_5 && (!((p1 && (decide (x_4.Space = p2))) || (((!p1) && (decide (x_4.Who = p2))) && (decide (x_4.No = p3))))))] : (List Bool))), IntKind.i64.wrap (t_2.2 + 1)), ⟨le_of_eq (eg oz), le_of_eq (eg (os rfl oz)), le_of_eq (eg (os rfl (os rfl oz))), le_of_eq (eg (os rfl (os rfl (os rfl oz)))), le_of_eq (eg (os rfl (os rfl (os rfl (os rfl oz))))), le_of_eq (eg (os rfl (os rfl (os rfl (os rfl (os rfl oz)))))), le_of_eq (eg (os rfl (os rfl (os rfl (os rfl (os rfl (os rfl oz))))))), trivial⟩, rfl, hz_1⟩
    · skip
      replace hz_3 := ifb_f hz_3 hc
      clear hc
      refine aw_exit ?_
      obtain rfl := some_of hz_3
      replace hz_1 := ocs_r hz_1
      refine wk_no ?_
      refine wk_yesN rfl (l := [(4, ptr (s.boxes.length + 0) 0), (8, ptr (s.boxes.length + 1) 0), (9, sl kB none none t_2.1)]) (bs' := [⟨147, [sl kItm none none p0.L, sl kB none none p0.There]⟩, ⟨147, [pl (.slice none 0 0), pl (.slice none 0 0)]⟩]) ⟨le_of_eq (eg (os rfl (os rfl (os rfl oz)))), le_of_eq (eg (os rfl (os rfl (os rfl (os rfl oz))))), (le_of_eq (eg (os rfl (os rfl (os rfl (os rfl (os rfl oz))))))).trans (sl_le _ (some (s.fr.length + 0)) none _), trivial⟩ (bnd_cons (ptr_bnd _ (by first | omega | (simp only [List.length_append, List.length_cons, List.length_nil]; omega))) (bnd_cons (ptr_bnd _ (by first | omega | (simp only [List.length_append, List.length_cons, List.length_nil]; omega))) (bnd_cons (sl_b kb_B) bnd_nil))) (Nat.le_of_ble_eq_true rfl) (by simp only [na, nb, nc, nd, nf, ng, nh, ni, nj, nk] <;> rfl) (bxle_same (bxle_same bxle_nil)) rfl (by simp only [na, nb, nc, nd, nf, ng, nh, ni, nj, nk] <;> rfl) (bl_cons (bnd_cons (sl_b kb_Itm) (bnd_cons (sl_b kb_B) bnd_nil)) (bl_cons (bnd_cons (pl_bnd _ _ _) (bnd_cons (pl_bnd _ _ _) bnd_nil)) bl_nil)) ?_
      exact ⟨t_2.1, ⟨le_of_eq (eg oz), le_of_eq (eg (os rfl oz)), le_of_eq (eg (os rfl (os rfl oz))), trivial⟩, rfl, some_of hz_1⟩
  · rintro e st ⟨vz_1, hH, rfl, rfl⟩
    refine aw_keep _ hH ?_
    refine aw_keep [(4, _), (8, _), (9, _)] ⟨lg oz, lg (os rfl oz), lg (os rfl (os rfl oz)), trivial⟩ ?_
    refine aw_seq ?_
    refine aw_region (by decide) ?_
    refine rts _ rfl (opD_fieldAddr fo147_0_U10 oz) ?_
    refine rts _ rfl (opD_load_one ag144_U10 lz (loc_getN rfl rfl) rfl) ?_
    refine rts _ rfl (opD_move (ls rfl (ls rfl (os rfl (os rfl oz))))) ?_
    refine rts _ rfl (opD_build_struct (rs := [_, _]) Go.Proofs.Tryd.underlying147 pt147_U10 zt147_U10 (parts_cons (cells1 (ls rfl lz) (one_sl _ _ _ _)) (parts_cons (cells1 lz (one_sl _ _ _ _)) parts_nil)) rfl) ?_
    refine rts _ rfl (storeAN rfl sz147_U10 (ls rfl (ls rfl (ls rfl (ls rfl (os rfl oz))))) lz (ones_cons (one_sl _ _ _ _) (ones_cons (one_sl _ _ _ _) ones_nil)) rfl rfl (Nat.le_of_ble_eq_true rfl) (List.cons_ne_nil _ _) (bnd_cons (sl_b kb_Itm) (bnd_cons (sl_b kb_B) bnd_nil)) (by simp only [na, nb, nc, nd, nf, ng, nh, ni, nj, nk] <;> rfl) (by simp only [na, nb, nc, nd, nf, ng, nh, ni, nj, nk] <;> rfl)) ?_
    refine .nil ?_
    refine aw_keep [(8, _)] ⟨lg (lx (ls rfl (ls rfl (ls rfl (ls rfl (os rfl oz)))))), trivial⟩ ?_
    refine aw_ret ?_
    obtain rfl := some_of h0
    exact done_ext (.inr rfl) ((res_one rfl (it_cellA (B := ⟨147, [_, _]⟩) ag147_U10 sz147_U10 oz (loc_getN rfl rfl) rfl)).le (agg_le ⟨(Pd.le_refl _), (Pd.le_refl _), trivial⟩)) (agg_bnd (bnd_cons (sl_b kb_Itm) (bnd_cons (sl_b kb_B) bnd_nil)))

def F_hitems_b0 (p0 : (List Itm)) (p1 : (List Itm)) (t_2 : Int) : Option ((Int) ⊕ ((Bool) ⊕ (Unit))) :=
  ifb (decide (t_2 < (p1.length : Int))) (ixb p0 t_2 fun x_4 => ixb p1 t_2 fun x_5 => ifb (!(decide (x_4.Who = x_5.Who) && (decide (x_4.No = x_5.No) && (decide (x_4.Space = x_5.Space) && (decide (x_4.Gen = x_5.Gen) && (decide (x_4.Txn = x_5.Txn) && true)))))) (some (.inr (.inl false))) (some (.inl (IntKind.i64.wrap (t_2 + 1))))) (some (.inr (.inr ())))
def F_hitems (fl : Nat) (p0 : (List Itm)) (p1 : (List Itm)) : Option (Bool) :=
  ifb (decide ((p0.length : Int) ≠ (p1.length : Int))) (some false) (bnd (lp (F_hitems_b0 p0 p1) fl 0) fun z_1 => ocs z_1 (fun qz_1_0 => some qz_1_0) fun z_1_0 => some true)
set_option maxRecDepth 100000 in
set_option maxHeartbeats 2000000 in
theorem c_hitems {fl : Nat} {p0 : (List Itm)} {p1 : (List Itm)} {R : Bool} (h0 : F_hitems fl p0 p1 = some R) : Pure Go.Proofs.Tryd.prog 83 [sl kItm none none p0, sl kItm none none p1] (pl (.bool R)) := by
  intro s
  unfold F_hitems at h0
  refine ac_of_aw s.boxes.length s.fr.length Go.Proofs.Tryd.func83 rfl (by simp [Go.Proofs.Tryd.ntmps83]) ?_
  refine aw_ext0 ?_
  refine aw_keep [(0, _), (1, _)] ⟨lg ez, lg (es ez), trivial⟩ ?_
  refine aw_seq ?_
  refine aw_region (by decide) ?_
  refine rts _ rfl (opD_assign (ev_const _ _)) ?_
  refine .nil ?_
  refine aw_keep [(0, _), (1, _)] ⟨lg (ls rfl oz), lg (ls rfl (os rfl oz)), trivial⟩ ?_
  refine aw_seq ?_
  refine aw_seq ?_
  refine aw_region (by decide) ?_
  refine rts _ rfl (opD_move oz) ?_
  refine rts _ rfl (opD_len_sl Go.Proofs.Tryd.underlying141 lz) ?_
  refine rts _ rfl (opD_move (ls rfl (ls rfl (os rfl oz)))) ?_
  refine rts _ rfl (opD_len_sl Go.Proofs.Tryd.underlying144 lz) ?_
  refine rts _ rfl (opD_neq (ls rfl (ls rfl lz)) lz) ?_
  refine .nil ?_
  refine aw_keep [(0, _), (1, _), (10, _)] ⟨lg (ls rfl (ls rfl (ls rfl (ls rfl (ls rfl oz))))), lg (ls rfl (ls rfl (ls rfl (ls rfl (ls rfl (os rfl oz)))))), lg lz, trivial⟩ ?_
  refine aw_cond _ (os rfl (os rfl oz)) (fun hc => ?_) (fun hc => ?_)
  · skip
    replace h0 := ifb_t h0 hc
    clear hc
    refine aw_seq ?_
    refine aw_region (by decide) ?_
    refine rts _ rfl (opD_assign (ev_const _ _)) ?_
    refine .nil ?_
    refine aw_keep [(4, _)] ⟨lg lz, trivial⟩ ?_
    refine aw_ret ?_
    obtain rfl := some_of h0
    exact done_ext (.inr rfl) ((res_one rfl (it_tmp oz)).le (Pd.le_refl _)) (pl_bnd _ _ _)
  · skip
    replace h0 := ifb_f h0 hc
    clear hc
    refine aw_skip ?_
    refine aw_keep [(0, _), (1, _)] ⟨lg oz, lg (os rfl oz), trivial⟩ ?_
    refine aw_seq ?_
    refine aw_seq ?_
    refine aw_region (by decide) ?_
    refine rts _ rfl (opD_assign (ev_const _ _)) ?_
    refine .nil ?_
    refine aw_keep [(0, _), (1, _), (5, _)] ⟨lg (ls rfl oz), lg (ls rfl (os rfl oz)), lg lz, trivial⟩ ?_
    replace h0 := bnd_some h0
    obtain ⟨z_1, hz_1, h0⟩ := h0
    refine aw_mid (fun e st => ∃ v : Unit, Holds e [] ∧ st = s.ext [] [] ∧ (.inr v) = z_1) ?_ ?_
    · skip
      refine aw_wkN rfl 0 0 rfl rfl ?_
      refine aw_block ?_
      refine aw_loop (fun n e st => ∃ v : Int, Holds e [(0, sl kItm none none p0), (1, sl kItm none none p1), (5, pl (.int .i64 v))] ∧ st = s.ext [] [] ∧ lp (F_hitems_b0 p0 p1) n v = some z_1) fl ⟨0, ⟨le_of_eq (eg oz), le_of_eq (eg (os rfl oz)), le_of_eq (eg (os rfl (os rfl oz))), trivial⟩, rfl, hz_1⟩ ?_
      rintro n e st ⟨t_2, hH, rfl, hz_1⟩
      replace hz_1 := lp_some hz_1
      obtain ⟨m_z_3, z_3, rfl, hz_3, hz_1⟩ := hz_1
      unfold F_hitems_b0 at hz_3
      refine aw_keep _ hH ?_
      refine aw_wkN rfl 0 0 rfl rfl ?_
      refine aw_seq ?_
      refine aw_seq ?_
      refine aw_region (by decide) ?_
      refine rts _ rfl (opD_move (os rfl (os rfl oz))) ?_
      refine rts _ rfl (opD_move (ls rfl (os rfl oz))) ?_
      refine rts _ rfl (opD_len_sl Go.Proofs.Tryd.underlying144 lz) ?_
      refine rts _ rfl (opD_lss (ls rfl (ls rfl lz)) lz) ?_
      refine .nil ?_
      refine aw_keep [(0, _), (1, _), (5, _), (14, _)] ⟨lg (ls rfl (ls rfl (ls rfl (ls rfl oz)))), lg (ls rfl (ls rfl (ls rfl (ls rfl (os rfl oz))))), lg (ls rfl (ls rfl (ls rfl (ls rfl (os rfl (os rfl oz)))))), lg lz, trivial⟩ ?_
      refine aw_cond _ (os rfl (os rfl (os rfl oz))) (fun hc => ?_) (fun hc => ?_)
      · skip
        replace hz_3 := ifb_t hz_3 hc
        clear hc
        refine aw_skip ?_
        refine aw_keep [(0, _), (1, _), (5, _)] ⟨lg oz, lg (os rfl oz), lg (os rfl (os rfl oz)), trivial⟩ ?_
        refine aw_seq ?_
        refine aw_block ?_
        refine aw_seq ?_
        refine aw_flat mixed_U10 (by decide +kernel) ?_
        refine zts _ rfl (opD_move oz) ?_
        refine zts _ rfl (opD_move (ls rfl (os rfl (os rfl oz)))) ?_
        replace hz_3 := ixb_some hz_3
        obtain ⟨x_4, hx_4, hbx_4, hz_3⟩ := hz_3
        refine zts _ rfl (opD_indexAddr_sl (i := t_2.toNat) Go.Proofs.Tryd.underlying141 sz137_U10 (ls rfl lz) lz hbx_4.2.2 hbx_4.2.1) ?_
        refine zts _ rfl (opD_load_el_aggX (qs := [_, _, _, _, _]) ag137_U10 sz137_U10 lz hx_4 (Nat.le_of_ble_eq_true rfl) rfl) ?_
        refine zts _ rfl (opD_move (ls rfl (ls rfl (ls rfl (ls rfl (os rfl oz)))))) ?_
        refine zts _ rfl (opD_move (ls rfl (ls rfl (ls rfl (ls rfl (ls rfl (os rfl (os rfl oz)))))))) ?_
        replace hz_3 := ixb_some hz_3
        obtain ⟨x_5, hx_5, hbx_5, hz_3⟩ := hz_3
        refine zts _ rfl (opD_indexAddr_sl (i := t_2.toNat) Go.Proofs.Tryd.underlying144 sz148_U10 (ls rfl lz) lz hbx_5.2.2 hbx_5.2.1) ?_
        refine zts _ rfl (opD_load_el_aggX (qs := [_, _, _, _, _]) ag148_U10 sz148_U10 lz hx_5 (Nat.le_of_ble_eq_true rfl) rfl) ?_
        refine zts _ rfl (opD_binA [.int .u64 x_4.Who, .int .u64 x_4.No, .int .u64 x_4.Space, .int .u64 x_4.Gen, .int .u64 x_4.Txn] [.int .u64 x_5.Who, .int .u64 x_5.No, .int .u64 x_5.Space, .int .u64 x_5.Gen, .int .u64 x_5.Txn] (ls rfl (ls rfl (ls rfl (ls rfl lz)))) lz (fun w => (eq_Itm_g _ _ _ _ _ w)) (fun w => (eq_Itm _ _ _ _ _ _ _ _ _ _ w).2)) ?_
        refine .nil ?_
        refine aw_keep [(0, _), (1, _), (5, _), (25, _)] ⟨lg (ls rfl (ls rfl (ls rfl (ls rfl (ls rfl (ls rfl (ls rfl (ls rfl (ls rfl oz))))))))), lg (ls rfl (ls rfl (ls rfl (ls rfl (ls rfl (ls rfl (ls rfl (ls rfl (ls rfl (os rfl oz)))))))))), lg (ls rfl (ls rfl (ls rfl (ls rfl (ls rfl (ls rfl (ls rfl (ls rfl (ls rfl (os rfl (os rfl oz))))))))))), lg lz, trivial⟩ ?_
        refine aw_cond _ (os rfl (os rfl (os rfl oz))) (fun hc => ?_) (fun hc => ?_)
        · skip
          replace hz_3 := ifb_t hz_3 hc
          clear hc
          refine aw_seq ?_
          refine aw_region (by decide) ?_
          refine rts _ rfl (opD_assign (ev_const _ _)) ?_
          refine .nil ?_
          refine aw_keep [(4, _)] ⟨lg lz, trivial⟩ ?_
          refine aw_ret ?_
          obtain rfl := some_of hz_3
          replace hz_1 := ocs_r hz_1
          obtain rfl := some_of hz_1
          replace h0 := ocs_l h0
          refine wk_no ?_
          refine wk_no ?_
          obtain rfl := some_of h0
          exact done_ext (.inr rfl) ((res_one rfl (it_tmp oz)).le (Pd.le_refl _)) (pl_bnd _ _ _)
        · skip
          replace hz_3 := ifb_f hz_3 hc
          clear hc
          refine aw_skip ?_
          refine aw_keep [(0, _), (1, _), (5, _)] ⟨lg oz, lg (os rfl oz), lg (os rfl (os rfl oz)), trivial⟩ ?_
          refine aw_region (by decide) ?_
          refine rts _ rfl (opD_move (os rfl (os rfl oz))) ?_
          refine rts _ rfl (opD_add lz (ev_const _ _) rfl) ?_
          refine rts _ rfl (opD_assign lz) ?_
          refine .nil ?_
          obtain rfl := some_of hz_3
          replace hz_1 := ocs_l hz_1
          refine wk_yesN rfl (l := [(0, sl kItm none none p0), (1, sl kItm none none p1), (5, pl (.int .i64 (IntKind.i64.wrap (t_2 + 1))))]) (bs' := []) ⟨le_of_eq (eg (ls rfl (ls rfl (ls rfl oz)))), le_of_eq (eg (ls rfl (ls rfl (ls rfl (os rfl oz))))), le_of_eq (eg lz), trivial⟩ (bnd_cons (sl_b kb_Itm) (bnd_cons (sl_b kb_Itm) (bnd_cons (pl_bnd _ _ _) bnd_nil))) (Nat.le_of_ble_eq_true rfl) (by simp only [na, nb, nc, nd, nf, ng, nh, ni, nj, nk] <;> rfl) bxle_nil rfl (by simp only [na, nb, nc, nd, nf, ng, nh, ni, nj, nk] <;> rfl) bl_nil ?_
          exact ⟨m_z_3, Nat.lt_succ_self _, IntKind.i64.wrap (t_2 + 1), ⟨le_of_eq (eg oz), le_of_eq (eg (os rfl oz)), le_of_eq (eg (os rfl (os rfl oz))), trivial⟩, rfl, hz_1⟩
      · skip
        replace hz_3 := ifb_f hz_3 hc
        clear hc
        refine aw_exit ?_
        obtain rfl := some_of hz_3
        replace hz_1 := ocs_r hz_1
        refine wk_no ?_
        refine wk_yesN rfl (l := []) (bs' := []) trivial bnd_nil (Nat.le_of_ble_eq_true rfl) (by simp only [na, nb, nc, nd, nf, ng, nh, ni, nj, nk] <;> rfl) bxle_nil rfl (by simp only [na, nb, nc, nd, nf, ng, nh, ni, nj, nk] <;> rfl) bl_nil ?_
        exact ⟨(), trivial, rfl, some_of hz_1⟩
    · rintro e st ⟨vz_1, hH, rfl, rfl⟩
      refine aw_keep _ hH ?_
      replace h0 := ocs_r h0
      refine aw_keep [] trivial ?_
      refine aw_seq ?_
      refine aw_region (by decide) ?_
      refine rts _ rfl (opD_assign (ev_const _ _)) ?_
      refine .nil ?_
      refine aw_keep [(4, _)] ⟨lg lz, trivial⟩ ?_
      refine aw_ret ?_
      obtain rfl := some_of h0
      exact done_ext (.inr rfl) ((res_one rfl (it_tmp oz)).le (Pd.le_refl _)) (pl_bnd _ _ _)
end Go.Proofs.YtmnhfpcbfdgbcaaDoor.Eng.A

namespace Go.Proofs.YtmnhfpcbfdgbcaaDoor.Eng.A
set_option linter.unusedVariables false
set_option linter.unusedSimpArgs false
open Go.RowKit Go.Proofs.YtmnhfpcbfdgbcaaDoor.Plain Go.Proofs.YtmnhfpcbfdgbcaaDoor.Eng Go.Proofs.YtmnhfpcbfdgbcaaDoor.Eng.Pk Go.Proofs.YtmnhfpcbfdgbcaaDoor.Eng.Rd

theorem ht131_U11 : hasText Go.Proofs.Tryd.prog 131 = true := by kernel_rfl
theorem fo137_1_U11 : fieldOff Go.Proofs.Tryd.prog 137 1 = some 1 := by kernel_rfl
theorem ag22_U11 : aggT Go.Proofs.Tryd.prog 22 = some false := by kernel_rfl
theorem ht119_U11 : hasText Go.Proofs.Tryd.prog 119 = true := by kernel_rfl
theorem sz137_U11 : sizeT Go.Proofs.Tryd.prog 137 = some 5 := by kernel_rfl
theorem ag137_U11 : aggT Go.Proofs.Tryd.prog 137 = some true := by kernel_rfl
theorem ht118_U11 : hasText Go.Proofs.Tryd.prog 118 = true := by kernel_rfl
theorem mixed_U11 : Go.Proofs.Tryd.prog.follows .mixedOrders = true := by kernel_rfl
theorem ht144_U11 : hasText Go.Proofs.Tryd.prog 144 = true := by kernel_rfl
theorem ht135_U11 : hasText Go.Proofs.Tryd.prog 135 = true := by kernel_rfl
theorem ht130_U11 : hasText Go.Proofs.Tryd.prog 130 = true := by kernel_rfl
theorem ht129_U11 : hasText Go.Proofs.Tryd.prog 129 = true := by kernel_rfl

open Go.Proofs.YtmnhfpcbfdgbcaaDoor.Eng.Er Go.Proofs.YtmnhfpcbfdgbcaaDoor.Eng.Er2

def F_nan64 (p0 : Int) : Option (Bool) :=
  some (decide (p0 ≠ p0))
set_option maxRecDepth 100000 in
set_option maxHeartbeats 2000000 in
theorem c_nan64 {p0 : Int} {R : Bool} (h0 : F_nan64 p0 = some R) : Pure Go.Proofs.Tryd.prog 131 [pl (.int .u64 p0)] (pl (.bool R)) := by
  intro s
  unfold F_nan64 at h0
  refine ac_of_aw s.boxes.length s.fr.length Go.Proofs.Tryd.func131 rfl (by simp [Go.Proofs.Tryd.ntmps131]) ?_
  refine aw_ext0 ?_
  refine aw_keep [(0, _)] ⟨lg ez, trivial⟩ ?_
  refine aw_seq ?_
  refine aw_region (by decide) ?_
  refine rts _ rfl (opD_assign (ev_const _ _)) ?_
  refine .nil ?_
  refine aw_keep [(0, _)] ⟨lg (ls rfl oz), trivial⟩ ?_
  refine aw_seq ?_
  refine aw_region (by decide) ?_
  refine rts _ rfl (opD_move oz) ?_
  refine rts _ rfl (opD_move (ls rfl oz)) ?_
  refine rts _ rfl (opD_neq (ls rfl lz) lz) ?_
  refine rts _ rfl (opD_assign lz) ?_
  refine .nil ?_
  refine aw_keep [(2, _)] ⟨lg lz, trivial⟩ ?_
  refine aw_ret ?_
  obtain rfl := some_of h0
  exact done_ext (.inr rfl) ((res_one rfl (it_tmp oz)).le (Pd.le_refl _)) (pl_bnd _ _ _)

def F_cmp64 (p0 : Int) (p1 : Int) : Option (Int) :=
  bnd (F_nan64 p0) fun x_1 => bnd (F_nan64 p1) fun x_2 => ifb x_1 (ifb x_2 (some 0) (some (-1))) (ifb x_2 (some 1) (ifb (decide (p0 < p1)) (some (-1)) (ifb (decide (p1 < p0)) (some 1) (some 0))))
set_option maxRecDepth 100000 in
set_option maxHeartbeats 2000000 in
theorem c_cmp64 {p0 : Int} {p1 : Int} {R : Int} (h0 : F_cmp64 p0 p1 = some R) : Pure Go.Proofs.Tryd.prog 119 [pl (.int .u64 p0), pl (.int .u64 p1)] (pl (.int .i64 R)) := by
  intro s
  unfold F_cmp64 at h0
  refine ac_of_aw s.boxes.length s.fr.length Go.Proofs.Tryd.func119 rfl (by simp [Go.Proofs.Tryd.ntmps119]) ?_
  refine aw_ext0 ?_
  refine aw_keep [(0, _), (1, _)] ⟨lg ez, lg (es ez), trivial⟩ ?_
  refine aw_seq ?_
  refine aw_region (by decide) ?_
  refine rts _ rfl (opD_assign (ev_const _ _)) ?_
  refine .nil ?_
  refine aw_keep [(0, _), (1, _)] ⟨lg (ls rfl oz), lg (ls rfl (os rfl oz)), trivial⟩ ?_
  refine aw_seq ?_
  refine aw_region (by decide) ?_
  refine rts _ rfl (opD_move oz) ?_
  replace h0 := bnd_some h0
  obtain ⟨x_1, hx_1, h0⟩ := h0
  refine rts _ rfl (opD_pure ht131_U11 (c_nan64 hx_1) ⟨le_of_eq lz, trivial⟩) ?_
  refine rts _ rfl (opD_assign lz) ?_
  refine .nil ?_
  refine aw_keep [(0, _), (1, _), (5, _)] ⟨lg (ls rfl (ls rfl (ls rfl oz))), lg (ls rfl (ls rfl (ls rfl (os rfl oz)))), lg lz, trivial⟩ ?_
  refine aw_seq ?_
  refine aw_region (by decide) ?_
  refine rts _ rfl (opD_move (os rfl oz)) ?_
  replace h0 := bnd_some h0
  obtain ⟨x_2, hx_2, h0⟩ := h0
  refine rts _ rfl (opD_pure ht131_U11 (c_nan64 hx_2) ⟨le_of_eq lz, trivial⟩) ?_
  refine rts _ rfl (opD_assign lz) ?_
  refine .nil ?_
  refine aw_keep [(0, _), (1, _), (5, _), (6, _)] ⟨lg (ls rfl (ls rfl (ls rfl oz))), lg (ls rfl (ls rfl (ls rfl (os rfl oz)))), lg (ls rfl (ls rfl (ls rfl (os rfl (os rfl oz))))), lg lz, trivial⟩ ?_
  refine aw_seq ?_
  refine aw_seq ?_
  refine aw_region (by decide) ?_
  refine rts _ rfl (opD_move (os rfl (os rfl oz))) ?_
  refine .nil ?_
  refine aw_keep [(0, _), (1, _), (6, _), (11, _)] ⟨lg (ls rfl oz), lg (ls rfl (os rfl oz)), lg (ls rfl (os rfl (os rfl (os rfl oz)))), lg lz, trivial⟩ ?_
  refine aw_cond _ (os rfl (os rfl (os rfl oz))) (fun hc => ?_) (fun hc => ?_)
  · skip
    replace h0 := ifb_t h0 hc
    clear hc
    refine aw_seq ?_
    refine aw_seq ?_
    refine aw_region (by decide) ?_
    refine rts _ rfl (opD_move (os rfl (os rfl oz))) ?_
    refine .nil ?_
    refine aw_keep [(12, _)] ⟨lg lz, trivial⟩ ?_
    refine aw_cond _ oz (fun hc => ?_) (fun hc => ?_)
    · skip
      replace h0 := ifb_t h0 hc
      clear hc
      refine aw_seq ?_
      refine aw_region (by decide) ?_
      refine rts _ rfl (opD_assign (ev_const _ _)) ?_
      refine .nil ?_
      refine aw_keep [(4, _)] ⟨lg lz, trivial⟩ ?_
      refine aw_ret ?_
      obtain rfl := some_of h0
      exact done_ext (.inr rfl) ((res_one rfl (it_tmp oz)).le (Pd.le_refl _)) (pl_bnd _ _ _)
    · skip
      replace h0 := ifb_f h0 hc
      clear hc
      refine aw_skip ?_
      refine aw_keep [] trivial ?_
      refine aw_seq ?_
      refine aw_region (by decide) ?_
      refine rts _ rfl (opD_assign (ev_const _ _)) ?_
      refine .nil ?_
      refine aw_keep [(4, _)] ⟨lg lz, trivial⟩ ?_
      refine aw_ret ?_
      obtain rfl := some_of h0
      exact done_ext (.inr rfl) ((res_one rfl (it_tmp oz)).le (Pd.le_refl _)) (pl_bnd _ _ _)
  · skip
    replace h0 := ifb_f h0 hc
    clear hc
    refine aw_skip ?_
    refine aw_keep [(0, _), (1, _), (6, _)] ⟨lg oz, lg (os rfl oz), lg (os rfl (os rfl oz)), trivial⟩ ?_
    refine aw_seq ?_
    refine aw_seq ?_
    refine aw_region (by decide) ?_
    refine rts _ rfl (opD_move (os rfl (os rfl oz))) ?_
    refine .nil ?_
    refine aw_keep [(0, _), (1, _), (13, _)] ⟨lg (ls rfl oz), lg (ls rfl (os rfl oz)), lg lz, trivial⟩ ?_
    refine aw_cond _ (os rfl (os rfl oz)) (fun hc => ?_) (fun hc => ?_)
    · skip
      replace h0 := ifb_t h0 hc
      clear hc
      refine aw_seq ?_
      refine aw_region (by decide) ?_
      refine rts _ rfl (opD_assign (ev_const _ _)) ?_
      refine .nil ?_
      refine aw_keep [(4, _)] ⟨lg lz, trivial⟩ ?_
      refine aw_ret ?_
      obtain rfl := some_of h0
      exact done_ext (.inr rfl) ((res_one rfl (it_tmp oz)).le (Pd.le_refl _)) (pl_bnd _ _ _)
    · skip
      replace h0 := ifb_f h0 hc
      clear hc
      refine aw_skip ?_
      refine aw_keep [(0, _), (1, _)] ⟨lg oz, lg (os rfl oz), trivial⟩ ?_
      refine aw_seq ?_
      refine aw_seq ?_
      refine aw_region (by decide) ?_
      refine rts _ rfl (opD_move oz) ?_
      refine rts _ rfl (opD_move (ls rfl (os rfl oz))) ?_
      refine rts _ rfl (opD_lss (ls rfl lz) lz) ?_
      refine .nil ?_
      refine aw_keep [(0, _), (1, _), (16, _)] ⟨lg (ls rfl (ls rfl (ls rfl oz))), lg (ls rfl (ls rfl (ls rfl (os rfl oz)))), lg lz, trivial⟩ ?_
      refine aw_cond _ (os rfl (os rfl oz)) (fun hc => ?_) (fun hc => ?_)
      · skip
        replace h0 := ifb_t h0 hc
        clear hc
        refine aw_seq ?_
        refine aw_region (by decide) ?_
        refine rts _ rfl (opD_assign (ev_const _ _)) ?_
        refine .nil ?_
        refine aw_keep [(4, _)] ⟨lg lz, trivial⟩ ?_
        refine aw_ret ?_
        obtain rfl := some_of h0
        exact done_ext (.inr rfl) ((res_one rfl (it_tmp oz)).le (Pd.le_refl _)) (pl_bnd _ _ _)
      · skip
        replace h0 := ifb_f h0 hc
        clear hc
        refine aw_skip ?_
        refine aw_keep [(0, _), (1, _)] ⟨lg oz, lg (os rfl oz), trivial⟩ ?_
        refine aw_seq ?_
        refine aw_seq ?_
        refine aw_region (by decide) ?_
        refine rts _ rfl (opD_move oz) ?_
        refine rts _ rfl (opD_move (ls rfl (os rfl oz))) ?_
        refine rts _ rfl (opD_gtr (ls rfl lz) lz) ?_
        refine .nil ?_
        refine aw_keep [(19, _)] ⟨lg lz, trivial⟩ ?_
        refine aw_cond _ oz (fun hc => ?_) (fun hc => ?_)
        · skip
          replace h0 := ifb_t h0 hc
          clear hc
          refine aw_seq ?_
          refine aw_region (by decide) ?_
          refine rts _ rfl (opD_assign (ev_const _ _)) ?_
          refine .nil ?_
          refine aw_keep [(4, _)] ⟨lg lz, trivial⟩ ?_
          refine aw_ret ?_
          obtain rfl := some_of h0
          exact done_ext (.inr rfl) ((res_one rfl (it_tmp oz)).le (Pd.le_refl _)) (pl_bnd _ _ _)
        · skip
          replace h0 := ifb_f h0 hc
          clear hc
          refine aw_skip ?_
          refine aw_keep [] trivial ?_
          refine aw_seq ?_
          refine aw_region (by decide) ?_
          refine rts _ rfl (opD_assign (ev_const _ _)) ?_
          refine .nil ?_
          refine aw_keep [(4, _)] ⟨lg lz, trivial⟩ ?_
          refine aw_ret ?_
          obtain rfl := some_of h0
          exact done_ext (.inr rfl) ((res_one rfl (it_tmp oz)).le (Pd.le_refl _)) (pl_bnd _ _ _)

def F_hcmp (p0 : Itm) (p1 : Itm) : Option (Int) :=
  bnd (F_cmp64 p0.No p1.No) fun x_1 => some x_1
set_option maxRecDepth 100000 in
set_option maxHeartbeats 2000000 in
theorem c_hcmp {p0 : Itm} {p1 : Itm} {R : Int} (h0 : F_hcmp p0 p1 = some R) : Pure Go.Proofs.Tryd.prog 118 [agg [pl (.int .u64 p0.Who), pl (.int .u64 p0.No), pl (.int .u64 p0.Space), pl (.int .u64 p0.Gen), pl (.int .u64 p0.Txn)], agg [pl (.int .u64 p1.Who), pl (.int .u64 p1.No), pl (.int .u64 p1.Space), pl (.int .u64 p1.Gen), pl (.int .u64 p1.Txn)]] (pl (.int .i64 R)) := by
  intro s
  unfold F_hcmp at h0
  refine ac_of_aw s.boxes.length s.fr.length Go.Proofs.Tryd.func118 rfl (by simp [Go.Proofs.Tryd.ntmps118]) ?_
  refine aw_ext0 ?_
  refine aw_keep [(0, _), (1, _)] ⟨lg ez, lg (es ez), trivial⟩ ?_
  refine aw_seq ?_
  refine aw_region (by decide) ?_
  refine rts _ rfl (boxAN rfl oz (bnd_cons (pl_bnd _ _ _) (bnd_cons (pl_bnd _ _ _) (bnd_cons (pl_bnd _ _ _) (bnd_cons (pl_bnd _ _ _) (bnd_cons (pl_bnd _ _ _) bnd_nil))))) (by first | exact List.length_nil | (simp only [List.length_cons, List.length_nil, Nat.zero_add, Nat.reduceAdd] <;> rfl)) (by simp only [na, nb, nc, nd, nf, ng, nh, ni, nj, nk] <;> rfl)) ?_
  refine rts _ rfl (boxAN rfl (ls rfl (os rfl oz)) (bnd_cons (pl_bnd _ _ _) (bnd_cons (pl_bnd _ _ _) (bnd_cons (pl_bnd _ _ _) (bnd_cons (pl_bnd _ _ _) (bnd_cons (pl_bnd _ _ _) bnd_nil))))) (by first | exact List.length_nil | (simp only [List.length_cons, List.length_nil, Nat.zero_add, Nat.reduceAdd] <;> rfl)) (by simp only [na, nb, nc, nd, nf, ng, nh, ni, nj, nk] <;> rfl)) ?_
  refine rts _ rfl (opD_assign (ev_const _ _)) ?_
  refine .nil ?_
  refine aw_keep [(2, _), (3, _)] ⟨lg (ls rfl (ls rfl lz)), lg (ls rfl lz), trivial⟩ ?_
  refine aw_seq ?_
  refine aw_region (by decide) ?_
  refine rts _ rfl (opD_fieldAddr fo137_1_U11 oz) ?_
  refine rts _ rfl (opD_load_one ag22_U11 lz (loc_getN rfl rfl) rfl) ?_
  refine rts _ rfl (opD_fieldAddr fo137_1_U11 (ls rfl (ls rfl (os rfl oz)))) ?_
  refine rts _ rfl (opD_load_one ag22_U11 lz (loc_getN rfl rfl) rfl) ?_
  replace h0 := bnd_some h0
  obtain ⟨x_1, hx_1, h0⟩ := h0
  refine rts _ rfl (opD_pure ht119_U11 (c_cmp64 hx_1) ⟨le_of_eq (ls rfl (ls rfl lz)), le_of_eq lz, trivial⟩) ?_
  refine rts _ rfl (opD_assign lz) ?_
  refine .nil ?_
  refine aw_keep [(4, _)] ⟨lg lz, trivial⟩ ?_
  refine aw_ret ?_
  obtain rfl := some_of h0
  exact done_ext (.inr rfl) ((res_one rfl (it_tmp oz)).le (Pd.le_refl _)) (pl_bnd _ _ _)

def F_hins_b1 (p0 : (List Itm)) (p1 : Int) (t_4 : Int × (List Itm)) : Option ((Int × (List Itm)) ⊕ (((List Itm)))) :=
  grd (((decide (p1 < t_4.1)) == true) = true → Below t_4.1 p0.length) <| grd (((decide (p1 < t_4.1)) == true) = true → Below ((t_4.1.toNat : Nat) : Int) t_4.2.length) <| grd (((decide (p1 < t_4.1)) == true) = true → Below (IntKind.i64.wrap (t_4.1 - 1)) p0.length) <| grd (((decide (p1 < t_4.1)) == true) = true → Below (((IntKind.i64.wrap (t_4.1 - 1)).toNat : Nat) : Int) t_4.2.length) <| bnd (gif ((decide (p1 < t_4.1)) == true) (F_hcmp (t_4.2.getD t_4.1.toNat default) (t_4.2.getD ((IntKind.i64.wrap (t_4.1 - 1)).toNat) default))) fun x_6 => ifb ((decide (p1 < t_4.1)) && (decide (x_6 < 0))) (grd (Below (IntKind.i64.wrap (t_4.1 - 1)) p0.length) <| ixb t_4.2 (((IntKind.i64.wrap (t_4.1 - 1)).toNat : Nat) : Int) fun x_7 => grd (Below t_4.1 p0.length) <| ixb t_4.2 ((t_4.1.toNat : Nat) : Int) fun x_8 => grd (Below t_4.1 p0.length) <| grd (Below ((t_4.1.toNat : Nat) : Int) t_4.2.length) <| grd (Below (IntKind.i64.wrap (t_4.1 - 1)) p0.length) <| grd (Below (((IntKind.i64.wrap (t_4.1 - 1)).toNat : Nat) : Int) (t_4.2.set t_4.1.toNat x_7).length) <| some (.inl (IntKind.i64.wrap (t_4.1 - 1), ((t_4.2.set t_4.1.toNat x_7).set ((IntKind.i64.wrap (t_4.1 - 1)).toNat) x_8)))) (some (.inr t_4.2))
def F_hins_b0 (fl : Nat) (p0 : (List Itm)) (p1 : Int) (p2 : Int) (t_1 : Int × (List Itm)) : Option ((Int × (List Itm)) ⊕ ((List Itm))) :=
  ifb (decide (t_1.1 < p2)) (bnd (lp (F_hins_b1 p0 p1) fl (t_1.1, t_1.2)) fun z_3 => some (.inl (IntKind.i64.wrap (t_1.1 + 1), z_3))) (some (.inr t_1.2))
def F_hins (fl : Nat) (p0 : (List Itm)) (p1 : Int) (p2 : Int) : Option ((List Itm)) :=
  lp (F_hins_b0 fl p0 p1 p2) fl (IntKind.i64.wrap (p1 + 1), p0)
set_option maxRecDepth 100000 in
set_option maxHeartbeats 2000000 in
theorem c_hins {fl : Nat} {p0 : (List Itm)} {p1 : Int} {p2 : Int} {R : (List Itm)} {s : St} {g r : Nat} (hr : 2 ≤ r) (hev : r % 2 = 0) (h0 : F_hins fl p0 p1 p2 = some R) (hG : s.boxes[g]? = some ⟨(hot 137 r), flat kItm p0⟩) : AC Go.Proofs.Tryd.prog 135 [hsl g r 0 p0.length kItm.sz, pl (.int .i64 p1), pl (.int .i64 p2), pl (.func (.func 118) #[] #[])] s (pl (.tuple #[])) (s.upd g ⟨(hot 137 r), flat kItm R⟩) := by
  have hlt := (List.getElem?_eq_some_iff.1 hG).1
  unfold F_hins at h0
  refine ac_of_aw s.boxes.length s.fr.length Go.Proofs.Tryd.func135 rfl (by simp [Go.Proofs.Tryd.ntmps135]) ?_
  refine aw_ext0 ?_
  refine aw_upd0 hG ?_
  obtain ⟨N, hNs⟩ : ∃ N, s.boxes.length = N := ⟨_, rfl⟩
  refine aw_keep [(0, _), (1, _), (2, _), (3, _)] ⟨lg ez, lg (es ez), lg (es (es ez)), lg (es (es (es ez))), trivial⟩ ?_
  refine aw_seq ?_
  refine aw_region (by decide) ?_
  refine rts _ rfl (opD_move (os rfl oz)) ?_
  refine rts _ rfl (opD_add lz (ev_const _ _) rfl) ?_
  refine rts _ rfl (opD_assign lz) ?_
  refine .nil ?_
  refine aw_keep [(0, _), (1, _), (2, _), (3, _), (8, _)] ⟨lg (ls rfl (ls rfl (ls rfl oz))), lg (ls rfl (ls rfl (ls rfl (os rfl oz)))), lg (ls rfl (ls rfl (ls rfl (os rfl (os rfl oz))))), lg (ls rfl (ls rfl (ls rfl (os rfl (os rfl (os rfl oz)))))), lg lz, trivial⟩ ?_
  refine aw_block ?_
  refine aw_loop (fun n e st => ∃ v : Int × (List Itm), Holds e [(0, hsl g r 0 p0.length kItm.sz), (1, pl (.int .i64 p1)), (2, pl (.int .i64 p2)), (3, pl (.func (.func 118) #[] #[])), (8, pl (.int .i64 v.1))] ∧ st = (s.upd g ⟨(hot 137 r), (flat kItm v.2)⟩).ext [] [] ∧ lp (F_hins_b0 fl p0 p1 p2) n v = some R) fl ⟨(IntKind.i64.wrap (p1 + 1), p0), ⟨le_of_eq (eg oz), le_of_eq (eg (os rfl oz)), le_of_eq (eg (os rfl (os rfl oz))), le_of_eq (eg (os rfl (os rfl (os rfl oz)))), le_of_eq (eg (os rfl (os rfl (os rfl (os rfl oz))))), trivial⟩, rfl, h0⟩ ?_
  rintro n e st ⟨t_1, hH, rfl, h0⟩
  replace h0 := lp_some h0
  obtain ⟨m_z_2, z_2, rfl, hz_2, h0⟩ := h0
  unfold F_hins_b0 at hz_2
  refine aw_keep _ hH ?_
  refine aw_wkN ((upd_boxes_length _ _ _).trans hNs) 0 0 rfl rfl ?_
  refine aw_seq ?_
  refine aw_seq ?_
  refine aw_region (by decide) ?_
  refine rts _ rfl (opD_move (os rfl (os rfl (os rfl (os rfl oz))))) ?_
  refine rts _ rfl (opD_move (ls rfl (os rfl (os rfl oz)))) ?_
  refine rts _ rfl (opD_lss (ls rfl lz) lz) ?_
  refine .nil ?_
  refine aw_keep [(0, _), (1, _), (2, _), (3, _), (8, _), (14, _)] ⟨lg (ls rfl (ls rfl (ls rfl oz))), lg (ls rfl (ls rfl (ls rfl (os rfl oz)))), lg (ls rfl (ls rfl (ls rfl (os rfl (os rfl oz))))), lg (ls rfl (ls rfl (ls rfl (os rfl (os rfl (os rfl oz)))))), lg (ls rfl (ls rfl (ls rfl (os rfl (os rfl (os rfl (os rfl oz))))))), lg lz, trivial⟩ ?_
  refine aw_cond _ (os rfl (os rfl (os rfl (os rfl (os rfl oz))))) (fun hc => ?_) (fun hc => ?_)
  · skip
    replace hz_2 := ifb_t hz_2 hc
    clear hc
    refine aw_skip ?_
    refine aw_keep [(0, _), (1, _), (2, _), (3, _), (8, _)] ⟨lg oz, lg (os rfl oz), lg (os rfl (os rfl oz)), lg (os rfl (os rfl (os rfl oz))), lg (os rfl (os rfl (os rfl (os rfl oz)))), trivial⟩ ?_
    refine aw_seq ?_
    replace hz_2 := bnd_some hz_2
    obtain ⟨z_3, hz_3, hz_2⟩ := hz_2
    refine aw_mid (fun e st => ∃ v : (List Itm), Holds e [(0, hsl g r 0 p0.length kItm.sz), (1, pl (.int .i64 p1)), (2, pl (.int .i64 p2)), (3, pl (.func (.func 118) #[] #[])), (8, pl (.int .i64 t_1.1))] ∧ st = (s.upd g ⟨(hot 137 r), (flat kItm v)⟩).ext [] [] ∧ v = z_3) ?_ ?_
    · skip
      refine aw_wkN ((upd_boxes_length _ _ _).trans hNs) 0 0 rfl rfl ?_
      refine aw_block ?_
      refine aw_seq ?_
      refine aw_region (by decide) ?_
      refine rts _ rfl (opD_move (os rfl (os rfl (os rfl (os rfl oz))))) ?_
      refine rts _ rfl (opD_assign lz) ?_
      refine .nil ?_
      refine aw_keep [(0, _), (1, _), (2, _), (3, _), (8, _), (9, _)] ⟨lg (ls rfl (ls rfl oz)), lg (ls rfl (ls rfl (os rfl oz))), lg (ls rfl (ls rfl (os rfl (os rfl oz)))), lg (ls rfl (ls rfl (os rfl (os rfl (os rfl oz))))), lg (ls rfl (ls rfl (os rfl (os rfl (os rfl (os rfl oz)))))), lg lz, trivial⟩ ?_
      refine aw_block ?_
      refine aw_loop (fun n e st => ∃ v : Int × (List Itm), Holds e [(0, hsl g r 0 p0.length kItm.sz), (1, pl (.int .i64 p1)), (2, pl (.int .i64 p2)), (3, pl (.func (.func 118) #[] #[])), (8, pl (.int .i64 t_1.1)), (9, pl (.int .i64 v.1))] ∧ st = (s.upd g ⟨(hot 137 r), (flat kItm v.2)⟩).ext [] [] ∧ lp (F_hins_b1 p0 p1) n v = some z_3) fl ⟨(t_1.1, t_1.2), ⟨le_of_eq (eg oz), le_of_eq (eg (os rfl oz)), le_of_eq (eg (os rfl (os rfl oz))), le_of_eq (eg (os rfl (os rfl (os rfl oz)))), le_of_eq (eg (os rfl (os rfl (os rfl (os rfl oz))))), le_of_eq (eg (os rfl (os rfl (os rfl (os rfl (os rfl oz)))))), trivial⟩, rfl, hz_3⟩ ?_
      rintro n e st ⟨t_4, hH, rfl, hz_3⟩
      replace hz_3 := lp_some hz_3
      obtain ⟨m_z_5, z_5, rfl, hz_5, hz_3⟩ := hz_3
      unfold F_hins_b1 at hz_5
      refine aw_keep _ hH ?_
      refine aw_wkN ((upd_boxes_length _ _ _).trans hNs) 0 0 rfl rfl ?_
      refine aw_seq ?_
      refine aw_seq ?_
      refine aw_flat mixed_U11 (by decide +kernel) ?_
      refine zts _ rfl (opD_move (os rfl (os rfl (os rfl (os rfl (os rfl oz)))))) ?_
      refine zts _ rfl (opD_move (ls rfl (os rfl oz))) ?_
      refine zts _ rfl (opD_gtr (ls rfl lz) lz) ?_
      refine zts _ rfl (opD_move lz) ?_
      refine ztg _ rfl lz (fun hg4_4_325 => opD_move (ls rfl (ls rfl (ls rfl (ls rfl (os rfl (os rfl (os rfl oz)))))))) ?_
      refine ztg _ rfl (ls rfl lz) (fun hg4_5_326 => opD_move (ls rfl (ls rfl (ls rfl (ls rfl (ls rfl oz)))))) ?_
      refine ztg _ rfl (ls rfl (ls rfl lz)) (fun hg4_6_327 => opD_move (ls rfl (ls rfl (ls rfl (ls rfl (ls rfl (ls rfl (os rfl (os rfl (os rfl (os rfl (os rfl oz)))))))))))) ?_
      replace hz_5 := grd_some hz_5
      obtain ⟨hg_329, hz_5⟩ := hz_5
      refine ztg _ rfl (ls rfl (ls rfl (ls rfl lz))) (fun hg4_7_328 => opD_indexAddr_hx (i := t_4.1.toNat) Go.Proofs.Tryd.underlying141 sz137_U11 rfl ⟨_, (updx_get hlt)⟩ ((ls rfl lz).trans (pif_pos hg4_7_328)) (lz.trans (pif_pos hg4_7_328)) (hg_329 hg4_7_328).eq (hg_329 hg4_7_328).2) ?_
      replace hz_5 := grd_some hz_5
      obtain ⟨hg_331, hz_5⟩ := hz_5
      refine ztg _ rfl (ls rfl (ls rfl (ls rfl (ls rfl lz)))) (fun hg4_8_330 => loadE (k := kItm) ag137_U11 sz137_U11 rfl hr (by decide) (lz.trans (pif_pos hg4_8_330)) (updx_get hlt) (at_getD default (nat_lt (hg_331 hg4_8_330)))) ?_
      refine ztg _ rfl (ls rfl (ls rfl (ls rfl (ls rfl (ls rfl lz))))) (fun hg4_9_332 => opD_move (ls rfl (ls rfl (ls rfl (ls rfl (ls rfl (ls rfl (ls rfl (ls rfl (ls rfl oz)))))))))) ?_
      refine ztg _ rfl (ls rfl (ls rfl (ls rfl (ls rfl (ls rfl (ls rfl lz)))))) (fun hg4_10_333 => opD_move (ls rfl (ls rfl (ls rfl (ls rfl (ls rfl (ls rfl (ls rfl (ls rfl (ls rfl (ls rfl (os rfl (os rfl (os rfl (os rfl (os rfl oz)))))))))))))))) ?_
      refine ztg _ rfl (ls rfl (ls rfl (ls rfl (ls rfl (ls rfl (ls rfl (ls rfl lz))))))) (fun hg4_11_334 => opD_sub (lz.trans (pif_pos hg4_11_334)) (ev_const _ _) rfl) ?_
      replace hz_5 := grd_some hz_5
      obtain ⟨hg_336, hz_5⟩ := hz_5
      refine ztg _ rfl (ls rfl (ls rfl (ls rfl (ls rfl (ls rfl (ls rfl (ls rfl (ls rfl lz)))))))) (fun hg4_12_335 => opD_indexAddr_hx (i := (IntKind.i64.wrap (t_4.1 - 1)).toNat) Go.Proofs.Tryd.underlying141 sz137_U11 rfl ⟨_, (updx_get hlt)⟩ ((ls rfl (ls rfl lz)).trans (pif_pos hg4_12_335)) (lz.trans (pif_pos hg4_12_335)) (hg_336 hg4_12_335).eq (hg_336 hg4_12_335).2) ?_
      replace hz_5 := grd_some hz_5
      obtain ⟨hg_338, hz_5⟩ := hz_5
      refine ztg _ rfl (ls rfl (ls rfl (ls rfl (ls rfl (ls rfl (ls rfl (ls rfl (ls rfl (ls rfl lz))))))))) (fun hg4_13_337 => loadE (k := kItm) ag137_U11 sz137_U11 rfl hr (by decide) (lz.trans (pif_pos hg4_13_337)) (updx_get hlt) (at_getD default (nat_lt (hg_338 hg4_13_337)))) ?_
      replace hz_5 := bnd_some hz_5
      obtain ⟨x_6, hx_6, hz_5⟩ := hz_5
      refine ztg _ rfl (ls rfl (ls rfl (ls rfl (ls rfl (ls rfl (ls rfl (ls rfl (ls rfl (ls rfl (ls rfl lz)))))))))) (fun hg4_14_339 => opD_pureD ((ls rfl (ls rfl (ls rfl (ls rfl (ls rfl (ls rfl (ls rfl (ls rfl (ls rfl lz))))))))).trans (pif_pos hg4_14_339)) ht118_U11 (c_hcmp (gif_some hx_6 hg4_14_339)) ⟨(le_of_eq ((ls rfl (ls rfl (ls rfl (ls rfl (ls rfl lz))))).trans (pif_pos hg4_14_339))).trans (agg_le ⟨(Pd.le_refl _), (Pd.le_refl _), (Pd.le_refl _), (Pd.le_refl _), (Pd.le_refl _), trivial⟩), (le_of_eq (lz.trans (pif_pos hg4_14_339))).trans (agg_le ⟨(Pd.le_refl _), (Pd.le_refl _), (Pd.le_refl _), (Pd.le_refl _), (Pd.le_refl _), trivial⟩), trivial⟩) ?_
      refine ztg _ rfl (ls rfl (ls rfl (ls rfl (ls rfl (ls rfl (ls rfl (ls rfl (ls rfl (ls rfl (ls rfl (ls rfl lz))))))))))) (fun hg4_15_340 => opD_lss (lz.trans (pif_pos hg4_15_340)) (ev_const _ _)) ?_
      refine zts _ rfl (opD_and (ls rfl (ls rfl (ls rfl (ls rfl (ls rfl (ls rfl (ls rfl (ls rfl (ls rfl (ls rfl (ls rfl (ls rfl lz)))))))))))) lz) ?_
      refine .nil ?_
      refine aw_keep [(0, _), (1, _), (2, _), (3, _), (8, _), (9, _), (34, _)] ⟨lg (ls rfl (ls rfl (ls rfl (ls rfl (ls rfl (ls rfl (ls rfl (ls rfl (ls rfl (ls rfl (ls rfl (ls rfl (ls rfl (ls rfl (ls rfl (ls rfl (ls rfl oz))))))))))))))))), lg (ls rfl (ls rfl (ls rfl (ls rfl (ls rfl (ls rfl (ls rfl (ls rfl (ls rfl (ls rfl (ls rfl (ls rfl (ls rfl (ls rfl (ls rfl (ls rfl (ls rfl (os rfl oz)))))))))))))))))), lg (ls rfl (ls rfl (ls rfl (ls rfl (ls rfl (ls rfl (ls rfl (ls rfl (ls rfl (ls rfl (ls rfl (ls rfl (ls rfl (ls rfl (ls rfl (ls rfl (ls rfl (os rfl (os rfl oz))))))))))))))))))), lg (ls rfl (ls rfl (ls rfl (ls rfl (ls rfl (ls rfl (ls rfl (ls rfl (ls rfl (ls rfl (ls rfl (ls rfl (ls rfl (ls rfl (ls rfl (ls rfl (ls rfl (os rfl (os rfl (os rfl oz)))))))))))))))))))), lg (ls rfl (ls rfl (ls rfl (ls rfl (ls rfl (ls rfl (ls rfl (ls rfl (ls rfl (ls rfl (ls rfl (ls rfl (ls rfl (ls rfl (ls rfl (ls rfl (ls rfl (os rfl (os rfl (os rfl (os rfl oz))))))))))))))))))))), lg (ls rfl (ls rfl (ls rfl (ls rfl (ls rfl (ls rfl (ls rfl (ls rfl (ls rfl (ls rfl (ls rfl (ls rfl (ls rfl (ls rfl (ls rfl (ls rfl (ls rfl (os rfl (os rfl (os rfl (os rfl (os rfl oz)))))))))))))))))))))), lg lz, trivial⟩ ?_
      refine aw_cond _ (os rfl (os rfl (os rfl (os rfl (os rfl (os rfl oz)))))) (fun hc => ?_) (fun hc => ?_)
      · skip
        replace hz_5 := ifb_t hz_5 hc
        clear hc
        refine aw_skip ?_
        refine aw_keep [(0, _), (1, _), (2, _), (3, _), (8, _), (9, _)] ⟨lg oz, lg (os rfl oz), lg (os rfl (os rfl oz)), lg (os rfl (os rfl (os rfl oz))), lg (os rfl (os rfl (os rfl (os rfl oz)))), lg (os rfl (os rfl (os rfl (os rfl (os rfl oz))))), trivial⟩ ?_
        refine aw_seq ?_
        refine aw_block ?_
        refine aw_drawn [false, false, false, false, false, false, false, false, false, false, false, false, false, false, false, true, false, true] [[0], [0], [0, 1], [0, 1], [0, 1], [0], [0], [0], [0], [0], [0], [0], [0], [0], [0], [0, 1], [1], [1, 2]] mixed_U11 (by decide +kernel) ?_
        refine dtp _ rfl (fun s => opD_move oz) ?_
        refine dtp _ rfl (fun s => opD_move (ls rfl (os rfl (os rfl (os rfl (os rfl (os rfl oz))))))) ?_
        refine dtp _ rfl (fun s => opD_move (ls rfl (ls rfl oz))) ?_
        refine dtp _ rfl (fun s => opD_move (ls rfl (ls rfl (ls rfl (os rfl (os rfl (os rfl (os rfl (os rfl oz))))))))) ?_
        refine dtp _ rfl (fun s => opD_sub lz (ev_const _ _) rfl) ?_
        refine dtp _ rfl (fun s => opD_move (ls rfl (ls rfl (ls rfl (ls rfl (ls rfl oz)))))) ?_
        refine dtp _ rfl (fun s => opD_move (ls rfl (ls rfl (ls rfl (ls rfl (ls rfl (ls rfl (os rfl (os rfl (os rfl (os rfl (os rfl oz)))))))))))) ?_
        refine dtp _ rfl (fun s => opD_sub lz (ev_const _ _) rfl) ?_
        replace hz_5 := grd_some hz_5
        obtain ⟨hg_347, hz_5⟩ := hz_5
        refine dtl _ (fun s' => ∃ cs, s'.boxes[g]? = some ⟨(hot 137 r), cs⟩) rfl (fun s' hs' => opD_indexAddr_hx (i := (IntKind.i64.wrap (t_4.1 - 1)).toNat) Go.Proofs.Tryd.underlying141 sz137_U11 rfl hs' (ls rfl (ls rfl lz)) lz hg_347.eq hg_347.2) ?_
        replace hz_5 := ixb_some hz_5
        obtain ⟨x_7, hx_7, hbx_7, hz_5⟩ := hz_5
        refine dtl _ (fun s' => s'.boxes[g]? = some ⟨(hot 137 r), (flat kItm t_4.2)⟩) rfl (fun s' hs' => loadE (k := kItm) ag137_U11 sz137_U11 rfl hr (by decide) lz hs' (nat_ix hx_7)) ?_
        refine dtp _ rfl (fun s => opD_move (ls rfl (ls rfl (ls rfl (ls rfl (ls rfl (ls rfl (ls rfl (ls rfl (ls rfl (ls rfl oz))))))))))) ?_
        refine dtp _ rfl (fun s => opD_move (ls rfl (ls rfl (ls rfl (ls rfl (ls rfl (ls rfl (ls rfl (ls rfl (ls rfl (ls rfl (ls rfl (os rfl (os rfl (os rfl (os rfl (os rfl oz))))))))))))))))) ?_
        replace hz_5 := grd_some hz_5
        obtain ⟨hg_348, hz_5⟩ := hz_5
        refine dtl _ (fun s' => ∃ cs, s'.boxes[g]? = some ⟨(hot 137 r), cs⟩) rfl (fun s' hs' => opD_indexAddr_hx (i := t_4.1.toNat) Go.Proofs.Tryd.underlying141 sz137_U11 rfl hs' (ls rfl lz) lz hg_348.eq hg_348.2) ?_
        replace hz_5 := ixb_some hz_5
        obtain ⟨x_8, hx_8, hbx_8, hz_5⟩ := hz_5
        refine dtl _ (fun s' => s'.boxes[g]? = some ⟨(hot 137 r), (flat kItm t_4.2)⟩) rfl (fun s' hs' => loadE (k := kItm) ag137_U11 sz137_U11 rfl hr (by decide) lz hs' (nat_ix hx_8)) ?_
        replace hz_5 := grd_some hz_5
        obtain ⟨hg_349, hz_5⟩ := hz_5
        refine dtl _ (fun s' => ∃ cs, s'.boxes[g]? = some ⟨(hot 137 r), cs⟩) rfl (fun s' hs' => opD_indexAddr_hx (i := t_4.1.toNat) Go.Proofs.Tryd.underlying141 sz137_U11 rfl hs' (ls rfl (ls rfl (ls rfl (ls rfl (ls rfl (ls rfl (ls rfl (ls rfl (ls rfl (ls rfl (ls rfl (ls rfl (ls rfl lz))))))))))))) (ls rfl (ls rfl (ls rfl (ls rfl (ls rfl (ls rfl (ls rfl (ls rfl (ls rfl (ls rfl (ls rfl (ls rfl lz)))))))))))) hg_349.eq hg_349.2) ?_
        replace hz_5 := grd_some hz_5
        obtain ⟨hg_350, hz_5⟩ := hz_5
        refine dta _ rfl (storeEU (k := kItm) (y := x_7) hlt sz137_U11 rfl hr (by decide) lz ((ls rfl (ls rfl (ls rfl (ls rfl (ls rfl lz))))).trans (show _ = agg (kItm.cs x_7) from rfl)) (nat_lt hg_350) kb_Itm) ?_
        replace hz_5 := grd_some hz_5
        obtain ⟨hg_351, hz_5⟩ := hz_5
        refine dtl _ (fun s' => ∃ cs, s'.boxes[g]? = some ⟨(hot 137 r), cs⟩) rfl (fun s' hs' => opD_indexAddr_hx (i := (IntKind.i64.wrap (t_4.1 - 1)).toNat) Go.Proofs.Tryd.underlying141 sz137_U11 rfl hs' (lx (ls rfl (ls rfl (ls rfl (ls rfl (ls rfl (ls rfl (ls rfl (ls rfl (ls rfl (ls rfl (ls rfl (ls rfl lz))))))))))))) (lx (ls rfl (ls rfl (ls rfl (ls rfl (ls rfl (ls rfl (ls rfl (ls rfl (ls rfl (ls rfl lz))))))))))) hg_351.eq hg_351.2) ?_
        replace hz_5 := grd_some hz_5
        obtain ⟨hg_352, hz_5⟩ := hz_5
        refine dta _ rfl (storeEU (k := kItm) (y := x_8) hlt sz137_U11 rfl hr (by decide) lz ((ls rfl (lx (ls rfl lz))).trans (show _ = agg (kItm.cs x_8) from rfl)) (nat_lt hg_352) kb_Itm) ?_
        refine .nil ?_
        dsimp only [List.nil_append, List.cons_append]
        refine ⟨rfl, ⟨trivial, trivial, trivial, trivial, trivial, trivial, trivial, trivial, ⟨(by first | exact loc_getN ((upd_boxes_length _ _ _).trans hNs) rfl | exact updx_get hlt | exact ⟨_, loc_getN ((upd_boxes_length _ _ _).trans hNs) rfl⟩ | exact ⟨_, updx_get hlt⟩ | exact upd2_g hgh hlt | exact upd2_h hlt2), trivial⟩, ⟨(by first | exact loc_getN ((upd_boxes_length _ _ _).trans hNs) rfl | exact updx_get hlt | exact ⟨_, loc_getN ((upd_boxes_length _ _ _).trans hNs) rfl⟩ | exact ⟨_, updx_get hlt⟩ | exact upd2_g hgh hlt | exact upd2_h hlt2), trivial⟩, trivial, trivial, ⟨(by first | exact loc_getN ((upd_boxes_length _ _ _).trans hNs) rfl | exact updx_get hlt | exact ⟨_, loc_getN ((upd_boxes_length _ _ _).trans hNs) rfl⟩ | exact ⟨_, updx_get hlt⟩ | exact upd2_g hgh hlt | exact upd2_h hlt2), trivial⟩, ⟨(by first | exact loc_getN ((upd_boxes_length _ _ _).trans hNs) rfl | exact updx_get hlt | exact ⟨_, loc_getN ((upd_boxes_length _ _ _).trans hNs) rfl⟩ | exact ⟨_, updx_get hlt⟩ | exact upd2_g hgh hlt | exact upd2_h hlt2), trivial⟩, ⟨(by first | exact loc_getN ((upd_boxes_length _ _ _).trans hNs) rfl | exact updx_get hlt | exact ⟨_, loc_getN ((upd_boxes_length _ _ _).trans hNs) rfl⟩ | exact ⟨_, updx_get hlt⟩ | exact upd2_g hgh hlt | exact upd2_h hlt2), trivial⟩, trivial, ⟨(by first | exact loc_getN ((upd_boxes_length _ _ _).trans hNs) rfl | exact updx_get hlt | exact ⟨_, loc_getN ((upd_boxes_length _ _ _).trans hNs) rfl⟩ | exact ⟨_, updx_get hlt⟩ | exact upd2_g hgh hlt | exact upd2_h hlt2), trivial⟩, trivial, trivial⟩, ?_⟩
        refine aw_keep [(0, _), (1, _), (2, _), (3, _), (8, _), (9, _)] ⟨lg (lx (ls rfl (lx (ls rfl (ls rfl (ls rfl (ls rfl (ls rfl (ls rfl (ls rfl (ls rfl (ls rfl (ls rfl (ls rfl (ls rfl (ls rfl (ls rfl (ls rfl oz)))))))))))))))))), lg (lx (ls rfl (lx (ls rfl (ls rfl (ls rfl (ls rfl (ls rfl (ls rfl (ls rfl (ls rfl (ls rfl (ls rfl (ls rfl (ls rfl (ls rfl (ls rfl (ls rfl (os rfl oz))))))))))))))))))), lg (lx (ls rfl (lx (ls rfl (ls rfl (ls rfl (ls rfl (ls rfl (ls rfl (ls rfl (ls rfl (ls rfl (ls rfl (ls rfl (ls rfl (ls rfl (ls rfl (ls rfl (os rfl (os rfl oz)))))))))))))))))))), lg (lx (ls rfl (lx (ls rfl (ls rfl (ls rfl (ls rfl (ls rfl (ls rfl (ls rfl (ls rfl (ls rfl (ls rfl (ls rfl (ls rfl (ls rfl (ls rfl (ls rfl (os rfl (os rfl (os rfl oz))))))))))))))))))))), lg (lx (ls rfl (lx (ls rfl (ls rfl (ls rfl (ls rfl (ls rfl (ls rfl (ls rfl (ls rfl (ls rfl (ls rfl (ls rfl (ls rfl (ls rfl (ls rfl (ls rfl (os rfl (os rfl (os rfl (os rfl oz)))))))))))))))))))))), lg (lx (ls rfl (lx (ls rfl (ls rfl (ls rfl (ls rfl (ls rfl (ls rfl (ls rfl (ls rfl (ls rfl (ls rfl (ls rfl (ls rfl (ls rfl (ls rfl (ls rfl (os rfl (os rfl (os rfl (os rfl (os rfl oz))))))))))))))))))))))), trivial⟩ ?_
        refine aw_region (by decide) ?_
        refine rts _ rfl (opD_move (os rfl (os rfl (os rfl (os rfl (os rfl oz)))))) ?_
        refine rts _ rfl (opD_sub lz (ev_const _ _) rfl) ?_
        refine rts _ rfl (opD_assign lz) ?_
        refine .nil ?_
        obtain rfl := some_of hz_5
        replace hz_3 := ocs_l hz_3
        refine wk_yesU ((upd_boxes_length _ _ _).trans hNs) (by exact ⟨rfl, rfl⟩) (upd_ok (flatKB kb_Itm)) ((upd_boxes_length _ _ _).trans hNs) (l := [(0, hsl g r 0 p0.length kItm.sz), (1, pl (.int .i64 p1)), (2, pl (.int .i64 p2)), (3, pl (.func (.func 118) #[] #[])), (8, pl (.int .i64 t_1.1)), (9, pl (.int .i64 (IntKind.i64.wrap (t_4.1 - 1))))]) (bs' := []) ⟨le_of_eq (eg (ls rfl (ls rfl (ls rfl oz)))), le_of_eq (eg (ls rfl (ls rfl (ls rfl (os rfl oz))))), le_of_eq (eg (ls rfl (ls rfl (ls rfl (os rfl (os rfl oz)))))), le_of_eq (eg (ls rfl (ls rfl (ls rfl (os rfl (os rfl (os rfl oz))))))), le_of_eq (eg (ls rfl (ls rfl (ls rfl (os rfl (os rfl (os rfl (os rfl oz)))))))), le_of_eq (eg lz), trivial⟩ (bnd_cons (hsl_bnd _ (by first | omega | (simp only [List.length_append, List.length_cons, List.length_nil]; omega))) (bnd_cons (pl_bnd _ _ _) (bnd_cons (pl_bnd _ _ _) (bnd_cons (pl_bnd _ _ _) (bnd_cons (pl_bnd _ _ _) (bnd_cons (pl_bnd _ _ _) bnd_nil)))))) (Nat.le_of_ble_eq_true rfl) (by simp only [na, nb, nc, nd, nf, ng, nh, ni, nj, nk] <;> rfl) bxle_nil rfl (by simp only [na, nb, nc, nd, nf, ng, nh, ni, nj, nk] <;> rfl) bl_nil ?_
        exact ⟨m_z_5, Nat.lt_succ_self _, (IntKind.i64.wrap (t_4.1 - 1), ((t_4.2.set t_4.1.toNat x_7).set ((IntKind.i64.wrap (t_4.1 - 1)).toNat) x_8)), ⟨le_of_eq (eg oz), le_of_eq (eg (os rfl oz)), le_of_eq (eg (os rfl (os rfl oz))), le_of_eq (eg (os rfl (os rfl (os rfl oz)))), le_of_eq (eg (os rfl (os rfl (os rfl (os rfl oz))))), le_of_eq (eg (os rfl (os rfl (os rfl (os rfl (os rfl oz)))))), trivial⟩, rfl, hz_3⟩
      · skip
        replace hz_5 := ifb_f hz_5 hc
        clear hc
        refine aw_exit ?_
        obtain rfl := some_of hz_5
        replace hz_3 := ocs_r hz_3
        refine wk_no ?_
        refine wk_yesU ((upd_boxes_length _ _ _).trans hNs) (by exact ⟨rfl, rfl⟩) (upd_ok (flatKB kb_Itm)) ((upd_boxes_length _ _ _).trans hNs) (l := [(0, hsl g r 0 p0.length kItm.sz), (1, pl (.int .i64 p1)), (2, pl (.int .i64 p2)), (3, pl (.func (.func 118) #[] #[])), (8, pl (.int .i64 t_1.1))]) (bs' := []) ⟨le_of_eq (eg oz), le_of_eq (eg (os rfl oz)), le_of_eq (eg (os rfl (os rfl oz))), le_of_eq (eg (os rfl (os rfl (os rfl oz)))), le_of_eq (eg (os rfl (os rfl (os rfl (os rfl oz))))), trivial⟩ (bnd_cons (hsl_bnd _ (by first | omega | (simp only [List.length_append, List.length_cons, List.length_nil]; omega))) (bnd_cons (pl_bnd _ _ _) (bnd_cons (pl_bnd _ _ _) (bnd_cons (pl_bnd _ _ _) (bnd_cons (pl_bnd _ _ _) bnd_nil))))) (Nat.le_of_ble_eq_true rfl) (by simp only [na, nb, nc, nd, nf, ng, nh, ni, nj, nk] <;> rfl) bxle_nil rfl (by simp only [na, nb, nc, nd, nf, ng, nh, ni, nj, nk] <;> rfl) bl_nil ?_
        exact ⟨t_4.2, ⟨le_of_eq (eg oz), le_of_eq (eg (os rfl oz)), le_of_eq (eg (os rfl (os rfl oz))), le_of_eq (eg (os rfl (os rfl (os rfl oz)))), le_of_eq (eg (os rfl (os rfl (os rfl (os rfl oz))))), trivial⟩, rfl, some_of hz_3⟩
    · rintro e st ⟨vz_3, hH, rfl, rfl⟩
      refine aw_keep _ hH ?_
      refine aw_keep [(0, _), (1, _), (2, _), (3, _), (8, _)] ⟨lg oz, lg (os rfl oz), lg (os rfl (os rfl oz)), lg (os rfl (os rfl (os rfl oz))), lg (os rfl (os rfl (os rfl (os rfl oz)))), trivial⟩ ?_
      refine aw_region (by decide) ?_
      refine rts _ rfl (opD_move (os rfl (os rfl (os rfl (os rfl oz))))) ?_
      refine rts _ rfl (opD_add lz (ev_const _ _) rfl) ?_
      refine rts _ rfl (opD_assign lz) ?_
      refine .nil ?_
      obtain rfl := some_of hz_2
      replace h0 := ocs_l h0
      refine wk_yesU ((upd_boxes_length _ _ _).trans hNs) (by exact ⟨rfl, rfl⟩) (upd_ok (flatKB kb_Itm)) ((upd_boxes_length _ _ _).trans hNs) (l := [(0, hsl g r 0 p0.length kItm.sz), (1, pl (.int .i64 p1)), (2, pl (.int .i64 p2)), (3, pl (.func (.func 118) #[] #[])), (8, pl (.int .i64 (IntKind.i64.wrap (t_1.1 + 1))))]) (bs' := []) ⟨le_of_eq (eg (ls rfl (ls rfl (ls rfl oz)))), le_of_eq (eg (ls rfl (ls rfl (ls rfl (os rfl oz))))), le_of_eq (eg (ls rfl (ls rfl (ls rfl (os rfl (os rfl oz)))))), le_of_eq (eg (ls rfl (ls rfl (ls rfl (os rfl (os rfl (os rfl oz))))))), le_of_eq (eg lz), trivial⟩ (bnd_cons (hsl_bnd _ (by first | omega | (simp only [List.length_append, List.length_cons, List.length_nil]; omega))) (bnd_cons (pl_bnd _ _ _) (bnd_cons (pl_bnd _ _ _) (bnd_cons (pl_bnd _ _ _) (bnd_cons (pl_bnd _ _ _) bnd_nil))))) (Nat.le_of_ble_eq_true rfl) (by simp only [na, nb, nc, nd, nf, ng, nh, ni, nj, nk] <;> rfl) bxle_nil rfl (by simp only [na, nb, nc, nd, nf, ng, nh, ni, nj, nk] <;> rfl) bl_nil ?_
      exact ⟨m_z_2, Nat.lt_succ_self _, (IntKind.i64.wrap (t_1.1 + 1), vz_3), ⟨le_of_eq (eg oz), le_of_eq (eg (os rfl oz)), le_of_eq (eg (os rfl (os rfl oz))), le_of_eq (eg (os rfl (os rfl (os rfl oz)))), le_of_eq (eg (os rfl (os rfl (os rfl (os rfl oz))))), trivial⟩, rfl, h0⟩
  · skip
    replace hz_2 := ifb_f hz_2 hc
    clear hc
    refine aw_exit ?_
    obtain rfl := some_of hz_2
    replace h0 := ocs_r h0
    refine wk_no ?_
    obtain rfl := some_of h0
    exact done_upd (.inl rfl) (res_0 rfl) (pl_bnd _ _ _) (flatKB kb_Itm)

def F_len64 (p0 : Int) : Option (Int) :=
  bnd (ifb (decide (4294967296 ≤ p0)) (some ((p0 / 2 ^ (32 : Int).toNat), 32)) (some (p0, 0))) fun z_1 => bnd (ifb (decide (65536 ≤ z_1.1)) (some ((z_1.1 / 2 ^ (16 : Int).toNat), IntKind.i64.wrap (z_1.2 + 16))) (some (z_1.1, z_1.2))) fun z_2 => bnd (ifb (decide (256 ≤ z_2.1)) (some ((z_2.1 / 2 ^ (8 : Int).toNat), IntKind.i64.wrap (z_2.2 + 8))) (some (z_2.1, z_2.2))) fun z_3 => grd (Below (IntKind.u8.wrap (z_3.1)) (⟨#[0, 1, 2, 2, 3, 3, 3, 3, 4, 4, 4, 4, 4, 4, 4, 4, 5, 5, 5, 5, 5, 5, 5, 5, 5, 5, 5, 5, 5, 5, 5, 5, 6, 6, 6, 6, 6, 6, 6, 6, 6, 6, 6, 6, 6, 6, 6, 6, 6, 6, 6, 6, 6, 6, 6, 6, 6, 6, 6, 6, 6, 6, 6, 6, 7, 7, 7, 7, 7, 7, 7, 7, 7, 7, 7, 7, 7, 7, 7, 7, 7, 7, 7, 7, 7, 7, 7, 7, 7, 7, 7, 7, 7, 7, 7, 7, 7, 7, 7, 7, 7, 7, 7, 7, 7, 7, 7, 7, 7, 7, 7, 7, 7, 7, 7, 7, 7, 7, 7, 7, 7, 7, 7, 7, 7, 7, 7, 7, 8, 8, 8, 8, 8, 8, 8, 8, 8, 8, 8, 8, 8, 8, 8, 8, 8, 8, 8, 8, 8, 8, 8, 8, 8, 8, 8, 8, 8, 8, 8, 8, 8, 8, 8, 8, 8, 8, 8, 8, 8, 8, 8, 8, 8, 8, 8, 8, 8, 8, 8, 8, 8, 8, 8, 8, 8, 8, 8, 8, 8, 8, 8, 8, 8, 8, 8, 8, 8, 8, 8, 8, 8, 8, 8, 8, 8, 8, 8, 8, 8, 8, 8, 8, 8, 8, 8, 8, 8, 8, 8, 8, 8, 8, 8, 8, 8, 8, 8, 8, 8, 8, 8, 8, 8, 8, 8, 8, 8, 8, 8, 8, 8, 8, 8, 8, 8, 8, 8, 8, 8, 8, 8, 8, 8, 8, 8, 8]⟩ : ByteArray).size) <| some (IntKind.i64.wrap (z_3.2 + (IntKind.i64.wrap ((byteAt (⟨#[0, 1, 2, 2, 3, 3, 3, 3, 4, 4, 4, 4, 4, 4, 4, 4, 5, 5, 5, 5, 5, 5, 5, 5, 5, 5, 5, 5, 5, 5, 5, 5, 6, 6, 6, 6, 6, 6, 6, 6, 6, 6, 6, 6, 6, 6, 6, 6, 6, 6, 6, 6, 6, 6, 6, 6, 6, 6, 6, 6, 6, 6, 6, 6, 7, 7, 7, 7, 7, 7, 7, 7, 7, 7, 7, 7, 7, 7, 7, 7, 7, 7, 7, 7, 7, 7, 7, 7, 7, 7, 7, 7, 7, 7, 7, 7, 7, 7, 7, 7, 7, 7, 7, 7, 7, 7, 7, 7, 7, 7, 7, 7, 7, 7, 7, 7, 7, 7, 7, 7, 7, 7, 7, 7, 7, 7, 7, 7, 8, 8, 8, 8, 8, 8, 8, 8, 8, 8, 8, 8, 8, 8, 8, 8, 8, 8, 8, 8, 8, 8, 8, 8, 8, 8, 8, 8, 8, 8, 8, 8, 8, 8, 8, 8, 8, 8, 8, 8, 8, 8, 8, 8, 8, 8, 8, 8, 8, 8, 8, 8, 8, 8, 8, 8, 8, 8, 8, 8, 8, 8, 8, 8, 8, 8, 8, 8, 8, 8, 8, 8, 8, 8, 8, 8, 8, 8, 8, 8, 8, 8, 8, 8, 8, 8, 8, 8, 8, 8, 8, 8, 8, 8, 8, 8, 8, 8, 8, 8, 8, 8, 8, 8, 8, 8, 8, 8, 8, 8, 8, 8, 8, 8, 8, 8, 8, 8, 8, 8, 8, 8, 8, 8, 8, 8, 8, 8]⟩ : ByteArray) (IntKind.u8.wrap (z_3.1)))))))
set_option maxRecDepth 100000 in
set_option maxHeartbeats 2000000 in
theorem c_len64 {p0 : Int} {R : Int} (h0 : F_len64 p0 = some R) : Pure Go.Proofs.Tryd.prog 144 [pl (.int .u64 p0)] (pl (.int .i64 R)) := by
  intro s
  unfold F_len64 at h0
  refine ac_of_aw s.boxes.length s.fr.length Go.Proofs.Tryd.func144 rfl (by simp [Go.Proofs.Tryd.ntmps144]) ?_
  refine aw_ext0 ?_
  refine aw_keep [(0, _)] ⟨lg ez, trivial⟩ ?_
  refine aw_seq ?_
  refine aw_region (by decide) ?_
  refine rts _ rfl (opD_assign (ev_const _ _)) ?_
  refine .nil ?_
  refine aw_keep [(0, _), (2, _)] ⟨lg (ls rfl oz), lg lz, trivial⟩ ?_
  refine aw_seq ?_
  refine aw_seq ?_
  refine aw_region (by decide) ?_
  refine rts _ rfl (opD_move oz) ?_
  refine rts _ rfl (opD_geq lz (ev_const _ _)) ?_
  refine .nil ?_
  refine aw_keep [(0, _), (2, _), (4, _)] ⟨lg (ls rfl (ls rfl oz)), lg (ls rfl (ls rfl (os rfl oz))), lg lz, trivial⟩ ?_
  replace h0 := bnd_some h0
  obtain ⟨z_1, hz_1, h0⟩ := h0
  refine aw_mid (fun e st => ∃ v : Int × Int, Holds e [(0, pl (.int .u64 v.1)), (2, pl (.int .i64 v.2))] ∧ st = s.ext [] [] ∧ v = z_1) ?_ ?_
  · skip
    refine aw_wkN rfl 0 0 rfl rfl ?_
    refine aw_cond _ (os rfl (os rfl oz)) (fun hc => ?_) (fun hc => ?_)
    · skip
      replace hz_1 := ifb_t hz_1 hc
      clear hc
      refine aw_seq ?_
      refine aw_region (by decide) ?_
      refine rts _ rfl (opD_move oz) ?_
      refine rts _ rfl (opD_shr lz (ev_const _ _) (by decide) (by decide) rfl) ?_
      refine rts _ rfl (opD_assign lz) ?_
      refine .nil ?_
      refine aw_keep [(0, _)] ⟨lg lz, trivial⟩ ?_
      refine aw_region (by decide) ?_
      refine rts _ rfl (opD_assign (ev_const _ _)) ?_
      refine .nil ?_
      refine wk_yesN rfl (l := [(0, pl (.int .u64 (p0 / 2 ^ (32 : Int).toNat))), (2, pl (.int .i64 32))]) (bs' := []) ⟨le_of_eq (eg (ls rfl oz)), le_of_eq (eg lz), trivial⟩ (bnd_cons (pl_bnd _ _ _) (bnd_cons (pl_bnd _ _ _) bnd_nil)) (Nat.le_of_ble_eq_true rfl) (by simp only [na, nb, nc, nd, nf, ng, nh, ni, nj, nk] <;> rfl) bxle_nil rfl (by simp only [na, nb, nc, nd, nf, ng, nh, ni, nj, nk] <;> rfl) bl_nil ?_
      exact ⟨((p0 / 2 ^ (32 : Int).toNat), 32), ⟨le_of_eq (eg oz), le_of_eq (eg (os rfl oz)), trivial⟩, rfl, some_of hz_1⟩
    · skip
      replace hz_1 := ifb_f hz_1 hc
      clear hc
      refine aw_skip ?_
      refine wk_yesN rfl (l := [(0, pl (.int .u64 p0)), (2, pl (.int .i64 0))]) (bs' := []) ⟨le_of_eq (eg oz), le_of_eq (eg (os rfl oz)), trivial⟩ (bnd_cons (pl_bnd _ _ _) (bnd_cons (pl_bnd _ _ _) bnd_nil)) (Nat.le_of_ble_eq_true rfl) (by simp only [na, nb, nc, nd, nf, ng, nh, ni, nj, nk] <;> rfl) bxle_nil rfl (by simp only [na, nb, nc, nd, nf, ng, nh, ni, nj, nk] <;> rfl) bl_nil ?_
      exact ⟨(p0, 0), ⟨le_of_eq (eg oz), le_of_eq (eg (os rfl oz)), trivial⟩, rfl, some_of hz_1⟩
  · rintro e st ⟨vz_1, hH, rfl, rfl⟩
    refine aw_keep _ hH ?_
    refine aw_keep [(0, _), (2, _)] ⟨lg oz, lg (os rfl oz), trivial⟩ ?_
    refine aw_seq ?_
    refine aw_seq ?_
    refine aw_region (by decide) ?_
    refine rts _ rfl (opD_move oz) ?_
    refine rts _ rfl (opD_geq lz (ev_const _ _)) ?_
    refine .nil ?_
    refine aw_keep [(0, _), (2, _), (8, _)] ⟨lg (ls rfl (ls rfl oz)), lg (ls rfl (ls rfl (os rfl oz))), lg lz, trivial⟩ ?_
    replace h0 := bnd_some h0
    obtain ⟨z_2, hz_2, h0⟩ := h0
    refine aw_mid (fun e st => ∃ v : Int × Int, Holds e [(0, pl (.int .u64 v.1)), (2, pl (.int .i64 v.2))] ∧ st = s.ext [] [] ∧ v = z_2) ?_ ?_
    · skip
      refine aw_wkN rfl 0 0 rfl rfl ?_
      refine aw_cond _ (os rfl (os rfl oz)) (fun hc => ?_) (fun hc => ?_)
      · skip
        replace hz_2 := ifb_t hz_2 hc
        clear hc
        refine aw_seq ?_
        refine aw_region (by decide) ?_
        refine rts _ rfl (opD_move oz) ?_
        refine rts _ rfl (opD_shr lz (ev_const _ _) (by decide) (by decide) rfl) ?_
        refine rts _ rfl (opD_assign lz) ?_
        refine .nil ?_
        refine aw_keep [(0, _), (2, _)] ⟨lg lz, lg (ls rfl (ls rfl (ls rfl (os rfl oz)))), trivial⟩ ?_
        refine aw_region (by decide) ?_
        refine rts _ rfl (opD_move (os rfl oz)) ?_
        refine rts _ rfl (opD_add lz (ev_const _ _) rfl) ?_
        refine rts _ rfl (opD_assign lz) ?_
        refine .nil ?_
        refine wk_yesN rfl (l := [(0, pl (.int .u64 (vz_1.1 / 2 ^ (16 : Int).toNat))), (2, pl (.int .i64 (IntKind.i64.wrap (vz_1.2 + 16))))]) (bs' := []) ⟨le_of_eq (eg (ls rfl (ls rfl (ls rfl oz)))), le_of_eq (eg lz), trivial⟩ (bnd_cons (pl_bnd _ _ _) (bnd_cons (pl_bnd _ _ _) bnd_nil)) (Nat.le_of_ble_eq_true rfl) (by simp only [na, nb, nc, nd, nf, ng, nh, ni, nj, nk] <;> rfl) bxle_nil rfl (by simp only [na, nb, nc, nd, nf, ng, nh, ni, nj, nk] <;> rfl) bl_nil ?_
        exact ⟨((vz_1.1 / 2 ^ (16 : Int).toNat), IntKind.i64.wrap (vz_1.2 + 16)), ⟨le_of_eq (eg oz), le_of_eq (eg (os rfl oz)), trivial⟩, rfl, some_of hz_2⟩
      · skip
        replace hz_2 := ifb_f hz_2 hc
        clear hc
        refine aw_skip ?_
        refine wk_yesN rfl (l := [(0, pl (.int .u64 vz_1.1)), (2, pl (.int .i64 vz_1.2))]) (bs' := []) ⟨le_of_eq (eg oz), le_of_eq (eg (os rfl oz)), trivial⟩ (bnd_cons (pl_bnd _ _ _) (bnd_cons (pl_bnd _ _ _) bnd_nil)) (Nat.le_of_ble_eq_true rfl) (by simp only [na, nb, nc, nd, nf, ng, nh, ni, nj, nk] <;> rfl) bxle_nil rfl (by simp only [na, nb, nc, nd, nf, ng, nh, ni, nj, nk] <;> rfl) bl_nil ?_
        exact ⟨(vz_1.1, vz_1.2), ⟨le_of_eq (eg oz), le_of_eq (eg (os rfl oz)), trivial⟩, rfl, some_of hz_2⟩
    · rintro e st ⟨vz_2, hH, rfl, rfl⟩
      refine aw_keep _ hH ?_
      refine aw_keep [(0, _), (2, _)] ⟨lg oz, lg (os rfl oz), trivial⟩ ?_
      refine aw_seq ?_
      refine aw_seq ?_
      refine aw_region (by decide) ?_
      refine rts _ rfl (opD_move oz) ?_
      refine rts _ rfl (opD_geq lz (ev_const _ _)) ?_
      refine .nil ?_
      refine aw_keep [(0, _), (2, _), (14, _)] ⟨lg (ls rfl (ls rfl oz)), lg (ls rfl (ls rfl (os rfl oz))), lg lz, trivial⟩ ?_
      replace h0 := bnd_some h0
      obtain ⟨z_3, hz_3, h0⟩ := h0
      refine aw_mid (fun e st => ∃ v : Int × Int, Holds e [(0, pl (.int .u64 v.1)), (2, pl (.int .i64 v.2))] ∧ st = s.ext [] [] ∧ v = z_3) ?_ ?_
      · skip
        refine aw_wkN rfl 0 0 rfl rfl ?_
        refine aw_cond _ (os rfl (os rfl oz)) (fun hc => ?_) (fun hc => ?_)
        · skip
          replace hz_3 := ifb_t hz_3 hc
          clear hc
          refine aw_seq ?_
          refine aw_region (by decide) ?_
          refine rts _ rfl (opD_move oz) ?_
          refine rts _ rfl (opD_shr lz (ev_const _ _) (by decide) (by decide) rfl) ?_
          refine rts _ rfl (opD_assign lz) ?_
          refine .nil ?_
          refine aw_keep [(0, _), (2, _)] ⟨lg lz, lg (ls rfl (ls rfl (ls rfl (os rfl oz)))), trivial⟩ ?_
          refine aw_region (by decide) ?_
          refine rts _ rfl (opD_move (os rfl oz)) ?_
          refine rts _ rfl (opD_add lz (ev_const _ _) rfl) ?_
          refine rts _ rfl (opD_assign lz) ?_
          refine .nil ?_
          refine wk_yesN rfl (l := [(0, pl (.int .u64 (vz_2.1 / 2 ^ (8 : Int).toNat))), (2, pl (.int .i64 (IntKind.i64.wrap (vz_2.2 + 8))))]) (bs' := []) ⟨le_of_eq (eg (ls rfl (ls rfl (ls rfl oz)))), le_of_eq (eg lz), trivial⟩ (bnd_cons (pl_bnd _ _ _) (bnd_cons (pl_bnd _ _ _) bnd_nil)) (Nat.le_of_ble_eq_true rfl) (by simp only [na, nb, nc, nd, nf, ng, nh, ni, nj, nk] <;> rfl) bxle_nil rfl (by simp only [na, nb, nc, nd, nf, ng, nh, ni, nj, nk] <;> rfl) bl_nil ?_
          exact ⟨((vz_2.1 / 2 ^ (8 : Int).toNat), IntKind.i64.wrap (vz_2.2 + 8)), ⟨le_of_eq (eg oz), le_of_eq (eg (os rfl oz)), trivial⟩, rfl, some_of hz_3⟩
        · skip
          replace hz_3 := ifb_f hz_3 hc
          clear hc
          refine aw_skip ?_
          refine wk_yesN rfl (l := [(0, pl (.int .u64 vz_2.1)), (2, pl (.int .i64 vz_2.2))]) (bs' := []) ⟨le_of_eq (eg oz), le_of_eq (eg (os rfl oz)), trivial⟩ (bnd_cons (pl_bnd _ _ _) (bnd_cons (pl_bnd _ _ _) bnd_nil)) (Nat.le_of_ble_eq_true rfl) (by simp only [na, nb, nc, nd, nf, ng, nh, ni, nj, nk] <;> rfl) bxle_nil rfl (by simp only [na, nb, nc, nd, nf, ng, nh, ni, nj, nk] <;> rfl) bl_nil ?_
          exact ⟨(vz_2.1, vz_2.2), ⟨le_of_eq (eg oz), le_of_eq (eg (os rfl oz)), trivial⟩, rfl, some_of hz_3⟩
      · rintro e st ⟨vz_3, hH, rfl, rfl⟩
        refine aw_keep _ hH ?_
        refine aw_keep [(0, _), (2, _)] ⟨lg oz, lg (os rfl oz), trivial⟩ ?_
        refine aw_seq ?_
        refine aw_region (by decide) ?_
        refine rts _ rfl (opD_move (os rfl oz)) ?_
        refine rts _ rfl (opD_move (ls rfl oz)) ?_
        refine rts _ rfl (opD_conv_int Go.Proofs.Tryd.underlying22 Go.Proofs.Tryd.underlying5 lz rfl) ?_
        replace h0 := grd_some h0
        obtain ⟨hg_1, h0⟩ := h0
        refine rts _ rfl (opD_index_str Go.Proofs.Tryd.underlying9 (ev_const _ _) lz hg_1) ?_
        refine rts _ rfl (opD_conv_int Go.Proofs.Tryd.underlying5 Go.Proofs.Tryd.underlying3 lz rfl) ?_
        refine rts _ rfl (opD_add (ls rfl (ls rfl (ls rfl (ls rfl lz)))) lz rfl) ?_
        refine rts _ rfl (opD_assign lz) ?_
        refine .nil ?_
        refine aw_keep [(2, _)] ⟨lg lz, trivial⟩ ?_
        refine aw_ret ?_
        obtain rfl := some_of h0
        exact done_ext (.inr rfl) ((res_one rfl (it_tmp oz)).le (Pd.le_refl _)) (pl_bnd _ _ _)

def F_lenU (p0 : Int) : Option (Int) :=
  bnd (F_len64 p0) fun x_1 => some x_1
set_option maxRecDepth 100000 in
set_option maxHeartbeats 2000000 in
theorem c_lenU {p0 : Int} {R : Int} (h0 : F_lenU p0 = some R) : Pure Go.Proofs.Tryd.prog 130 [pl (.int .u64 p0)] (pl (.int .i64 R)) := by
  intro s
  unfold F_lenU at h0
  refine ac_of_aw s.boxes.length s.fr.length Go.Proofs.Tryd.func130 rfl (by simp [Go.Proofs.Tryd.ntmps130]) ?_
  refine aw_ext0 ?_
  refine aw_keep [(0, _)] ⟨lg ez, trivial⟩ ?_
  refine aw_seq ?_
  refine aw_region (by decide) ?_
  refine rts _ rfl (opD_assign (ev_const _ _)) ?_
  refine .nil ?_
  refine aw_keep [(0, _)] ⟨lg (ls rfl oz), trivial⟩ ?_
  refine aw_seq ?_
  refine aw_cond _ (ev_const _ _) (fun hc => ?_) (fun hc => ?_)
  · skip
    cases hc
  · skip
    refine aw_skip ?_
    refine aw_keep [(0, _)] ⟨lg oz, trivial⟩ ?_
    refine aw_seq ?_
    refine aw_region (by decide) ?_
    refine rts _ rfl (opD_move oz) ?_
    replace h0 := bnd_some h0
    obtain ⟨x_1, hx_1, h0⟩ := h0
    refine rts _ rfl (opD_pure ht144_U11 (c_len64 hx_1) ⟨le_of_eq lz, trivial⟩) ?_
    refine rts _ rfl (opD_assign lz) ?_
    refine .nil ?_
    refine aw_keep [(2, _)] ⟨lg lz, trivial⟩ ?_
    refine aw_ret ?_
    obtain rfl := some_of h0
    exact done_ext (.inr rfl) ((res_one rfl (it_tmp oz)).le (Pd.le_refl _)) (pl_bnd _ _ _)

def F_hpdq_b0 (fl : Nat) (p0 : (List Itm)) (p1 : Int) (p2 : Int) (t_1 : Unit) : Option ((Unit) ⊕ ((List Itm))) :=
  grd ((decide ((IntKind.i64.wrap (p2 - p1)) ≤ 12)) = true) <| bnd (F_hins fl p0 p1 p2) fun x_3 => some (.inr x_3)
def F_hpdq (fl : Nat) (p0 : (List Itm)) (p1 : Int) (p2 : Int) (p3 : Int) : Option ((List Itm)) :=
  lp (F_hpdq_b0 fl p0 p1 p2) fl ()
set_option maxRecDepth 100000 in
set_option maxHeartbeats 2000000 in
theorem c_hpdq {fl : Nat} {p0 : (List Itm)} {p1 : Int} {p2 : Int} {p3 : Int} {R : (List Itm)} {s : St} {g r : Nat} (hr : 2 ≤ r) (hev : r % 2 = 0) (h0 : F_hpdq fl p0 p1 p2 p3 = some R) (hG : s.boxes[g]? = some ⟨(hot 137 r), flat kItm p0⟩) : AC Go.Proofs.Tryd.prog 129 [hsl g r 0 p0.length kItm.sz, pl (.int .i64 p1), pl (.int .i64 p2), pl (.int .i64 p3), pl (.func (.func 118) #[] #[])] s (pl (.tuple #[])) (s.upd g ⟨(hot 137 r), flat kItm R⟩) := by
  have hlt := (List.getElem?_eq_some_iff.1 hG).1
  unfold F_hpdq at h0
  refine ac_of_aw s.boxes.length s.fr.length Go.Proofs.Tryd.func129 rfl (by simp [Go.Proofs.Tryd.ntmps129]) ?_
  refine aw_ext0 ?_
  refine aw_upd0 hG ?_
  obtain ⟨N, hNs⟩ : ∃ N, s.boxes.length = N := ⟨_, rfl⟩
  refine aw_keep [(0, _), (1, _), (2, _), (3, _), (4, _)] ⟨lg ez, lg (es ez), lg (es (es ez)), lg (es (es (es ez))), lg (es (es (es (es ez)))), trivial⟩ ?_
  refine aw_seq ?_
  refine aw_region (by decide) ?_
  refine rts _ rfl (opD_assign (ev_const _ _)) ?_
  refine .nil ?_
  refine aw_keep [(0, _), (1, _), (2, _), (3, _), (4, _), (10, _)] ⟨lg (ls rfl oz), lg (ls rfl (os rfl oz)), lg (ls rfl (os rfl (os rfl oz))), lg (ls rfl (os rfl (os rfl (os rfl oz)))), lg (ls rfl (os rfl (os rfl (os rfl (os rfl oz))))), lg lz, trivial⟩ ?_
  refine aw_seq ?_
  refine aw_region (by decide) ?_
  refine rts _ rfl (opD_assign (ev_const _ _)) ?_
  refine .nil ?_
  refine aw_keep [(0, _), (1, _), (2, _), (3, _), (4, _), (10, _), (11, _)] ⟨lg (ls rfl oz), lg (ls rfl (os rfl oz)), lg (ls rfl (os rfl (os rfl oz))), lg (ls rfl (os rfl (os rfl (os rfl oz)))), lg (ls rfl (os rfl (os rfl (os rfl (os rfl oz))))), lg (ls rfl (os rfl (os rfl (os rfl (os rfl (os rfl oz)))))), lg lz, trivial⟩ ?_
  refine aw_block ?_
  refine aw_loop (fun n e st => ∃ v : Unit, Holds e [(0, hsl g r 0 p0.length kItm.sz), (1, pl (.int .i64 p1)), (2, pl (.int .i64 p2)), (3, pl (.int .i64 p3)), (4, pl (.func (.func 118) #[] #[])), (10, pl (.bool true)), (11, pl (.bool true))] ∧ st = (s.upd g ⟨(hot 137 r), (flat kItm p0)⟩).ext [] [] ∧ lp (F_hpdq_b0 fl p0 p1 p2) n v = some R) fl ⟨(), ⟨le_of_eq (eg oz), le_of_eq (eg (os rfl oz)), le_of_eq (eg (os rfl (os rfl oz))), le_of_eq (eg (os rfl (os rfl (os rfl oz)))), le_of_eq (eg (os rfl (os rfl (os rfl (os rfl oz))))), le_of_eq (eg (os rfl (os rfl (os rfl (os rfl (os rfl oz)))))), le_of_eq (eg (os rfl (os rfl (os rfl (os rfl (os rfl (os rfl oz))))))), trivial⟩, rfl, h0⟩ ?_
  rintro n e st ⟨t_1, hH, rfl, h0⟩
  replace h0 := lp_some h0
  obtain ⟨m_z_2, z_2, rfl, hz_2, h0⟩ := h0
  unfold F_hpdq_b0 at hz_2
  refine aw_keep _ hH ?_
  refine aw_wkN ((upd_boxes_length _ _ _).trans hNs) 0 0 rfl rfl ?_
  refine aw_block ?_
  refine aw_seq ?_
  refine aw_region (by decide) ?_
  refine rts _ rfl (opD_move (os rfl (os rfl oz))) ?_
  refine rts _ rfl (opD_move (ls rfl (os rfl oz))) ?_
  refine rts _ rfl (opD_sub (ls rfl lz) lz rfl) ?_
  refine rts _ rfl (opD_assign lz) ?_
  refine .nil ?_
  refine aw_keep [(0, _), (1, _), (2, _), (3, _), (4, _), (10, _), (11, _), (12, _)] ⟨lg (ls rfl (ls rfl (ls rfl (ls rfl oz)))), lg (ls rfl (ls rfl (ls rfl (ls rfl (os rfl oz))))), lg (ls rfl (ls rfl (ls rfl (ls rfl (os rfl (os rfl oz)))))), lg (ls rfl (ls rfl (ls rfl (ls rfl (os rfl (os rfl (os rfl oz))))))), lg (ls rfl (ls rfl (ls rfl (ls rfl (os rfl (os rfl (os rfl (os rfl oz)))))))), lg (ls rfl (ls rfl (ls rfl (ls rfl (os rfl (os rfl (os rfl (os rfl (os rfl oz))))))))), lg (ls rfl (ls rfl (ls rfl (ls rfl (os rfl (os rfl (os rfl (os rfl (os rfl (os rfl oz)))))))))), lg lz, trivial⟩ ?_
  refine aw_seq ?_
  refine aw_seq ?_
  refine aw_region (by decide) ?_
  refine rts _ rfl (opD_move (os rfl (os rfl (os rfl (os rfl (os rfl (os rfl (os rfl oz)))))))) ?_
  refine rts _ rfl (opD_leq lz (ev_const _ _)) ?_
  refine .nil ?_
  refine aw_keep [(0, _), (1, _), (2, _), (3, _), (4, _), (10, _), (11, _), (12, _), (25, _)] ⟨lg (ls rfl (ls rfl oz)), lg (ls rfl (ls rfl (os rfl oz))), lg (ls rfl (ls rfl (os rfl (os rfl oz)))), lg (ls rfl (ls rfl (os rfl (os rfl (os rfl oz))))), lg (ls rfl (ls rfl (os rfl (os rfl (os rfl (os rfl oz)))))), lg (ls rfl (ls rfl (os rfl (os rfl (os rfl (os rfl (os rfl oz))))))), lg (ls rfl (ls rfl (os rfl (os rfl (os rfl (os rfl (os rfl (os rfl oz)))))))), lg (ls rfl (ls rfl (os rfl (os rfl (os rfl (os rfl (os rfl (os rfl (os rfl oz))))))))), lg lz, trivial⟩ ?_
  replace hz_2 := grd_some hz_2
  obtain ⟨hg_3, hz_2⟩ := hz_2
  refine aw_cond _ (os rfl (os rfl (os rfl (os rfl (os rfl (os rfl (os rfl (os rfl oz)))))))) (fun hc => ?_) (fun hc => ?_)
  · skip
    refine aw_seq ?_
    refine aw_region (by decide) ?_
    refine rts _ rfl (opD_move oz) ?_
    refine rts _ rfl (opD_move (ls rfl (os rfl oz))) ?_
    refine rts _ rfl (opD_move (ls rfl (ls rfl (os rfl (os rfl oz))))) ?_
    refine rts _ rfl (opD_move (ls rfl (ls rfl (ls rfl (os rfl (os rfl (os rfl (os rfl oz)))))))) ?_
    replace hz_2 := bnd_some hz_2
    obtain ⟨x_3, hx_3, hz_2⟩ := hz_2
    refine rts _ rfl (opD_callU ht135_U11 (fun s h => c_hins hr hev hx_3 h) hlt ⟨le_of_eq (ls rfl (ls rfl (ls rfl lz))), le_of_eq (ls rfl (ls rfl lz)), le_of_eq (ls rfl lz), le_of_eq lz, trivial⟩) ?_
    refine .nil ?_
    refine aw_keep [] trivial ?_
    refine aw_ret ?_
    obtain rfl := some_of hz_2
    replace h0 := ocs_r h0
    refine wk_no ?_
    obtain rfl := some_of h0
    exact done_upd (.inr rfl) (res_0 rfl) (pl_bnd _ _ _) (flatKB kb_Itm)
  · skip
    rw [hg_3] at hc
    cases hc

def F_hsort (fl : Nat) (p0 : (List Itm)) : Option ((List Itm)) :=
  bnd (F_lenU (IntKind.u64.wrap ((p0.length : Int)))) fun x_1 => bnd (F_hpdq fl p0 0 (p0.length : Int) x_1) fun x_2 => some x_2
set_option maxRecDepth 100000 in
set_option maxHeartbeats 2000000 in
theorem c_hsort {fl : Nat} {p0 : (List Itm)} {R : (List Itm)} {s : St} {g r : Nat} (hr : 2 ≤ r) (hev : r % 2 = 0) (h0 : F_hsort fl p0 = some R) (hG : s.boxes[g]? = some ⟨(hot 137 r), flat kItm p0⟩) : AC Go.Proofs.Tryd.prog 117 [hsl g r 0 p0.length kItm.sz, pl (.func (.func 118) #[] #[])] s (pl (.tuple #[])) (s.upd g ⟨(hot 137 r), flat kItm R⟩) := by
  have hlt := (List.getElem?_eq_some_iff.1 hG).1
  unfold F_hsort at h0
  refine ac_of_aw s.boxes.length s.fr.length Go.Proofs.Tryd.func117 rfl (by simp [Go.Proofs.Tryd.ntmps117]) ?_
  refine aw_ext0 ?_
  refine aw_upd0 hG ?_
  obtain ⟨N, hNs⟩ : ∃ N, s.boxes.length = N := ⟨_, rfl⟩
  refine aw_keep [(0, _), (1, _)] ⟨lg ez, lg (es ez), trivial⟩ ?_
  refine aw_seq ?_
  refine aw_region (by decide) ?_
  refine rts _ rfl (opD_move oz) ?_
  refine rts _ rfl (opD_len_h Go.Proofs.Tryd.underlying141 lz) ?_
  refine rts _ rfl (opD_assign lz) ?_
  refine .nil ?_
  refine aw_keep [(0, _), (1, _), (4, _)] ⟨lg (ls rfl (ls rfl (ls rfl oz))), lg (ls rfl (ls rfl (ls rfl (os rfl oz)))), lg lz, trivial⟩ ?_
  refine aw_region (by decide) ?_
  refine rts _ rfl (opD_move oz) ?_
  refine rts _ rfl (opD_move (ls rfl (os rfl (os rfl oz)))) ?_
  refine rts _ rfl (opD_move (ls rfl (ls rfl (os rfl (os rfl oz))))) ?_
  refine rts _ rfl (opD_conv_int Go.Proofs.Tryd.underlying3 Go.Proofs.Tryd.underlying207 lz rfl) ?_
  replace h0 := bnd_some h0
  obtain ⟨x_1, hx_1, h0⟩ := h0
  refine rts _ rfl (opD_pure ht130_U11 (c_lenU hx_1) ⟨le_of_eq lz, trivial⟩) ?_
  refine rts _ rfl (opD_move (ls rfl (ls rfl (ls rfl (ls rfl (ls rfl (os rfl oz))))))) ?_
  replace h0 := bnd_some h0
  obtain ⟨x_2, hx_2, h0⟩ := h0
  refine rts _ rfl (opD_callU ht129_U11 (fun s h => c_hpdq hr hev hx_2 h) hlt ⟨le_of_eq (ls rfl (ls rfl (ls rfl (ls rfl (ls rfl lz))))), le_of_eq (ev_const _ _), le_of_eq (ls rfl (ls rfl (ls rfl (ls rfl lz)))), le_of_eq (ls rfl lz), le_of_eq lz, trivial⟩) ?_
  refine .nil ?_
  obtain rfl := some_of h0
  exact done_upd (.inl rfl) (res_0 rfl) (pl_bnd _ _ _) (flatKB kb_Itm)
end Go.Proofs.YtmnhfpcbfdgbcaaDoor.Eng.A
