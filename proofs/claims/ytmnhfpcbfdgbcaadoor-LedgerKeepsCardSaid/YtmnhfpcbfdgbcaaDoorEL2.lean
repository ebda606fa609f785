/- EL2: what functions do, walked; used by the laws of this seat. -/
import Derived.Test.YtmnhfpcbfdgbcaaDoorEU1
import Derived.Test.YtmnhfpcbfdgbcaaDoorEL1
import Derived.Test.YtmnhfpcbfdgbcaaDoorEW2
namespace Go.Proofs.YtmnhfpcbfdgbcaaDoor.Eng.A
set_option linter.unusedVariables false
set_option linter.unusedSimpArgs false
open Go.RowKit Go.Proofs.YtmnhfpcbfdgbcaaDoor.Plain Go.Proofs.YtmnhfpcbfdgbcaaDoor.Eng Go.Proofs.YtmnhfpcbfdgbcaaDoor.Eng.Pk Go.Proofs.YtmnhfpcbfdgbcaaDoor.Eng.Rd

theorem ag9_U9 : aggT Go.Proofs.Tryd.prog 9 = some false := by kernel_rfl
theorem ag58_U9 : aggT Go.Proofs.Tryd.prog 58 = some false := by kernel_rfl
theorem ag5_U9 : aggT Go.Proofs.Tryd.prog 5 = some false := by kernel_rfl
theorem ag22_U9 : aggT Go.Proofs.Tryd.prog 22 = some false := by kernel_rfl
theorem fo63_1_U9 : fieldOff Go.Proofs.Tryd.prog 63 1 = some 1 := by kernel_rfl
theorem fo63_4_U9 : fieldOff Go.Proofs.Tryd.prog 63 4 = some 4 := by kernel_rfl
theorem fo57_1_U9 : fieldOff Go.Proofs.Tryd.prog 57 1 = some 1 := by kernel_rfl
theorem ag55_U9 : aggT Go.Proofs.Tryd.prog 55 = some false := by kernel_rfl
theorem fo57_0_U9 : fieldOff Go.Proofs.Tryd.prog 57 0 = some 0 := by kernel_rfl
theorem cc107_U9 : Go.Proofs.Tryd.prog.concrete 107 = true := by kernel_rfl
theorem sz63_U9 : sizeT Go.Proofs.Tryd.prog 63 = some 5 := by kernel_rfl
theorem ag63_U9 : aggT Go.Proofs.Tryd.prog 63 = some true := by kernel_rfl
theorem zt63_U9 : zeroT Go.Proofs.Tryd.prog 63 = some [.int .u64 0, .int .u64 0, .int .u8 0, .int .u16 0, .string ⟨#[]⟩] := by kernel_rfl
theorem ht92_U9 : hasText Go.Proofs.Tryd.prog 92 = true := by kernel_rfl
theorem fo63_0_U9 : fieldOff Go.Proofs.Tryd.prog 63 0 = some 0 := by kernel_rfl
theorem zt57_U9 : zeroT Go.Proofs.Tryd.prog 57 = some [.int .u64 0, .slice none 0 0] := by kernel_rfl
theorem ag57_U9 : aggT Go.Proofs.Tryd.prog 57 = some true := by kernel_rfl
theorem sz57_U9 : sizeT Go.Proofs.Tryd.prog 57 = some 2 := by kernel_rfl
theorem ht47_U9 : hasText Go.Proofs.Tryd.prog 47 = true := by kernel_rfl
theorem pt57_U9 : placesT Go.Proofs.Tryd.prog 57 2 = some [(0, 1), (1, 1)] := by kernel_rfl
theorem sz22_U9 : sizeT Go.Proofs.Tryd.prog 22 = some 1 := by kernel_rfl
theorem ht93_U9 : hasText Go.Proofs.Tryd.prog 93 = true := by kernel_rfl
theorem el63_U9 : elT Go.Proofs.Tryd.prog 63 = some (5, 40) := by kernel_rfl
theorem mixed_U9 : Go.Proofs.Tryd.prog.follows .mixedOrders = true := by kernel_rfl
theorem ht94_U9 : hasText Go.Proofs.Tryd.prog 94 = true := by kernel_rfl
theorem sz55_U9 : sizeT Go.Proofs.Tryd.prog 55 = some 1 := by kernel_rfl
theorem ht21_U9 : hasText Go.Proofs.Tryd.prog 21 = true := by kernel_rfl
theorem fo63_2_U9 : fieldOff Go.Proofs.Tryd.prog 63 2 = some 2 := by kernel_rfl
theorem ht19_U9 : hasText Go.Proofs.Tryd.prog 19 = true := by kernel_rfl
theorem fo63_3_U9 : fieldOff Go.Proofs.Tryd.prog 63 3 = some 3 := by kernel_rfl
theorem ht20_U9 : hasText Go.Proofs.Tryd.prog 20 = true := by kernel_rfl
theorem ht22_U9 : hasText Go.Proofs.Tryd.prog 22 = true := by kernel_rfl
theorem ht23_U9 : hasText Go.Proofs.Tryd.prog 23 = true := by kernel_rfl
theorem ht25_U9 : hasText Go.Proofs.Tryd.prog 25 = true := by kernel_rfl
theorem pt63_U9 : placesT Go.Proofs.Tryd.prog 63 5 = some [(0, 1), (1, 1), (2, 1), (3, 1), (4, 1)] := by kernel_rfl
theorem ht24_U9 : hasText Go.Proofs.Tryd.prog 24 = true := by kernel_rfl
theorem sz9_U9 : sizeT Go.Proofs.Tryd.prog 9 = some 1 := by kernel_rfl
theorem ht26_U9 : hasText Go.Proofs.Tryd.prog 26 = true := by kernel_rfl

open Go.Proofs.YtmnhfpcbfdgbcaaDoor.Eng.Er Go.Proofs.YtmnhfpcbfdgbcaaDoor.Eng.Er2 Go.Proofs.YtmnhfpcbfdgbcaaDoor.Eng.Ha

structure Lgr where
  Dropped : Int
  L : (List Lin)
  deriving DecidableEq
instance : Inhabited Lgr := ⟨⟨0, []⟩⟩
def kLgr : Kn Lgr := ⟨2, fun x => [pl (.int .u64 x.Dropped), sl kLin none none x.L], fun _ => rfl, fun x p hp => by
  have h : ∀ p ∈ [pl (.int .u64 x.Dropped), sl kLin none none x.L], Pd.One p := (ones_cons (one_pl rfl) (ones_cons (one_sl _ _ _ _) ones_nil))
  exact h p hp⟩
theorem kb_Lgr : KB kLgr := fun x n m p hp => ((bnd_cons (pl_bnd _ _ _) (bnd_cons (sl_b kb_Lin) bnd_nil)) : ∀ p ∈ [pl (.int .u64 x.Dropped), sl kLin none none x.L], p.Bnd n m) p hp

def oNumG (o : Option Int) : Option Int := some (numV o)
theorem c_num30 {p0 : Option Int} {R : Int} {s : St} (h0 : oNumG p0 = some R) (hst : StGV s) : AC Go.Proofs.Tryd.prog 46 [pl (errV p0)] s (pl (.int .i64 R)) s := by obtain rfl := some_of h0; exact num30 hst

theorem eq_Lin (a0 : Int) (a1 : Int) (a2 : Int) (a3 : Int) (a4 : ByteArray) (b0 : Int) (b1 : Int) (b2 : Int) (b3 : Int) (b4 : ByteArray) (w : World) : (binOp .eql 63 (.agg [.int .u64 a0, .int .u64 a1, .int .u8 a2, .int .u16 a3, .string a4].toArray) (.agg [.int .u64 b0, .int .u64 b1, .int .u8 b2, .int .u16 b3, .string b4].toArray)).run Go.Proofs.Tryd.prog w = .ok (.bool (decide (a0 = b0) && (decide (a1 = b1) && (decide (a2 = b2) && (decide (a3 = b3) && (decide (a4 = b4) && true)))))) w ∧ (binOp .neq 63 (.agg [.int .u64 a0, .int .u64 a1, .int .u8 a2, .int .u16 a3, .string a4].toArray) (.agg [.int .u64 b0, .int .u64 b1, .int .u8 b2, .int .u16 b3, .string b4].toArray)).run Go.Proofs.Tryd.prog w = .ok (.bool (!(decide (a0 = b0) && (decide (a1 = b1) && (decide (a2 = b2) && (decide (a3 = b3) && (decide (a4 = b4) && true))))))) w := by
  have h := eqS (P := Go.Proofs.Tryd.prog) (t := 63) (xs := [.int .u64 a0, .int .u64 a1, .int .u8 a2, .int .u16 a3, .string a4].toArray) (ys := [.int .u64 b0, .int .u64 b1, .int .u8 b2, .int .u16 b3, .string b4].toArray) (w := w) Go.Proofs.Tryd.underlying63 (by kernel_rfl) (eqf_cons (by decide) (run_part_one ag22_U9 rfl w) (run_part_one ag22_U9 rfl w) (run_equalIn_int w _ _ _ _ _ _ Go.Proofs.Tryd.underlying22) (eqf_cons (by decide) (run_part_one ag22_U9 rfl w) (run_part_one ag22_U9 rfl w) (run_equalIn_int w _ _ _ _ _ _ Go.Proofs.Tryd.underlying22) (eqf_cons (by decide) (run_part_one ag5_U9 rfl w) (run_part_one ag5_U9 rfl w) (run_equalIn_int w _ _ _ _ _ _ Go.Proofs.Tryd.underlying5) (eqf_cons (by decide) (run_part_one ag58_U9 rfl w) (run_part_one ag58_U9 rfl w) (run_equalIn_int w _ _ _ _ _ _ Go.Proofs.Tryd.underlying58) (eqf_cons (by decide) (run_part_one ag9_U9 rfl w) (run_part_one ag9_U9 rfl w) (run_equalIn_string w _ _ _ _ Go.Proofs.Tryd.underlying9) eqf_nil)))))
  simp only [str_beq, beq_dec, Bool.and_assoc, Bool.true_and] at h
  exact h

theorem eq_Lin_g (op : BinOp) (t u : Operand) (xs ys : Array Value) (w : World) : (eqGuard op 63 t u (.agg xs) (.agg ys)).run Go.Proofs.Tryd.prog w = .ok () w := run_eqGuard_agg w op 63 t u _ _ (by kernel_rfl)

def F_lmay (p0 : Lin) : Option (Bool) :=
  some ((decide (p0.Who ≤ 4611686018427387904)) && (decide ((p0.Key.size : Int) ≤ 40)))
set_option maxRecDepth 100000 in
set_option maxHeartbeats 2000000 in
theorem c_lmay {p0 : Lin} {R : Bool} (h0 : F_lmay p0 = some R) : Pure Go.Proofs.Tryd.prog 92 [agg [pl (.int .u64 p0.Seq), pl (.int .u64 p0.Who), pl (.int .u8 p0.What), pl (.int .u16 p0.Code), pl (.string p0.Key)]] (pl (.bool R)) := by
  intro s
  unfold F_lmay at h0
  refine ac_of_aw s.boxes.length s.fr.length Go.Proofs.Tryd.func92 rfl (by simp [Go.Proofs.Tryd.ntmps92]) ?_
  refine aw_ext0 ?_
  refine aw_keep [(0, _)] ⟨lg ez, trivial⟩ ?_
  refine aw_seq ?_
  refine aw_region (by decide) ?_
  refine rts _ rfl (boxAN rfl oz (bnd_cons (pl_bnd _ _ _) (bnd_cons (pl_bnd _ _ _) (bnd_cons (pl_bnd _ _ _) (bnd_cons (pl_bnd _ _ _) (bnd_cons (pl_bnd _ _ _) bnd_nil))))) (by first | exact List.length_nil | (simp only [List.length_cons, List.length_nil, Nat.zero_add, Nat.reduceAdd] <;> rfl)) (by simp only [na, nb, nc, nd, nf, ng, nh, ni, nj, nk] <;> rfl)) ?_
  refine rts _ rfl (opD_assign (ev_const _ _)) ?_
  refine .nil ?_
  refine aw_keep [(1, _)] ⟨lg (ls rfl lz), trivial⟩ ?_
  refine aw_seq ?_
  refine aw_region (by decide) ?_
  refine rts _ rfl (opD_fieldAddr fo63_1_U9 oz) ?_
  refine rts _ rfl (opD_load_one ag22_U9 lz (loc_getN rfl rfl) rfl) ?_
  refine rts _ rfl (opD_leq lz (ev_const _ _)) ?_
  refine rts _ rfl (opD_move lz) ?_
  refine rtg _ rfl lz (fun hg1_4_1 => opD_fieldAddr fo63_4_U9 (ls rfl (ls rfl (ls rfl (ls rfl oz))))) ?_
  refine rtg _ rfl (ls rfl lz) (fun hg1_5_2 => opD_load_one ag9_U9 (lz.trans (pif_pos hg1_5_2)) (loc_getN rfl rfl) rfl) ?_
  refine rtg _ rfl (ls rfl (ls rfl lz)) (fun hg1_6_3 => opD_len_str Go.Proofs.Tryd.underlying9 (lz.trans (pif_pos hg1_6_3))) ?_
  refine rtg _ rfl (ls rfl (ls rfl (ls rfl lz))) (fun hg1_7_4 => opD_leq (lz.trans (pif_pos hg1_7_4)) (ev_const _ _)) ?_
  refine rts _ rfl (opD_and (ls rfl (ls rfl (ls rfl (ls rfl lz)))) lz) ?_
  refine rts _ rfl (opD_assign lz) ?_
  refine .nil ?_
  refine aw_keep [(2, _)] ⟨lg lz, trivial⟩ ?_
  refine aw_ret ?_
  obtain rfl := some_of h0
  exact done_ext (.inr rfl) ((res_one rfl (it_tmp oz)).le (Pd.le_refl _)) (pl_bnd _ _ _)

def F_lcheck_b0 (p0 : Lgr) (t_2 : Int) : Option ((Int) ⊕ (((Option Int)) ⊕ (Unit))) :=
  ifb (decide (t_2 < (p0.L.length : Int))) (ixb p0.L t_2 fun x_4 => bnd (F_lmay x_4) fun x_5 => ifb ((!x_5) || (decide (x_4.Seq ≠ (IntKind.u64.wrap ((IntKind.u64.wrap (p0.Dropped + (IntKind.u64.wrap (t_2)))) + 1))))) (some (.inr (.inl (some 1)))) (some (.inl (IntKind.i64.wrap (t_2 + 1))))) (some (.inr (.inr ())))
def F_lcheck (fl : Nat) (p0 : Lgr) : Option ((Option Int)) :=
  ifb (((decide (4611686018427387904 < p0.Dropped)) || (decide (32 < (p0.L.length : Int)))) || ((decide ((p0.L.length : Int) < 32)) && (decide (0 < p0.Dropped)))) (some (some 1)) (bnd (lp (F_lcheck_b0 p0) fl 0) fun z_1 => ocs z_1 (fun qz_1_0 => some qz_1_0) fun z_1_0 => some none)
set_option maxRecDepth 100000 in
set_option maxHeartbeats 2000000 in
theorem c_lcheck {fl : Nat} {p0 : Lgr} {R : (Option Int)} (h0 : F_lcheck fl p0 = some R) : Pure Go.Proofs.Tryd.prog 47 [agg [pl (.int .u64 p0.Dropped), sl kLin none none p0.L]] (pl (errV R)) := by
  intro s
  unfold F_lcheck at h0
  refine ac_of_aw s.boxes.length s.fr.length Go.Proofs.Tryd.func47 rfl (by simp [Go.Proofs.Tryd.ntmps47]) ?_
  refine aw_ext0 ?_
  refine aw_keep [(0, _)] ⟨lg ez, trivial⟩ ?_
  refine aw_seq ?_
  refine aw_region (by decide) ?_
  refine rts _ rfl (boxAN rfl oz (bnd_cons (pl_bnd _ _ _) (bnd_cons (sl_b kb_Lin) bnd_nil)) (by first | exact List.length_nil | (simp only [List.length_cons, List.length_nil, Nat.zero_add, Nat.reduceAdd] <;> rfl)) (by simp only [na, nb, nc, nd, nf, ng, nh, ni, nj, nk] <;> rfl)) ?_
  refine rts _ rfl (opD_assign (ev_const _ _)) ?_
  refine .nil ?_
  refine aw_keep [(1, _)] ⟨lg (ls rfl lz), trivial⟩ ?_
  refine aw_seq ?_
  refine aw_region (by decide) ?_
  refine rts _ rfl (opD_fieldAddr fo57_1_U9 oz) ?_
  refine rts _ rfl (opD_load_one ag55_U9 lz (loc_getN rfl rfl) rfl) ?_
  refine rts _ rfl (opD_len_sl Go.Proofs.Tryd.underlying55 lz) ?_
  refine rts _ rfl (opD_assign lz) ?_
  refine .nil ?_
  refine aw_keep [(1, _), (3, _)] ⟨lg (ls rfl (ls rfl (ls rfl (ls rfl oz)))), lg lz, trivial⟩ ?_
  refine aw_seq ?_
  refine aw_seq ?_
  refine aw_region (by decide) ?_
  refine rts _ rfl (opD_fieldAddr fo57_0_U9 oz) ?_
  refine rts _ rfl (opD_load_one ag22_U9 lz (loc_getN rfl rfl) rfl) ?_
  refine rts _ rfl (opD_gtr lz (ev_const _ _)) ?_
  refine rts _ rfl (opD_move lz) ?_
  refine rtg _ rfl lz (fun hg2_4_1 => opD_move (ls rfl (ls rfl (ls rfl (ls rfl (os rfl oz)))))) ?_
  refine rtg _ rfl (ls rfl lz) (fun hg2_5_2 => opD_gtr (lz.trans (pif_pos hg2_5_2)) (ev_const _ _)) ?_
  refine rts _ rfl (opD_or (ls rfl (ls rfl lz)) lz) ?_
  refine rts _ rfl (opD_move lz) ?_
  refine rtg _ rfl lz (fun hg2_8_3 => opD_move (ls rfl (ls rfl (ls rfl (ls rfl (ls rfl (ls rfl (ls rfl (ls rfl (os rfl oz)))))))))) ?_
  refine rtg _ rfl (ls rfl lz) (fun hg2_9_4 => opD_lss (lz.trans (pif_pos hg2_9_4)) (ev_const _ _)) ?_
  refine rtg _ rfl (ls rfl (ls rfl lz)) (fun hg2_10_5 => opD_move (lz.trans (pif_pos hg2_10_5))) ?_
  refine rtg2 _ rfl lz (fun hg2_11_6 => opD_fieldAddr fo57_0_U9 (ls rfl (ls rfl (ls rfl (ls rfl (ls rfl (ls rfl (ls rfl (ls rfl (ls rfl (ls rfl (ls rfl oz)))))))))))) ?_
  refine rtg2 _ rfl (ls rfl lz) (fun hg2_12_7 => opD_load_one ag22_U9 (lz.trans (pif_pos hg2_12_7)) (loc_getN rfl rfl) rfl) ?_
  refine rtg2 _ rfl (ls rfl (ls rfl lz)) (fun hg2_13_8 => opD_gtr (lz.trans (pif_pos hg2_13_8)) (ev_const _ _)) ?_
  refine rtg _ rfl (ls rfl (ls rfl (ls rfl (ls rfl (ls rfl (ls rfl lz)))))) (fun hg2_14_9 => opD_and ((ls rfl (ls rfl (ls rfl lz))).trans (pif_pos hg2_14_9)) (lz.trans (pif_and hg2_14_9))) ?_
  refine rts _ rfl (opD_or (ls rfl (ls rfl (ls rfl (ls rfl (ls rfl (ls rfl (ls rfl lz))))))) lz) ?_
  refine .nil ?_
  refine aw_keep [(1, _), (24, _)] ⟨lg (ls rfl (ls rfl (ls rfl (ls rfl (ls rfl (ls rfl (ls rfl (ls rfl (ls rfl (ls rfl (ls rfl (ls rfl (ls rfl (ls rfl (ls rfl (ls rfl oz)))))))))))))))), lg lz, trivial⟩ ?_
  refine aw_cond _ (os rfl oz) (fun hc => ?_) (fun hc => ?_)
  · skip
    replace h0 := ifb_t h0 hc
    clear hc
    refine aw_seq ?_
    refine aw_region (by decide) ?_
    refine rts _ rfl (opD_ple (q := pl (errV (some 1))) rfl (opD_makeInterface_pl cc107_U9 (ev_const _ _))) ?_
    refine rts _ rfl (opD_assign lz) ?_
    refine .nil ?_
    refine aw_keep [(2, _)] ⟨lg lz, trivial⟩ ?_
    refine aw_ret ?_
    obtain rfl := some_of h0
    exact done_ext (.inr rfl) ((res_one rfl (it_tmp oz)).le (Pd.le_refl _)) (pl_bnd _ _ _)
  · skip
    replace h0 := ifb_f h0 hc
    clear hc
    refine aw_skip ?_
    refine aw_keep [(1, _)] ⟨lg oz, trivial⟩ ?_
    refine aw_seq ?_
    refine aw_seq ?_
    refine aw_region (by decide) ?_
    refine rts _ rfl (opD_fieldAddr fo57_1_U9 oz) ?_
    refine rts _ rfl (opD_load_one ag55_U9 lz (loc_getN rfl rfl) rfl) ?_
    refine rts _ rfl (opD_len_sl Go.Proofs.Tryd.underlying55 lz) ?_
    refine rts _ rfl (opD_move (ev_const _ _)) ?_
    refine .nil ?_
    refine aw_keep [(1, _), (27, _), (28, _), (29, _)] ⟨lg (ls rfl (ls rfl (ls rfl (ls rfl oz)))), lg (ls rfl (ls rfl lz)), lg (ls rfl lz), lg lz, trivial⟩ ?_
    replace h0 := bnd_some h0
    obtain ⟨z_1, hz_1, h0⟩ := h0
    refine aw_mid (fun e st => ∃ v : Unit, Holds e [] ∧ st = s.ext [⟨57, [pl (.int .u64 p0.Dropped), sl kLin none none p0.L]⟩] [] ∧ (.inr v) = z_1) ?_ ?_
    · skip
      refine aw_wkN rfl 1 0 rfl rfl ?_
      refine aw_block ?_
      refine aw_loop (fun n e st => ∃ v : Int, Holds e [(1, ptr (s.boxes.length + 0) 0), (27, sl kLin none none p0.L), (28, pl (.int .i64 (p0.L.length : Int))), (29, pl (.int .i64 v))] ∧ st = s.ext [⟨57, [pl (.int .u64 p0.Dropped), sl kLin none none p0.L]⟩] [] ∧ lp (F_lcheck_b0 p0) n v = some z_1) fl ⟨0, ⟨le_of_eq (eg oz), le_of_eq (eg (os rfl oz)), le_of_eq (eg (os rfl (os rfl oz))), le_of_eq (eg (os rfl (os rfl (os rfl oz)))), trivial⟩, rfl, hz_1⟩ ?_
      rintro n e st ⟨t_2, hH, rfl, hz_1⟩
      replace hz_1 := lp_some hz_1
      obtain ⟨m_z_3, z_3, rfl, hz_3, hz_1⟩ := hz_1
      unfold F_lcheck_b0 at hz_3
      refine aw_keep _ hH ?_
      refine aw_wkN rfl 1 0 rfl rfl ?_
      refine aw_seq ?_
      refine aw_region (by decide) ?_
      refine rts _ rfl (opD_lss (os rfl (os rfl (os rfl oz))) (os rfl (os rfl oz))) ?_
      refine .nil ?_
      refine aw_keep [(1, _), (27, _), (28, _), (29, _), (30, _)] ⟨lg (ls rfl oz), lg (ls rfl (os rfl oz)), lg (ls rfl (os rfl (os rfl oz))), lg (ls rfl (os rfl (os rfl (os rfl oz)))), lg lz, trivial⟩ ?_
      refine aw_seq ?_
      refine aw_cond _ (os rfl (os rfl (os rfl (os rfl oz)))) (fun hc => ?_) (fun hc => ?_)
      · skip
        replace hz_3 := ifb_t hz_3 hc
        clear hc
        refine aw_skip ?_
        refine aw_keep [(1, _), (27, _), (28, _), (29, _)] ⟨lg oz, lg (os rfl oz), lg (os rfl (os rfl oz)), lg (os rfl (os rfl (os rfl oz))), trivial⟩ ?_
        refine aw_seq ?_
        refine aw_block ?_
        refine aw_seq ?_
        refine aw_region (by decide) ?_
        refine rts _ rfl (opD_move (os rfl (os rfl (os rfl oz)))) ?_
        replace hz_3 := ixb_some hz_3
        obtain ⟨x_4, hx_4, hbx_4, hz_3⟩ := hz_3
        refine rts _ rfl (opD_indexAddr_sl (i := t_2.toNat) Go.Proofs.Tryd.underlying55 sz63_U9 (ls rfl (os rfl oz)) (ls rfl (os rfl (os rfl (os rfl oz)))) hbx_4.2.2 hbx_4.2.1) ?_
        refine rts _ rfl (opD_load_el_aggX (qs := [_, _, _, _, _]) ag63_U9 sz63_U9 lz hx_4 (Nat.le_of_ble_eq_true rfl) rfl) ?_
        refine rts _ rfl (allocN rfl zt63_U9 (by first | exact List.length_nil | (simp only [List.length_cons, List.length_nil, Nat.zero_add, Nat.reduceAdd] <;> rfl)) (by simp only [na, nb, nc, nd, nf, ng, nh, ni, nj, nk] <;> rfl)) ?_
        refine rts _ rfl (opD_assign (ls rfl (ls rfl (ls rfl lz)))) ?_
        refine rts _ rfl (storeAN rfl sz63_U9 (ls rfl lz) (ls rfl (ls rfl lz)) (ones_cons (one_pl rfl) (ones_cons (one_pl rfl) (ones_cons (one_pl rfl) (ones_cons (one_pl rfl) (ones_cons (one_pl rfl) ones_nil))))) rfl rfl (Nat.le_of_ble_eq_true rfl) (List.cons_ne_nil _ _) (bnd_cons (pl_bnd _ _ _) (bnd_cons (pl_bnd _ _ _) (bnd_cons (pl_bnd _ _ _) (bnd_cons (pl_bnd _ _ _) (bnd_cons (pl_bnd _ _ _) bnd_nil))))) (by simp only [na, nb, nc, nd, nf, ng, nh, ni, nj, nk] <;> rfl) (by simp only [na, nb, nc, nd, nf, ng, nh, ni, nj, nk] <;> rfl)) ?_
        refine .nil ?_
        refine aw_keep [(1, _), (4, _), (5, _), (27, _), (28, _), (29, _)] ⟨lg (lx (ls rfl (ls rfl (ls rfl (ls rfl (ls rfl oz)))))), lg (lx lz), lg (lx (ls rfl lz)), lg (lx (ls rfl (ls rfl (ls rfl (ls rfl (ls rfl (os rfl oz))))))), lg (lx (ls rfl (ls rfl (ls rfl (ls rfl (ls rfl (os rfl (os rfl oz)))))))), lg (lx (ls rfl (ls rfl (ls rfl (ls rfl (ls rfl (os rfl (os rfl (os rfl oz))))))))), trivial⟩ ?_
        refine aw_seq ?_
        refine aw_region (by decide) ?_
        refine rts _ rfl (opD_load_aggX (qs := [_, _, _, _, _]) ag63_U9 sz63_U9 (os rfl (os rfl oz)) (loc_getN rfl rfl) (Nat.le_of_ble_eq_true rfl) rfl) ?_
        replace hz_3 := bnd_some hz_3
        obtain ⟨x_5, hx_5, hz_3⟩ := hz_3
        refine rts _ rfl (opD_pure ht92_U9 (c_lmay hx_5) ⟨(le_of_eq lz).trans (agg_le ⟨(Pd.le_refl _), (Pd.le_refl _), (Pd.le_refl _), (Pd.le_refl _), (Pd.le_refl _), trivial⟩), trivial⟩) ?_
        refine rts _ rfl (opD_not lz) ?_
        refine rts _ rfl (opD_move lz) ?_
        refine rtg _ rfl lz (fun hg7_4_37 => opD_fieldAddr fo63_0_U9 (ls rfl (ls rfl (ls rfl (ls rfl (os rfl (os rfl oz))))))) ?_
        refine rtg _ rfl (ls rfl lz) (fun hg7_5_38 => opD_load_one ag22_U9 (lz.trans (pif_pos hg7_5_38)) (loc_getN rfl rfl) rfl) ?_
        refine rtg _ rfl (ls rfl (ls rfl lz)) (fun hg7_6_39 => opD_fieldAddr fo57_0_U9 (ls rfl (ls rfl (ls rfl (ls rfl (ls rfl (ls rfl oz))))))) ?_
        refine rtg _ rfl (ls rfl (ls rfl (ls rfl lz))) (fun hg7_7_40 => opD_load_one ag22_U9 (lz.trans (pif_pos hg7_7_40)) (loc_getN rfl rfl) rfl) ?_
        refine rtg _ rfl (ls rfl (ls rfl (ls rfl (ls rfl lz)))) (fun hg7_8_41 => opD_move (ls rfl (ls rfl (ls rfl (ls rfl (ls rfl (ls rfl (ls rfl (ls rfl (os rfl oz)))))))))) ?_
        refine rtg _ rfl (ls rfl (ls rfl (ls rfl (ls rfl (ls rfl lz))))) (fun hg7_9_42 => opD_conv_int Go.Proofs.Tryd.underlying3 Go.Proofs.Tryd.underlying22 (lz.trans (pif_pos hg7_9_42)) rfl) ?_
        refine rtg _ rfl (ls rfl (ls rfl (ls rfl (ls rfl (ls rfl (ls rfl lz)))))) (fun hg7_10_43 => opD_add ((ls rfl (ls rfl lz)).trans (pif_pos hg7_10_43)) (lz.trans (pif_pos hg7_10_43)) rfl) ?_
        refine rtg _ rfl (ls rfl (ls rfl (ls rfl (ls rfl (ls rfl (ls rfl (ls rfl lz))))))) (fun hg7_11_44 => opD_add (lz.trans (pif_pos hg7_11_44)) (ev_const _ _) rfl) ?_
        refine rtg _ rfl (ls rfl (ls rfl (ls rfl (ls rfl (ls rfl (ls rfl (ls rfl (ls rfl lz)))))))) (fun hg7_12_45 => opD_neq ((ls rfl (ls rfl (ls rfl (ls rfl (ls rfl (ls rfl lz)))))).trans (pif_pos hg7_12_45)) (lz.trans (pif_pos hg7_12_45))) ?_
        refine rts _ rfl (opD_or (ls rfl (ls rfl (ls rfl (ls rfl (ls rfl (ls rfl (ls rfl (ls rfl (ls rfl lz))))))))) lz) ?_
        refine .nil ?_
        refine aw_keep [(1, _), (27, _), (28, _), (29, _), (47, _)] ⟨lg (ls rfl (ls rfl (ls rfl (ls rfl (ls rfl (ls rfl (ls rfl (ls rfl (ls rfl (ls rfl (ls rfl (ls rfl (ls rfl (ls rfl oz)))))))))))))), lg (ls rfl (ls rfl (ls rfl (ls rfl (ls rfl (ls rfl (ls rfl (ls rfl (ls rfl (ls rfl (ls rfl (ls rfl (ls rfl (ls rfl (os rfl (os rfl (os rfl oz))))))))))))))))), lg (ls rfl (ls rfl (ls rfl (ls rfl (ls rfl (ls rfl (ls rfl (ls rfl (ls rfl (ls rfl (ls rfl (ls rfl (ls rfl (ls rfl (os rfl (os rfl (os rfl (os rfl oz)))))))))))))))))), lg (ls rfl (ls rfl (ls rfl (ls rfl (ls rfl (ls rfl (ls rfl (ls rfl (ls rfl (ls rfl (ls rfl (ls rfl (ls rfl (ls rfl (os rfl (os rfl (os rfl (os rfl (os rfl oz))))))))))))))))))), lg lz, trivial⟩ ?_
        refine aw_cond _ (os rfl (os rfl (os rfl (os rfl oz)))) (fun hc => ?_) (fun hc => ?_)
        · skip
          replace hz_3 := ifb_t hz_3 hc
          clear hc
          refine aw_seq ?_
          refine aw_region (by decide) ?_
          refine rts _ rfl (opD_ple (q := pl (errV (some 1))) rfl (opD_makeInterface_pl cc107_U9 (ev_const _ _))) ?_
          refine rts _ rfl (opD_assign lz) ?_
          refine .nil ?_
          refine aw_keep [(2, _)] ⟨lg lz, trivial⟩ ?_
          refine aw_ret ?_
          obtain rfl := some_of hz_3
          replace hz_1 := ocs_r hz_1
          obtain rfl := some_of hz_1
          replace h0 := ocs_l h0
          refine wk_no ?_
          refine wk_no ?_
          obtain rfl := some_of h0
          exact done_ext (.inr rfl) ((res_one rfl (it_tmp oz)).le (Pd.le_refl _)) (pl_bnd _ _ _)
        · skip
          replace hz_3 := ifb_f hz_3 hc
          clear hc
          refine aw_skip ?_
          refine aw_keep [(1, _), (27, _), (28, _), (29, _)] ⟨lg oz, lg (os rfl oz), lg (os rfl (os rfl oz)), lg (os rfl (os rfl (os rfl oz))), trivial⟩ ?_
          refine aw_region (by decide) ?_
          refine rts _ rfl (opD_add (os rfl (os rfl (os rfl oz))) (ev_const _ _) rfl) ?_
          refine rts _ rfl (opD_move lz) ?_
          refine .nil ?_
          obtain rfl := some_of hz_3
          replace hz_1 := ocs_l hz_1
          refine wk_yesN rfl (l := [(1, ptr (s.boxes.length + 0) 0), (27, sl kLin none none p0.L), (28, pl (.int .i64 (p0.L.length : Int))), (29, pl (.int .i64 (IntKind.i64.wrap (t_2 + 1))))]) (bs' := [⟨57, [pl (.int .u64 p0.Dropped), sl kLin none none p0.L]⟩]) ⟨le_of_eq (eg (ls rfl (ls rfl oz))), le_of_eq (eg (ls rfl (ls rfl (os rfl oz)))), le_of_eq (eg (ls rfl (ls rfl (os rfl (os rfl oz))))), le_of_eq (eg lz), trivial⟩ (bnd_cons (ptr_bnd _ (by first | omega | (simp only [List.length_append, List.length_cons, List.length_nil]; omega))) (bnd_cons (sl_b kb_Lin) (bnd_cons (pl_bnd _ _ _) (bnd_cons (pl_bnd _ _ _) bnd_nil)))) (Nat.le_of_ble_eq_true rfl) (by simp only [na, nb, nc, nd, nf, ng, nh, ni, nj, nk] <;> rfl) (bxle_same bxle_nil) rfl (by simp only [na, nb, nc, nd, nf, ng, nh, ni, nj, nk] <;> rfl) (bl_cons (bnd_cons (pl_bnd _ _ _) (bnd_cons (sl_b kb_Lin) bnd_nil)) bl_nil) ?_
          exact ⟨m_z_3, Nat.lt_succ_self _, IntKind.i64.wrap (t_2 + 1), ⟨le_of_eq (eg oz), le_of_eq (eg (os rfl oz)), le_of_eq (eg (os rfl (os rfl oz))), le_of_eq (eg (os rfl (os rfl (os rfl oz)))), trivial⟩, rfl, hz_1⟩
      · skip
        replace hz_3 := ifb_f hz_3 hc
        clear hc
        refine aw_exit ?_
        obtain rfl := some_of hz_3
        replace hz_1 := ocs_r hz_1
        refine wk_no ?_
        refine wk_yesN rfl (l := []) (bs' := [⟨57, [pl (.int .u64 p0.Dropped), sl kLin none none p0.L]⟩]) trivial bnd_nil (Nat.le_of_ble_eq_true rfl) (by simp only [na, nb, nc, nd, nf, ng, nh, ni, nj, nk] <;> rfl) (bxle_same bxle_nil) rfl (by simp only [na, nb, nc, nd, nf, ng, nh, ni, nj, nk] <;> rfl) (bl_cons (bnd_cons (pl_bnd _ _ _) (bnd_cons (sl_b kb_Lin) bnd_nil)) bl_nil) ?_
        exact ⟨(), trivial, rfl, some_of hz_1⟩
    · rintro e st ⟨vz_1, hH, rfl, rfl⟩
      refine aw_keep _ hH ?_
      replace h0 := ocs_r h0
      refine aw_keep [] trivial ?_
      refine aw_seq ?_
      refine aw_region (by decide) ?_
      refine rts _ rfl (opD_assign (ev_const _ _)) ?_
      refine .nil ?_
      refine aw_keep [(2, _)] ⟨lg lz, trivial⟩ ?_
      refine aw_ret ?_
      obtain rfl := some_of h0
      exact done_ext (.inr rfl) ((res_one rfl (it_tmp oz)).le (Pd.le_refl _)) (pl_bnd _ _ _)

def F_ladd (fl : Nat) (p0 : Lgr) (p1 : Lin) : Option (Lgr × (Option Int)) :=
  bnd (F_lcheck fl p0) fun x_1 => bnd (gif (x_1.isSome == false) (F_lmay p1)) fun x_2 => ifb (x_1.isSome || (!x_2)) (some ((⟨0, []⟩ : Lgr), some 1)) (ifb (decide (p0.Dropped = 4611686018427387904)) (some ((⟨0, []⟩ : Lgr), some 7)) (grd (p0.L.length * 40 ≤ 140737488355328 ∧ p0.L.length ≤ 140737488355328) <| grd (Fits 40 (p0.L.length + ([(⟨IntKind.u64.wrap ((IntKind.u64.wrap (p0.Dropped + (IntKind.u64.wrap ((p0.L.length : Int))))) + 1), p1.Who, p1.What, p1.Code, p1.Key⟩ : Lin)] : (List Lin)).length)) <| bnd (ifb (decide (32 < ((p0.L ++ ([(⟨IntKind.u64.wrap ((IntKind.u64.wrap (p0.Dropped + (IntKind.u64.wrap ((p0.L.length : Int))))) + 1), p1.Who, p1.What, p1.Code, p1.Key⟩ : Lin)] : (List Lin))).length : Int))) (grd (1 < (p0.L ++ ([(⟨IntKind.u64.wrap ((IntKind.u64.wrap (p0.Dropped + (IntKind.u64.wrap ((p0.L.length : Int))))) + 1), p1.Who, p1.What, p1.Code, p1.Key⟩ : Lin)] : (List Lin))).length) <| some (((p0.L ++ ([(⟨IntKind.u64.wrap ((IntKind.u64.wrap (p0.Dropped + (IntKind.u64.wrap ((p0.L.length : Int))))) + 1), p1.Who, p1.What, p1.Code, p1.Key⟩ : Lin)] : (List Lin))).take 0 ++ (p0.L ++ ([(⟨IntKind.u64.wrap ((IntKind.u64.wrap (p0.Dropped + (IntKind.u64.wrap ((p0.L.length : Int))))) + 1), p1.Who, p1.What, p1.Code, p1.Key⟩ : Lin)] : (List Lin))).drop 1), IntKind.u64.wrap (p0.Dropped + 1))) (some ((p0.L ++ ([(⟨IntKind.u64.wrap ((IntKind.u64.wrap (p0.Dropped + (IntKind.u64.wrap ((p0.L.length : Int))))) + 1), p1.Who, p1.What, p1.Code, p1.Key⟩ : Lin)] : (List Lin))), p0.Dropped))) fun z_3 => some ((⟨z_3.2, z_3.1⟩ : Lgr), none)))
set_option maxRecDepth 100000 in
set_option maxHeartbeats 2000000 in
theorem c_ladd {fl : Nat} {p0 : Lgr} {p1 : Lin} {R : Lgr × (Option Int)} (h0 : F_ladd fl p0 p1 = some R) : Pure Go.Proofs.Tryd.prog 35 [agg [pl (.int .u64 p0.Dropped), sl kLin none none p0.L], agg [pl (.int .u64 p1.Seq), pl (.int .u64 p1.Who), pl (.int .u8 p1.What), pl (.int .u16 p1.Code), pl (.string p1.Key)]] (tup [agg [pl (.int .u64 R.1.Dropped), sl kLin none none R.1.L], pl (errV R.2)]) := by
  intro s
  unfold F_ladd at h0
  refine ac_of_aw s.boxes.length s.fr.length Go.Proofs.Tryd.func35 rfl (by simp [Go.Proofs.Tryd.ntmps35]) ?_
  refine aw_ext0 ?_
  refine aw_keep [(0, _), (1, _)] ⟨lg ez, lg (es ez), trivial⟩ ?_
  refine aw_seq ?_
  refine aw_region (by decide) ?_
  refine rts _ rfl (boxAN rfl oz (bnd_cons (pl_bnd _ _ _) (bnd_cons (sl_b kb_Lin) bnd_nil)) (by first | exact List.length_nil | (simp only [List.length_cons, List.length_nil, Nat.zero_add, Nat.reduceAdd] <;> rfl)) (by simp only [na, nb, nc, nd, nf, ng, nh, ni, nj, nk] <;> rfl)) ?_
  refine rts _ rfl (boxAN rfl (ls rfl (os rfl oz)) (bnd_cons (pl_bnd _ _ _) (bnd_cons (pl_bnd _ _ _) (bnd_cons (pl_bnd _ _ _) (bnd_cons (pl_bnd _ _ _) (bnd_cons (pl_bnd _ _ _) bnd_nil))))) (by first | exact List.length_nil | (simp only [List.length_cons, List.length_nil, Nat.zero_add, Nat.reduceAdd] <;> rfl)) (by simp only [na, nb, nc, nd, nf, ng, nh, ni, nj, nk] <;> rfl)) ?_
  refine rts _ rfl (allocN rfl zt57_U9 (by first | exact List.length_nil | (simp only [List.length_cons, List.length_nil, Nat.zero_add, Nat.reduceAdd] <;> rfl)) (by simp only [na, nb, nc, nd, nf, ng, nh, ni, nj, nk] <;> rfl)) ?_
  refine rts _ rfl (opD_assign (ev_const _ _)) ?_
  refine .nil ?_
  refine aw_keep [(2, _), (3, _), (4, _)] ⟨lg (ls rfl (ls rfl (ls rfl lz))), lg (ls rfl (ls rfl lz)), lg (ls rfl lz), trivial⟩ ?_
  refine aw_seq ?_
  refine aw_seq ?_
  refine aw_region (by decide) ?_
  refine rts _ rfl (opD_load_aggX (qs := [_, _]) ag57_U9 sz57_U9 oz (loc_getN rfl rfl) (Nat.le_of_ble_eq_true rfl) rfl) ?_
  replace h0 := bnd_some h0
  obtain ⟨x_1, hx_1, h0⟩ := h0
  refine rts _ rfl (opD_pure ht47_U9 (c_lcheck hx_1) ⟨(le_of_eq lz).trans (agg_le ⟨(Pd.le_refl _), (Pd.le_refl _), trivial⟩), trivial⟩) ?_
  refine rts _ rfl (opD_bin lz (ev_const _ _) (fun w => errV_guard _ w _) (fun w => errV_beq _ w)) ?_
  refine rts _ rfl (opD_move lz) ?_
  refine rtg _ rfl lz (fun hg1_4_1 => opD_load_aggX (qs := [_, _, _, _, _]) ag63_U9 sz63_U9 (ls rfl (ls rfl (ls rfl (ls rfl (os rfl oz))))) (loc_getN rfl rfl) (Nat.le_of_ble_eq_true rfl) rfl) ?_
  replace h0 := bnd_some h0
  obtain ⟨x_2, hx_2, h0⟩ := h0
  refine rtg _ rfl (ls rfl lz) (fun hg1_5_2 => opD_pure ht92_U9 (c_lmay (gif_some hx_2 hg1_5_2)) ⟨(le_of_eq (lz.trans (pif_pos hg1_5_2))).trans (agg_le ⟨(Pd.le_refl _), (Pd.le_refl _), (Pd.le_refl _), (Pd.le_refl _), (Pd.le_refl _), trivial⟩), trivial⟩) ?_
  refine rtg _ rfl (ls rfl (ls rfl lz)) (fun hg1_6_3 => opD_not (lz.trans (pif_pos hg1_6_3))) ?_
  refine rts _ rfl (opD_or (ls rfl (ls rfl (ls rfl lz))) lz) ?_
  refine .nil ?_
  refine aw_keep [(2, _), (3, _), (4, _), (14, _)] ⟨lg (ls rfl (ls rfl (ls rfl (ls rfl (ls rfl (ls rfl (ls rfl (ls rfl oz)))))))), lg (ls rfl (ls rfl (ls rfl (ls rfl (ls rfl (ls rfl (ls rfl (ls rfl (os rfl oz))))))))), lg (ls rfl (ls rfl (ls rfl (ls rfl (ls rfl (ls rfl (ls rfl (ls rfl (os rfl (os rfl oz)))))))))), lg lz, trivial⟩ ?_
  refine aw_cond _ (os rfl (os rfl (os rfl oz))) (fun hc => ?_) (fun hc => ?_)
  · skip
    replace h0 := ifb_t h0 hc
    clear hc
    refine aw_seq ?_
    refine aw_region (by decide) ?_
    refine rts _ rfl (opD_build_struct (rs := [_, _]) Go.Proofs.Tryd.underlying57 pt57_U9 zt57_U9 parts_nil rfl) ?_
    refine rts _ rfl (opD_ple (q := pl (errV (some 1))) rfl (opD_makeInterface_pl cc107_U9 (ev_const _ _))) ?_
    refine rts _ rfl (storeAN rfl sz57_U9 (ls rfl (ls rfl (os rfl (os rfl oz)))) (ls rfl lz) (ones_cons (one_pl rfl) (ones_cons (one_pl rfl) ones_nil)) rfl rfl (Nat.le_of_ble_eq_true rfl) (List.cons_ne_nil _ _) (bnd_cons (pl_bnd _ _ _) (bnd_cons (pl_bnd _ _ _) bnd_nil)) (by simp only [na, nb, nc, nd, nf, ng, nh, ni, nj, nk] <;> rfl) (by simp only [na, nb, nc, nd, nf, ng, nh, ni, nj, nk] <;> rfl)) ?_
    refine rts _ rfl (opD_assign (lx lz)) ?_
    refine .nil ?_
    refine aw_keep [(4, _), (5, _)] ⟨lg (ls rfl (lx (ls rfl (ls rfl (os rfl (os rfl oz)))))), lg lz, trivial⟩ ?_
    refine aw_ret ?_
    obtain rfl := some_of h0
    exact done_ext (.inr rfl) ((res_list (rs := [_, _]) (ps := [_, _]) rfl rfl ⟨it_cellA (B := ⟨57, [_, _]⟩) ag57_U9 sz57_U9 oz (loc_getN rfl rfl) rfl, it_tmp (os rfl oz), trivial⟩).le (tup_le ⟨(agg_le ⟨(Pd.le_refl _), (le_nil rfl), trivial⟩), (Pd.le_refl _), trivial⟩)) (tup_bnd (bnd_cons (agg_bnd (bnd_cons (pl_bnd _ _ _) (bnd_cons (sl_b kb_Lin) bnd_nil))) (bnd_cons (pl_bnd _ _ _) bnd_nil)))
  · skip
    replace h0 := ifb_f h0 hc
    clear hc
    refine aw_skip ?_
    refine aw_keep [(2, _), (3, _), (4, _)] ⟨lg oz, lg (os rfl oz), lg (os rfl (os rfl oz)), trivial⟩ ?_
    refine aw_seq ?_
    refine aw_seq ?_
    refine aw_region (by decide) ?_
    refine rts _ rfl (opD_fieldAddr fo57_0_U9 oz) ?_
    refine rts _ rfl (opD_load_one ag22_U9 lz (loc_getN rfl rfl) rfl) ?_
    refine rts _ rfl (opD_eql lz (ev_const _ _)) ?_
    refine .nil ?_
    refine aw_keep [(2, _), (3, _), (4, _), (19, _)] ⟨lg (ls rfl (ls rfl (ls rfl oz))), lg (ls rfl (ls rfl (ls rfl (os rfl oz)))), lg (ls rfl (ls rfl (ls rfl (os rfl (os rfl oz))))), lg lz, trivial⟩ ?_
    refine aw_cond _ (os rfl (os rfl (os rfl oz))) (fun hc => ?_) (fun hc => ?_)
    · skip
      replace h0 := ifb_t h0 hc
      clear hc
      refine aw_seq ?_
      refine aw_region (by decide) ?_
      refine rts _ rfl (opD_build_struct (rs := [_, _]) Go.Proofs.Tryd.underlying57 pt57_U9 zt57_U9 parts_nil rfl) ?_
      refine rts _ rfl (opD_ple (q := pl (errV (some 7))) rfl (opD_makeInterface_pl cc107_U9 (ev_const _ _))) ?_
      refine rts _ rfl (storeAN rfl sz57_U9 (ls rfl (ls rfl (os rfl (os rfl oz)))) (ls rfl lz) (ones_cons (one_pl rfl) (ones_cons (one_pl rfl) ones_nil)) rfl rfl (Nat.le_of_ble_eq_true rfl) (List.cons_ne_nil _ _) (bnd_cons (pl_bnd _ _ _) (bnd_cons (pl_bnd _ _ _) bnd_nil)) (by simp only [na, nb, nc, nd, nf, ng, nh, ni, nj, nk] <;> rfl) (by simp only [na, nb, nc, nd, nf, ng, nh, ni, nj, nk] <;> rfl)) ?_
      refine rts _ rfl (opD_assign (lx lz)) ?_
      refine .nil ?_
      refine aw_keep [(4, _), (5, _)] ⟨lg (ls rfl (lx (ls rfl (ls rfl (os rfl (os rfl oz)))))), lg lz, trivial⟩ ?_
      refine aw_ret ?_
      obtain rfl := some_of h0
      exact done_ext (.inr rfl) ((res_list (rs := [_, _]) (ps := [_, _]) rfl rfl ⟨it_cellA (B := ⟨57, [_, _]⟩) ag57_U9 sz57_U9 oz (loc_getN rfl rfl) rfl, it_tmp (os rfl oz), trivial⟩).le (tup_le ⟨(agg_le ⟨(Pd.le_refl _), (le_nil rfl), trivial⟩), (Pd.le_refl _), trivial⟩)) (tup_bnd (bnd_cons (agg_bnd (bnd_cons (pl_bnd _ _ _) (bnd_cons (sl_b kb_Lin) bnd_nil))) (bnd_cons (pl_bnd _ _ _) bnd_nil)))
    · skip
      replace h0 := ifb_f h0 hc
      clear hc
      refine aw_skip ?_
      refine aw_keep [(2, _), (3, _), (4, _)] ⟨lg oz, lg (os rfl oz), lg (os rfl (os rfl oz)), trivial⟩ ?_
      refine aw_seq ?_
      refine aw_region (by decide) ?_
      refine rts _ rfl (opD_fieldAddr fo57_0_U9 oz) ?_
      refine rts _ rfl (opD_load_one ag22_U9 lz (loc_getN rfl rfl) rfl) ?_
      refine rts _ rfl (opD_fieldAddr fo57_1_U9 (ls rfl (ls rfl oz))) ?_
      refine rts _ rfl (opD_load_one ag55_U9 lz (loc_getN rfl rfl) rfl) ?_
      refine rts _ rfl (opD_len_sl Go.Proofs.Tryd.underlying55 lz) ?_
      refine rts _ rfl (opD_conv_int Go.Proofs.Tryd.underlying3 Go.Proofs.Tryd.underlying22 lz rfl) ?_
      refine rts _ rfl (opD_add (ls rfl (ls rfl (ls rfl (ls rfl lz)))) lz rfl) ?_
      refine rts _ rfl (opD_add lz (ev_const _ _) rfl) ?_
      refine rts _ rfl (opD_fieldAddr fo63_0_U9 (ls rfl (ls rfl (ls rfl (ls rfl (ls rfl (ls rfl (ls rfl (ls rfl (os rfl oz)))))))))) ?_
      refine rts _ rfl (storeON rfl sz22_U9 lz (le_of_eq (ls rfl lz)) (one_pl rfl) rfl (Nat.le_of_ble_eq_true rfl) (pl_bnd _ _ _) (by simp only [na, nb, nc, nd, nf, ng, nh, ni, nj, nk] <;> rfl) (by simp only [na, nb, nc, nd, nf, ng, nh, ni, nj, nk] <;> rfl)) ?_
      refine .nil ?_
      refine aw_keep [(2, _), (3, _), (4, _)] ⟨lg (lx (ls rfl (ls rfl (ls rfl (ls rfl (ls rfl (ls rfl (ls rfl (ls rfl (ls rfl oz)))))))))), lg (lx (ls rfl (ls rfl (ls rfl (ls rfl (ls rfl (ls rfl (ls rfl (ls rfl (ls rfl (os rfl oz))))))))))), lg (lx (ls rfl (ls rfl (ls rfl (ls rfl (ls rfl (ls rfl (ls rfl (ls rfl (ls rfl (os rfl (os rfl oz)))))))))))), trivial⟩ ?_
      refine aw_seq ?_
      replace h0 := grd_some h0
      obtain ⟨hg_6, h0⟩ := h0
      replace h0 := grd_some h0
      obtain ⟨hg_7, h0⟩ := h0
      refine aw_mid (fun e st => (Holds e [(4, ptr (s.boxes.length + 2) 0), (6, ptr (s.boxes.length + 4) 0)] ∧ st = s.ext [⟨57, [pl (.int .u64 p0.Dropped), sl kLin none none p0.L]⟩, ⟨63, [pl (.int .u64 (IntKind.u64.wrap ((IntKind.u64.wrap (p0.Dropped + (IntKind.u64.wrap ((p0.L.length : Int))))) + 1))), pl (.int .u64 p1.Who), pl (.int .u8 p1.What), pl (.int .u16 p1.Code), pl (.string p1.Key)]⟩, ⟨57, [pl (.int .u64 0), pl (.slice none 0 0)]⟩, ⟨(hot 63 6), (flat kLin (p0.L ++ ([(⟨IntKind.u64.wrap ((IntKind.u64.wrap (p0.Dropped + (IntKind.u64.wrap ((p0.L.length : Int))))) + 1), p1.Who, p1.What, p1.Code, p1.Key⟩ : Lin)] : (List Lin))))⟩, ⟨57, [pl (.int .u64 p0.Dropped), hsl (s.boxes.length + 3) 6 0 (p0.L ++ ([(⟨IntKind.u64.wrap ((IntKind.u64.wrap (p0.Dropped + (IntKind.u64.wrap ((p0.L.length : Int))))) + 1), p1.Who, p1.What, p1.Code, p1.Key⟩ : Lin)] : (List Lin))).length kLin.sz]⟩] []) ∨ (Holds e [(4, ptr (s.boxes.length + 2) 0), (6, ptr (s.boxes.length + 3) 0)] ∧ st = s.ext [⟨57, [pl (.int .u64 p0.Dropped), sl kLin none none p0.L]⟩, ⟨63, [pl (.int .u64 (IntKind.u64.wrap ((IntKind.u64.wrap (p0.Dropped + (IntKind.u64.wrap ((p0.L.length : Int))))) + 1))), pl (.int .u64 p1.Who), pl (.int .u8 p1.What), pl (.int .u16 p1.Code), pl (.string p1.Key)]⟩, ⟨57, [pl (.int .u64 0), pl (.slice none 0 0)]⟩, ⟨57, [pl (.int .u64 p0.Dropped), hsl (s.boxes.length + 4) 6 0 (p0.L ++ ([(⟨IntKind.u64.wrap ((IntKind.u64.wrap (p0.Dropped + (IntKind.u64.wrap ((p0.L.length : Int))))) + 1), p1.Who, p1.What, p1.Code, p1.Key⟩ : Lin)] : (List Lin))).length kLin.sz]⟩, ⟨(hot 63 6), (flat kLin (p0.L ++ ([(⟨IntKind.u64.wrap ((IntKind.u64.wrap (p0.Dropped + (IntKind.u64.wrap ((p0.L.length : Int))))) + 1), p1.Who, p1.What, p1.Code, p1.Key⟩ : Lin)] : (List Lin))))⟩] [])) ?_ ?_
      · skip
        refine aw_of_ay mixed_U9 ?_
        refine ay_split 4 9 rfl ?_ ?_
        · skip
          refine ay_split 7 9 rfl ?_ ?_
          · skip
            refine ay_drawn [false, false, false, false, true, false, false, true, false, true, true] [[0, 1, 2, 3], [0, 1, 2, 3], [0], [0], [0, 1], [0, 1], [0, 1], [1, 2], [2, 3], [2, 3], [3, 4]] (by decide +kernel) ?_
            refine dtp _ rfl (fun s => opD_fieldAddr fo57_0_U9 oz) ?_
            refine dtlG1 ag22_U9 lz (loc_getN rfl rfl) rfl rfl ?_
            refine dtp _ rfl (fun s => opD_fieldAddr fo57_1_U9 (ls rfl (ls rfl oz))) ?_
            refine dtlG1 ag55_U9 lz (loc_getN rfl rfl) rfl rfl ?_
            refine dta _ rfl (callNH rfl ht93_U9 (clh hg_6.1 hg_6.2) ⟨le_of_eq lz, trivial⟩ (by first | exact List.length_nil | (simp only [List.length_cons, List.length_nil, Nat.zero_add, Nat.reduceAdd] <;> rfl)) (by simp only [na, nb, nc, nd, nf, ng, nh, ni, nj, nk] <;> rfl)) ?_
            refine dtlGA (qs := [_, _, _, _, _]) ag63_U9 sz63_U9 (ls rfl (ls rfl (ls rfl (ls rfl (ls rfl (os rfl oz)))))) (loc_getN rfl rfl) (Nat.le_of_ble_eq_true rfl) rfl rfl ?_
            refine dtp _ rfl (fun s => opD_buildSlice (k := kLin) ([(⟨IntKind.u64.wrap ((IntKind.u64.wrap (p0.Dropped + (IntKind.u64.wrap ((p0.L.length : Int))))) + 1), p1.Who, p1.What, p1.Code, p1.Key⟩ : Lin)] : (List Lin)) Go.Proofs.Tryd.underlying55 sz63_U9 zt63_U9 (by decide) rfl (parts_cons (cellsA lz) parts_nil) rfl rfl) ?_
            refine dta _ rfl (appendHN (k := kLin) rfl Go.Proofs.Tryd.underlying55 el63_U9 rfl (by decide) rfl (ls rfl (ls rfl lz)) lz rfl kb_Lin hg_7.1 hg_7.2 (by simp only [na, nb, nc, nd, nf, ng, nh, ni, nj, nk] <;> rfl)) ?_
            refine dtp _ rfl (fun s => opD_build_struct (rs := [_, _]) Go.Proofs.Tryd.underlying57 pt57_U9 zt57_U9 (parts_cons (cells1 (ls rfl (ls rfl (ls rfl (ls rfl (ls rfl (ls rfl lz)))))) (one_pl rfl)) (parts_cons (cells1 lz (one_hsl _ _ _ _ _)) parts_nil)) rfl) ?_
            refine dta _ rfl (allocN rfl zt57_U9 (by first | exact List.length_nil | (simp only [List.length_cons, List.length_nil, Nat.zero_add, Nat.reduceAdd] <;> rfl)) (by simp only [na, nb, nc, nd, nf, ng, nh, ni, nj, nk] <;> rfl)) ?_
            refine dta _ rfl (storeAN rfl sz57_U9 lz (ls rfl lz) (ones_cons (one_pl rfl) (ones_cons (one_hsl _ _ _ _ _) ones_nil)) rfl rfl (Nat.le_of_ble_eq_true rfl) (List.cons_ne_nil _ _) (bnd_cons (pl_bnd _ _ _) (bnd_cons (hsl_bnd _ (by first | omega | (simp only [List.length_append, List.length_cons, List.length_nil]; omega))) bnd_nil)) (by simp only [na, nb, nc, nd, nf, ng, nh, ni, nj, nk] <;> rfl) (by simp only [na, nb, nc, nd, nf, ng, nh, ni, nj, nk] <;> rfl)) ?_
            refine .nil ?_
            dsimp only [List.nil_append, List.cons_append]
            refine ⟨rfl, ⟨trivial, ⟨(by first | exact loc_getN rfl rfl | exact updx_get hlt | exact upd2_g hgh hlt | exact upd2_h hlt2), (by first | exact loc_getN rfl rfl | exact updx_get hlt | exact upd2_g hgh hlt | exact upd2_h hlt2), (by first | exact loc_getN rfl rfl | exact updx_get hlt | exact upd2_g hgh hlt | exact upd2_h hlt2), (by first | exact loc_getN rfl rfl | exact updx_get hlt | exact upd2_g hgh hlt | exact upd2_h hlt2), trivial⟩, trivial, ⟨(by first | exact loc_getN rfl rfl | exact updx_get hlt | exact upd2_g hgh hlt | exact upd2_h hlt2), trivial⟩, trivial, ⟨(by first | exact loc_getN rfl rfl | exact updx_get hlt | exact upd2_g hgh hlt | exact upd2_h hlt2), (by first | exact loc_getN rfl rfl | exact updx_get hlt | exact upd2_g hgh hlt | exact upd2_h hlt2), trivial⟩, trivial, trivial, trivial, trivial, trivial, trivial⟩, ?_⟩
            exact .inl ⟨⟨le_of_eq (eg (lx (ls rfl (ls rfl (ls rfl (ls rfl (ls rfl (ls rfl (ls rfl (ls rfl (ls rfl (ls rfl (os rfl (os rfl oz)))))))))))))), le_of_eq (eg (lx lz)), trivial⟩, rfl⟩
          · skip
            refine ay_swap 8 rfl ?_
            refine ay_swap 7 rfl ?_
            refine ay_drawn [false, false, false, false, true, false, false, true, true, false, true] [[0, 1, 2, 3], [0, 1, 2, 3], [0], [0], [0, 1], [0, 1, 2], [0, 1, 2], [1, 2], [2, 3], [3], [3, 4]] (by decide +kernel) ?_
            refine dtp _ rfl (fun s => opD_fieldAddr fo57_0_U9 oz) ?_
            refine dtlG1 ag22_U9 lz (loc_getN rfl rfl) rfl rfl ?_
            refine dtp _ rfl (fun s => opD_fieldAddr fo57_1_U9 (ls rfl (ls rfl oz))) ?_
            refine dtlG1 ag55_U9 lz (loc_getN rfl rfl) rfl rfl ?_
            refine dta _ rfl (callNH rfl ht93_U9 (clh hg_6.1 hg_6.2) ⟨le_of_eq lz, trivial⟩ (by first | exact List.length_nil | (simp only [List.length_cons, List.length_nil, Nat.zero_add, Nat.reduceAdd] <;> rfl)) (by simp only [na, nb, nc, nd, nf, ng, nh, ni, nj, nk] <;> rfl)) ?_
            refine dtlGA (qs := [_, _, _, _, _]) ag63_U9 sz63_U9 (ls rfl (ls rfl (ls rfl (ls rfl (ls rfl (os rfl oz)))))) (loc_getN rfl rfl) (Nat.le_of_ble_eq_true rfl) rfl rfl ?_
            refine dtp _ rfl (fun s => opD_buildSlice (k := kLin) ([(⟨IntKind.u64.wrap ((IntKind.u64.wrap (p0.Dropped + (IntKind.u64.wrap ((p0.L.length : Int))))) + 1), p1.Who, p1.What, p1.Code, p1.Key⟩ : Lin)] : (List Lin)) Go.Proofs.Tryd.underlying55 sz63_U9 zt63_U9 (by decide) rfl (parts_cons (cellsA lz) parts_nil) rfl rfl) ?_
            refine dta _ rfl (allocN rfl zt57_U9 (by first | exact List.length_nil | (simp only [List.length_cons, List.length_nil, Nat.zero_add, Nat.reduceAdd] <;> rfl)) (by simp only [na, nb, nc, nd, nf, ng, nh, ni, nj, nk] <;> rfl)) ?_
            refine dta _ rfl (appendHN (k := kLin) rfl Go.Proofs.Tryd.underlying55 el63_U9 rfl (by decide) rfl (ls rfl (ls rfl (ls rfl lz))) (ls rfl lz) rfl kb_Lin hg_7.1 hg_7.2 (by simp only [na, nb, nc, nd, nf, ng, nh, ni, nj, nk] <;> rfl)) ?_
            refine dtp _ rfl (fun s => opD_build_struct (rs := [_, _]) Go.Proofs.Tryd.underlying57 pt57_U9 zt57_U9 (parts_cons (cells1 (ls rfl (ls rfl (ls rfl (ls rfl (ls rfl (ls rfl (ls rfl lz))))))) (one_pl rfl)) (parts_cons (cells1 lz (one_hsl _ _ _ _ _)) parts_nil)) rfl) ?_
            refine dta _ rfl (storeAN rfl sz57_U9 (ls rfl (ls rfl lz)) lz (ones_cons (one_pl rfl) (ones_cons (one_hsl _ _ _ _ _) ones_nil)) rfl rfl (Nat.le_of_ble_eq_true rfl) (List.cons_ne_nil _ _) (bnd_cons (pl_bnd _ _ _) (bnd_cons (hsl_bnd _ (by first | omega | (simp only [List.length_append, List.length_cons, List.length_nil]; omega))) bnd_nil)) (by simp only [na, nb, nc, nd, nf, ng, nh, ni, nj, nk] <;> rfl) (by simp only [na, nb, nc, nd, nf, ng, nh, ni, nj, nk] <;> rfl)) ?_
            refine .nil ?_
            dsimp only [List.nil_append, List.cons_append]
            refine ⟨rfl, ⟨trivial, ⟨(by first | exact loc_getN rfl rfl | exact updx_get hlt | exact upd2_g hgh hlt | exact upd2_h hlt2), (by first | exact loc_getN rfl rfl | exact updx_get hlt | exact upd2_g hgh hlt | exact upd2_h hlt2), (by first | exact loc_getN rfl rfl | exact updx_get hlt | exact upd2_g hgh hlt | exact upd2_h hlt2), (by first | exact loc_getN rfl rfl | exact updx_get hlt | exact upd2_g hgh hlt | exact upd2_h hlt2), trivial⟩, trivial, ⟨(by first | exact loc_getN rfl rfl | exact updx_get hlt | exact upd2_g hgh hlt | exact upd2_h hlt2), trivial⟩, trivial, ⟨(by first | exact loc_getN rfl rfl | exact updx_get hlt | exact upd2_g hgh hlt | exact upd2_h hlt2), (by first | exact loc_getN rfl rfl | exact updx_get hlt | exact upd2_g hgh hlt | exact upd2_h hlt2), (by first | exact loc_getN rfl rfl | exact updx_get hlt | exact upd2_g hgh hlt | exact upd2_h hlt2), trivial⟩, trivial, trivial, trivial, trivial, trivial, trivial⟩, ?_⟩
            exact .inl ⟨⟨le_of_eq (eg (lx (ls rfl (ls rfl (ls rfl (ls rfl (ls rfl (ls rfl (ls rfl (ls rfl (ls rfl (ls rfl (os rfl (os rfl oz)))))))))))))), le_of_eq (eg (lx (ls rfl (ls rfl lz)))), trivial⟩, rfl⟩
        · skip
          refine ay_swap 4 rfl ?_
          refine ay_swap 5 rfl ?_
          refine ay_swap 8 rfl ?_
          refine ay_swap 7 rfl ?_
          refine ay_swap 6 rfl ?_
          refine ay_drawn [false, false, false, false, false, false, true, true, true, false, true] [[0, 1, 2, 3], [0, 1, 2, 3], [0, 1], [0, 1], [0, 1, 2], [0, 1, 2], [0, 1], [1, 2], [2, 3], [3], [3, 4]] (by decide +kernel) ?_
          refine dtp _ rfl (fun s => opD_fieldAddr fo57_0_U9 oz) ?_
          refine dtlG1 ag22_U9 lz (loc_getN rfl rfl) rfl rfl ?_
          refine dtp _ rfl (fun s => opD_fieldAddr fo57_1_U9 (ls rfl (ls rfl oz))) ?_
          refine dtlG1 ag55_U9 lz (loc_getN rfl rfl) rfl rfl ?_
          refine dtlGA (qs := [_, _, _, _, _]) ag63_U9 sz63_U9 (ls rfl (ls rfl (ls rfl (ls rfl (os rfl oz))))) (loc_getN rfl rfl) (Nat.le_of_ble_eq_true rfl) rfl rfl ?_
          refine dtp _ rfl (fun s => opD_buildSlice (k := kLin) ([(⟨IntKind.u64.wrap ((IntKind.u64.wrap (p0.Dropped + (IntKind.u64.wrap ((p0.L.length : Int))))) + 1), p1.Who, p1.What, p1.Code, p1.Key⟩ : Lin)] : (List Lin)) Go.Proofs.Tryd.underlying55 sz63_U9 zt63_U9 (by decide) rfl (parts_cons (cellsA lz) parts_nil) rfl rfl) ?_
          refine dta _ rfl (allocN rfl zt57_U9 (by first | exact List.length_nil | (simp only [List.length_cons, List.length_nil, Nat.zero_add, Nat.reduceAdd] <;> rfl)) (by simp only [na, nb, nc, nd, nf, ng, nh, ni, nj, nk] <;> rfl)) ?_
          refine dta _ rfl (callNH rfl ht93_U9 (clh hg_6.1 hg_6.2) ⟨le_of_eq (ls rfl (ls rfl (ls rfl lz))), trivial⟩ (by first | exact List.length_nil | (simp only [List.length_cons, List.length_nil, Nat.zero_add, Nat.reduceAdd] <;> rfl)) (by simp only [na, nb, nc, nd, nf, ng, nh, ni, nj, nk] <;> rfl)) ?_
          refine dta _ rfl (appendHN (k := kLin) rfl Go.Proofs.Tryd.underlying55 el63_U9 rfl (by decide) rfl lz (ls rfl (ls rfl lz)) rfl kb_Lin hg_7.1 hg_7.2 (by simp only [na, nb, nc, nd, nf, ng, nh, ni, nj, nk] <;> rfl)) ?_
          refine dtp _ rfl (fun s => opD_build_struct (rs := [_, _]) Go.Proofs.Tryd.underlying57 pt57_U9 zt57_U9 (parts_cons (cells1 (ls rfl (ls rfl (ls rfl (ls rfl (ls rfl (ls rfl (ls rfl lz))))))) (one_pl rfl)) (parts_cons (cells1 lz (one_hsl _ _ _ _ _)) parts_nil)) rfl) ?_
          refine dta _ rfl (storeAN rfl sz57_U9 (ls rfl (ls rfl (ls rfl lz))) lz (ones_cons (one_pl rfl) (ones_cons (one_hsl _ _ _ _ _) ones_nil)) rfl rfl (Nat.le_of_ble_eq_true rfl) (List.cons_ne_nil _ _) (bnd_cons (pl_bnd _ _ _) (bnd_cons (hsl_bnd _ (by first | omega | (simp only [List.length_append, List.length_cons, List.length_nil]; omega))) bnd_nil)) (by simp only [na, nb, nc, nd, nf, ng, nh, ni, nj, nk] <;> rfl) (by simp only [na, nb, nc, nd, nf, ng, nh, ni, nj, nk] <;> rfl)) ?_
          refine .nil ?_
          dsimp only [List.nil_append, List.cons_append]
          refine ⟨rfl, ⟨trivial, ⟨(by first | exact loc_getN rfl rfl | exact updx_get hlt | exact upd2_g hgh hlt | exact upd2_h hlt2), (by first | exact loc_getN rfl rfl | exact updx_get hlt | exact upd2_g hgh hlt | exact upd2_h hlt2), (by first | exact loc_getN rfl rfl | exact updx_get hlt | exact upd2_g hgh hlt | exact upd2_h hlt2), (by first | exact loc_getN rfl rfl | exact updx_get hlt | exact upd2_g hgh hlt | exact upd2_h hlt2), trivial⟩, trivial, ⟨(by first | exact loc_getN rfl rfl | exact updx_get hlt | exact upd2_g hgh hlt | exact upd2_h hlt2), (by first | exact loc_getN rfl rfl | exact updx_get hlt | exact upd2_g hgh hlt | exact upd2_h hlt2), trivial⟩, ⟨(by first | exact loc_getN rfl rfl | exact updx_get hlt | exact upd2_g hgh hlt | exact upd2_h hlt2), (by first | exact loc_getN rfl rfl | exact updx_get hlt | exact upd2_g hgh hlt | exact upd2_h hlt2), (by first | exact loc_getN rfl rfl | exact updx_get hlt | exact upd2_g hgh hlt | exact upd2_h hlt2), trivial⟩, trivial, trivial, trivial, trivial, trivial, trivial, trivial⟩, ?_⟩
          exact (.inr ⟨⟨le_of_eq (eg (lx (ls rfl (ls rfl (ls rfl (ls rfl (ls rfl (ls rfl (ls rfl (ls rfl (ls rfl (ls rfl (os rfl (os rfl oz)))))))))))))), le_of_eq (eg (lx (ls rfl (ls rfl (ls rfl lz))))), trivial⟩, rfl⟩)
      · rintro e st (⟨hH, rfl⟩ | ⟨hH, rfl⟩)
        · skip
          refine aw_keep _ hH ?_
          refine aw_keep [(4, _), (6, _)] ⟨lg oz, lg (os rfl oz), trivial⟩ ?_
          refine aw_seq ?_
          refine aw_seq ?_
          refine aw_region (by decide) ?_
          refine rts _ rfl (opD_fieldAddr fo57_1_U9 (os rfl oz)) ?_
          refine rts _ rfl (opD_load_one ag55_U9 lz (loc_getN rfl rfl) rfl) ?_
          refine rts _ rfl (opD_len_h Go.Proofs.Tryd.underlying55 lz) ?_
          refine rts _ rfl (opD_gtr lz (ev_const _ _)) ?_
          refine .nil ?_
          refine aw_keep [(4, _), (6, _), (43, _)] ⟨lg (ls rfl (ls rfl (ls rfl (ls rfl oz)))), lg (ls rfl (ls rfl (ls rfl (ls rfl (os rfl oz))))), lg lz, trivial⟩ ?_
          replace h0 := bnd_some h0
          obtain ⟨z_3, hz_3, h0⟩ := h0
          refine aw_mid (fun e st => ∃ v : (List Lin) × Int, Holds e [(4, ptr (s.boxes.length + 2) 0), (6, ptr (s.boxes.length + 4) 0)] ∧ st = s.ext [⟨57, [pl (.int .u64 p0.Dropped), sl kLin none none p0.L]⟩, ⟨63, [pl (.int .u64 (IntKind.u64.wrap ((IntKind.u64.wrap (p0.Dropped + (IntKind.u64.wrap ((p0.L.length : Int))))) + 1))), pl (.int .u64 p1.Who), pl (.int .u8 p1.What), pl (.int .u16 p1.Code), pl (.string p1.Key)]⟩, ⟨57, [pl (.int .u64 0), pl (.slice none 0 0)]⟩, ⟨(hot 63 6), (flat kLin v.1)⟩, ⟨57, [pl (.int .u64 v.2), hsl (s.boxes.length + 3) 6 0 v.1.length kLin.sz]⟩] [] ∧ v = z_3) ?_ ?_
          · skip
            refine aw_wkN rfl 5 0 rfl rfl ?_
            refine aw_cond _ (os rfl (os rfl oz)) (fun hc => ?_) (fun hc => ?_)
            · skip
              replace hz_3 := ifb_t hz_3 hc
              clear hc
              refine aw_seq ?_
              refine aw_region (by decide) ?_
              refine rts _ rfl (opD_fieldAddr fo57_0_U9 (os rfl oz)) ?_
              refine rts _ rfl (opD_load_one ag22_U9 lz (loc_getN rfl rfl) rfl) ?_
              refine rts _ rfl (opD_add lz (ev_const _ _) rfl) ?_
              refine rts _ rfl (opD_fieldAddr fo57_0_U9 (ls rfl (ls rfl (ls rfl (os rfl oz))))) ?_
              refine rts _ rfl (storeON rfl sz22_U9 lz (le_of_eq (ls rfl lz)) (one_pl rfl) rfl (Nat.le_of_ble_eq_true rfl) (pl_bnd _ _ _) (by simp only [na, nb, nc, nd, nf, ng, nh, ni, nj, nk] <;> rfl) (by simp only [na, nb, nc, nd, nf, ng, nh, ni, nj, nk] <;> rfl)) ?_
              refine .nil ?_
              refine aw_keep [(4, _), (6, _)] ⟨lg (lx (ls rfl (ls rfl (ls rfl (ls rfl oz))))), lg (lx (ls rfl (ls rfl (ls rfl (ls rfl (os rfl oz)))))), trivial⟩ ?_
              refine aw_region (by decide) ?_
              refine rts _ rfl (opD_fieldAddr fo57_1_U9 (os rfl oz)) ?_
              refine rts _ rfl (opD_load_one ag55_U9 lz (loc_getN rfl rfl) rfl) ?_
              replace hz_3 := grd_some hz_3
              obtain ⟨hg_9, hz_3⟩ := hz_3
              refine rts _ rfl (callHH rfl ht94_U9 (fun s g h => delh (i := 0) (j := 1) (by decide) hg_9 (by decide) rfl h) rfl ⟨le_of_eq lz, le_of_eq (ev_const _ _), le_of_eq (ev_const _ _), trivial⟩ (by simp only [na, nb, nc, nd, nf, ng, nh, ni, nj, nk] <;> rfl)) ?_
              refine rts _ rfl (opD_fieldAddr fo57_1_U9 (ls rfl (ls rfl (ls rfl (os rfl oz))))) ?_
              refine rts _ rfl (storeON rfl sz55_U9 lz (le_of_eq (ls rfl lz)) (one_hsl _ _ _ _ _) rfl (Nat.le_of_ble_eq_true rfl) (hsl_bnd _ (by first | omega | (simp only [List.length_append, List.length_cons, List.length_nil]; omega))) (by simp only [na, nb, nc, nd, nf, ng, nh, ni, nj, nk] <;> rfl) (by simp only [na, nb, nc, nd, nf, ng, nh, ni, nj, nk] <;> rfl)) ?_
              refine .nil ?_
              refine wk_yesN rfl (l := [(4, ptr (s.boxes.length + 2) 0), (6, ptr (s.boxes.length + 4) 0)]) (bs' := [⟨57, [pl (.int .u64 p0.Dropped), sl kLin none none p0.L]⟩, ⟨63, [pl (.int .u64 (IntKind.u64.wrap ((IntKind.u64.wrap (p0.Dropped + (IntKind.u64.wrap ((p0.L.length : Int))))) + 1))), pl (.int .u64 p1.Who), pl (.int .u8 p1.What), pl (.int .u16 p1.Code), pl (.string p1.Key)]⟩, ⟨57, [pl (.int .u64 0), pl (.slice none 0 0)]⟩, ⟨(hot 63 6), (flat kLin ((p0.L ++ ([(⟨IntKind.u64.wrap ((IntKind.u64.wrap (p0.Dropped + (IntKind.u64.wrap ((p0.L.length : Int))))) + 1), p1.Who, p1.What, p1.Code, p1.Key⟩ : Lin)] : (List Lin))).take 0 ++ (p0.L ++ ([(⟨IntKind.u64.wrap ((IntKind.u64.wrap (p0.Dropped + (IntKind.u64.wrap ((p0.L.length : Int))))) + 1), p1.Who, p1.What, p1.Code, p1.Key⟩ : Lin)] : (List Lin))).drop 1))⟩, ⟨57, [pl (.int .u64 (IntKind.u64.wrap (p0.Dropped + 1))), hsl (s.boxes.length + 3) 6 0 ((p0.L ++ ([(⟨IntKind.u64.wrap ((IntKind.u64.wrap (p0.Dropped + (IntKind.u64.wrap ((p0.L.length : Int))))) + 1), p1.Who, p1.What, p1.Code, p1.Key⟩ : Lin)] : (List Lin))).take 0 ++ (p0.L ++ ([(⟨IntKind.u64.wrap ((IntKind.u64.wrap (p0.Dropped + (IntKind.u64.wrap ((p0.L.length : Int))))) + 1), p1.Who, p1.What, p1.Code, p1.Key⟩ : Lin)] : (List Lin))).drop 1).length kLin.sz]⟩]) ⟨le_of_eq (eg (lx (ls rfl (ls rfl (ls rfl (ls rfl oz)))))), le_of_eq (eg (lx (ls rfl (ls rfl (ls rfl (ls rfl (os rfl oz))))))), trivial⟩ (bnd_cons (ptr_bnd _ (by first | omega | (simp only [List.length_append, List.length_cons, List.length_nil]; omega))) (bnd_cons (ptr_bnd _ (by first | omega | (simp only [List.length_append, List.length_cons, List.length_nil]; omega))) bnd_nil)) (Nat.le_of_ble_eq_true rfl) (by simp only [na, nb, nc, nd, nf, ng, nh, ni, nj, nk] <;> rfl) (bxle_same (bxle_same (bxle_same (bxle_same (bxle_same bxle_nil))))) rfl (by simp only [na, nb, nc, nd, nf, ng, nh, ni, nj, nk] <;> rfl) (bl_cons (bnd_cons (pl_bnd _ _ _) (bnd_cons (sl_b kb_Lin) bnd_nil)) (bl_cons (bnd_cons (pl_bnd _ _ _) (bnd_cons (pl_bnd _ _ _) (bnd_cons (pl_bnd _ _ _) (bnd_cons (pl_bnd _ _ _) (bnd_cons (pl_bnd _ _ _) bnd_nil))))) (bl_cons (bnd_cons (pl_bnd _ _ _) (bnd_cons (pl_bnd _ _ _) bnd_nil)) (bl_cons (flatKB kb_Lin) (bl_cons (bnd_cons (pl_bnd _ _ _) (bnd_cons (hsl_bnd _ (by first | omega | (simp only [List.length_append, List.length_cons, List.length_nil]; omega))) bnd_nil)) bl_nil))))) ?_
              exact ⟨(((p0.L ++ ([(⟨IntKind.u64.wrap ((IntKind.u64.wrap (p0.Dropped + (IntKind.u64.wrap ((p0.L.length : Int))))) + 1), p1.Who, p1.What, p1.Code, p1.Key⟩ : Lin)] : (List Lin))).take 0 ++ (p0.L ++ ([(⟨IntKind.u64.wrap ((IntKind.u64.wrap (p0.Dropped + (IntKind.u64.wrap ((p0.L.length : Int))))) + 1), p1.Who, p1.What, p1.Code, p1.Key⟩ : Lin)] : (List Lin))).drop 1), IntKind.u64.wrap (p0.Dropped + 1)), ⟨le_of_eq (eg oz), le_of_eq (eg (os rfl oz)), trivial⟩, rfl, some_of hz_3⟩
            · skip
              replace hz_3 := ifb_f hz_3 hc
              clear hc
              refine aw_skip ?_
              refine wk_yesN rfl (l := [(4, ptr (s.boxes.length + 2) 0), (6, ptr (s.boxes.length + 4) 0)]) (bs' := [⟨57, [pl (.int .u64 p0.Dropped), sl kLin none none p0.L]⟩, ⟨63, [pl (.int .u64 (IntKind.u64.wrap ((IntKind.u64.wrap (p0.Dropped + (IntKind.u64.wrap ((p0.L.length : Int))))) + 1))), pl (.int .u64 p1.Who), pl (.int .u8 p1.What), pl (.int .u16 p1.Code), pl (.string p1.Key)]⟩, ⟨57, [pl (.int .u64 0), pl (.slice none 0 0)]⟩, ⟨(hot 63 6), (flat kLin (p0.L ++ ([(⟨IntKind.u64.wrap ((IntKind.u64.wrap (p0.Dropped + (IntKind.u64.wrap ((p0.L.length : Int))))) + 1), p1.Who, p1.What, p1.Code, p1.Key⟩ : Lin)] : (List Lin))))⟩, ⟨57, [pl (.int .u64 p0.Dropped), hsl (s.boxes.length + 3) 6 0 (p0.L ++ ([(⟨IntKind.u64.wrap ((IntKind.u64.wrap (p0.Dropped + (IntKind.u64.wrap ((p0.L.length : Int))))) + 1), p1.Who, p1.What, p1.Code, p1.Key⟩ : Lin)] : (List Lin))).length kLin.sz]⟩]) ⟨le_of_eq (eg oz), le_of_eq (eg (os rfl oz)), trivial⟩ (bnd_cons (ptr_bnd _ (by first | omega | (simp only [List.length_append, List.length_cons, List.length_nil]; omega))) (bnd_cons (ptr_bnd _ (by first | omega | (simp only [List.length_append, List.length_cons, List.length_nil]; omega))) bnd_nil)) (Nat.le_of_ble_eq_true rfl) (by simp only [na, nb, nc, nd, nf, ng, nh, ni, nj, nk] <;> rfl) (bxle_same (bxle_same (bxle_same (bxle_same (bxle_same bxle_nil))))) rfl (by simp only [na, nb, nc, nd, nf, ng, nh, ni, nj, nk] <;> rfl) (bl_cons (bnd_cons (pl_bnd _ _ _) (bnd_cons (sl_b kb_Lin) bnd_nil)) (bl_cons (bnd_cons (pl_bnd _ _ _) (bnd_cons (pl_bnd _ _ _) (bnd_cons (pl_bnd _ _ _) (bnd_cons (pl_bnd _ _ _) (bnd_cons (pl_bnd _ _ _) bnd_nil))))) (bl_cons (bnd_cons (pl_bnd _ _ _) (bnd_cons (pl_bnd _ _ _) bnd_nil)) (bl_cons (flatKB kb_Lin) (bl_cons (bnd_cons (pl_bnd _ _ _) (bnd_cons (hsl_bnd _ (by first | omega | (simp only [List.length_append, List.length_cons, List.length_nil]; omega))) bnd_nil)) bl_nil))))) ?_
              exact ⟨((p0.L ++ ([(⟨IntKind.u64.wrap ((IntKind.u64.wrap (p0.Dropped + (IntKind.u64.wrap ((p0.L.length : Int))))) + 1), p1.Who, p1.What, p1.Code, p1.Key⟩ : Lin)] : (List Lin))), p0.Dropped), ⟨le_of_eq (eg oz), le_of_eq (eg (os rfl oz)), trivial⟩, rfl, some_of hz_3⟩
          · rintro e st ⟨vz_3, hH, rfl, rfl⟩
            refine aw_keep _ hH ?_
            refine aw_keep [(4, _), (6, _)] ⟨lg oz, lg (os rfl oz), trivial⟩ ?_
            refine aw_seq ?_
            refine aw_region (by decide) ?_
            refine rts _ rfl (opD_load_aggX (qs := [_, _]) ag57_U9 sz57_U9 (os rfl oz) (loc_getN rfl rfl) (Nat.le_of_ble_eq_true rfl) rfl) ?_
            refine rts _ rfl (storeAN rfl sz57_U9 (ls rfl oz) lz (ones_cons (one_pl rfl) (ones_cons (one_hsl _ _ _ _ _) ones_nil)) rfl rfl (Nat.le_of_ble_eq_true rfl) (List.cons_ne_nil _ _) (bnd_cons (pl_bnd _ _ _) (bnd_cons (hsl_bnd _ (by first | omega | (simp only [List.length_append, List.length_cons, List.length_nil]; omega))) bnd_nil)) (by simp only [na, nb, nc, nd, nf, ng, nh, ni, nj, nk] <;> rfl) (by simp only [na, nb, nc, nd, nf, ng, nh, ni, nj, nk] <;> rfl)) ?_
            refine rts _ rfl (opD_assign (ev_const _ _)) ?_
            refine .nil ?_
            refine aw_keep [(4, _), (5, _)] ⟨lg (ls rfl (lx (ls rfl oz))), lg lz, trivial⟩ ?_
            refine aw_seal (k := kLin) (bs' := [⟨57, [pl (.int .u64 p0.Dropped), sl kLin none none p0.L]⟩, ⟨63, [pl (.int .u64 (IntKind.u64.wrap ((IntKind.u64.wrap (p0.Dropped + (IntKind.u64.wrap ((p0.L.length : Int))))) + 1))), pl (.int .u64 p1.Who), pl (.int .u8 p1.What), pl (.int .u16 p1.Code), pl (.string p1.Key)]⟩, ⟨57, [pl (.int .u64 vz_3.2), sl kLin none none vz_3.1]⟩, ⟨((hot 63 6) + HOT), []⟩, ⟨57, [pl (.int .u64 vz_3.2), sl kLin none none vz_3.1]⟩]) (i := 3) (r := 6) (te := 63) rfl [(4, ptr (s.boxes.length + 2) 0), (5, pl (errV none))] rfl rfl (by decide) rfl (by decide) ⟨rfl, SealL.refl _, ⟨rfl, SealL.refl _, ⟨rfl, ⟨(seal_same _), seal_sl, trivial⟩, ⟨rfl, rfl, ⟨rfl, ⟨(seal_same _), seal_sl, trivial⟩, trivial⟩⟩⟩⟩⟩ (bl_cons (bnd_cons (pl_bnd _ _ _) (bnd_cons (sl_b kb_Lin) bnd_nil)) (bl_cons (bnd_cons (pl_bnd _ _ _) (bnd_cons (pl_bnd _ _ _) (bnd_cons (pl_bnd _ _ _) (bnd_cons (pl_bnd _ _ _) (bnd_cons (pl_bnd _ _ _) bnd_nil))))) (bl_cons (bnd_cons (pl_bnd _ _ _) (bnd_cons (sl_b kb_Lin) bnd_nil)) (bl_cons bnd_nil (bl_cons (bnd_cons (pl_bnd _ _ _) (bnd_cons (sl_b kb_Lin) bnd_nil)) bl_nil))))) ⟨seal_e oz (seal_same _), seal_e (os rfl oz) (seal_same _), trivial⟩ ?_
            refine aw_ret ?_
            obtain rfl := some_of h0
            exact done_ext (.inr rfl) ((res_list (rs := [_, _]) (ps := [_, _]) rfl rfl ⟨it_cellA (B := ⟨57, [_, _]⟩) ag57_U9 sz57_U9 oz (loc_getN rfl rfl) rfl, it_tmp (os rfl oz), trivial⟩).le (tup_le ⟨(agg_le ⟨(Pd.le_refl _), (Pd.le_refl _), trivial⟩), (Pd.le_refl _), trivial⟩)) (tup_bnd (bnd_cons (agg_bnd (bnd_cons (pl_bnd _ _ _) (bnd_cons (sl_b kb_Lin) bnd_nil))) (bnd_cons (pl_bnd _ _ _) bnd_nil)))
        · skip
          refine aw_keep _ hH ?_
          refine aw_keep [(4, _), (6, _)] ⟨lg oz, lg (os rfl oz), trivial⟩ ?_
          refine aw_seq ?_
          refine aw_seq ?_
          refine aw_region (by decide) ?_
          refine rts _ rfl (opD_fieldAddr fo57_1_U9 (os rfl oz)) ?_
          refine rts _ rfl (opD_load_one ag55_U9 lz (loc_getN rfl rfl) rfl) ?_
          refine rts _ rfl (opD_len_h Go.Proofs.Tryd.underlying55 lz) ?_
          refine rts _ rfl (opD_gtr lz (ev_const _ _)) ?_
          refine .nil ?_
          refine aw_keep [(4, _), (6, _), (43, _)] ⟨lg (ls rfl (ls rfl (ls rfl (ls rfl oz)))), lg (ls rfl (ls rfl (ls rfl (ls rfl (os rfl oz))))), lg lz, trivial⟩ ?_
          replace h0 := bnd_some h0
          obtain ⟨z_3, hz_3, h0⟩ := h0
          refine aw_mid (fun e st => ∃ v : (List Lin) × Int, Holds e [(4, ptr (s.boxes.length + 2) 0), (6, ptr (s.boxes.length + 3) 0)] ∧ st = s.ext [⟨57, [pl (.int .u64 p0.Dropped), sl kLin none none p0.L]⟩, ⟨63, [pl (.int .u64 (IntKind.u64.wrap ((IntKind.u64.wrap (p0.Dropped + (IntKind.u64.wrap ((p0.L.length : Int))))) + 1))), pl (.int .u64 p1.Who), pl (.int .u8 p1.What), pl (.int .u16 p1.Code), pl (.string p1.Key)]⟩, ⟨57, [pl (.int .u64 0), pl (.slice none 0 0)]⟩, ⟨57, [pl (.int .u64 v.2), hsl (s.boxes.length + 4) 6 0 v.1.length kLin.sz]⟩, ⟨(hot 63 6), (flat kLin v.1)⟩] [] ∧ v = z_3) ?_ ?_
          · skip
            refine aw_wkN rfl 5 0 rfl rfl ?_
            refine aw_cond _ (os rfl (os rfl oz)) (fun hc => ?_) (fun hc => ?_)
            · skip
              replace hz_3 := ifb_t hz_3 hc
              clear hc
              refine aw_seq ?_
              refine aw_region (by decide) ?_
              refine rts _ rfl (opD_fieldAddr fo57_0_U9 (os rfl oz)) ?_
              refine rts _ rfl (opD_load_one ag22_U9 lz (loc_getN rfl rfl) rfl) ?_
              refine rts _ rfl (opD_add lz (ev_const _ _) rfl) ?_
              refine rts _ rfl (opD_fieldAddr fo57_0_U9 (ls rfl (ls rfl (ls rfl (os rfl oz))))) ?_
              refine rts _ rfl (storeON rfl sz22_U9 lz (le_of_eq (ls rfl lz)) (one_pl rfl) rfl (Nat.le_of_ble_eq_true rfl) (pl_bnd _ _ _) (by simp only [na, nb, nc, nd, nf, ng, nh, ni, nj, nk] <;> rfl) (by simp only [na, nb, nc, nd, nf, ng, nh, ni, nj, nk] <;> rfl)) ?_
              refine .nil ?_
              refine aw_keep [(4, _), (6, _)] ⟨lg (lx (ls rfl (ls rfl (ls rfl (ls rfl oz))))), lg (lx (ls rfl (ls rfl (ls rfl (ls rfl (os rfl oz)))))), trivial⟩ ?_
              refine aw_region (by decide) ?_
              refine rts _ rfl (opD_fieldAddr fo57_1_U9 (os rfl oz)) ?_
              refine rts _ rfl (opD_load_one ag55_U9 lz (loc_getN rfl rfl) rfl) ?_
              replace hz_3 := grd_some hz_3
              obtain ⟨hg_11, hz_3⟩ := hz_3
              refine rts _ rfl (callHH rfl ht94_U9 (fun s g h => delh (i := 0) (j := 1) (by decide) hg_11 (by decide) rfl h) rfl ⟨le_of_eq lz, le_of_eq (ev_const _ _), le_of_eq (ev_const _ _), trivial⟩ (by simp only [na, nb, nc, nd, nf, ng, nh, ni, nj, nk] <;> rfl)) ?_
              refine rts _ rfl (opD_fieldAddr fo57_1_U9 (ls rfl (ls rfl (ls rfl (os rfl oz))))) ?_
              refine rts _ rfl (storeON rfl sz55_U9 lz (le_of_eq (ls rfl lz)) (one_hsl _ _ _ _ _) rfl (Nat.le_of_ble_eq_true rfl) (hsl_bnd _ (by first | omega | (simp only [List.length_append, List.length_cons, List.length_nil]; omega))) (by simp only [na, nb, nc, nd, nf, ng, nh, ni, nj, nk] <;> rfl) (by simp only [na, nb, nc, nd, nf, ng, nh, ni, nj, nk] <;> rfl)) ?_
              refine .nil ?_
              refine wk_yesN rfl (l := [(4, ptr (s.boxes.length + 2) 0), (6, ptr (s.boxes.length + 3) 0)]) (bs' := [⟨57, [pl (.int .u64 p0.Dropped), sl kLin none none p0.L]⟩, ⟨63, [pl (.int .u64 (IntKind.u64.wrap ((IntKind.u64.wrap (p0.Dropped + (IntKind.u64.wrap ((p0.L.length : Int))))) + 1))), pl (.int .u64 p1.Who), pl (.int .u8 p1.What), pl (.int .u16 p1.Code), pl (.string p1.Key)]⟩, ⟨57, [pl (.int .u64 0), pl (.slice none 0 0)]⟩, ⟨57, [pl (.int .u64 (IntKind.u64.wrap (p0.Dropped + 1))), hsl (s.boxes.length + 4) 6 0 ((p0.L ++ ([(⟨IntKind.u64.wrap ((IntKind.u64.wrap (p0.Dropped + (IntKind.u64.wrap ((p0.L.length : Int))))) + 1), p1.Who, p1.What, p1.Code, p1.Key⟩ : Lin)] : (List Lin))).take 0 ++ (p0.L ++ ([(⟨IntKind.u64.wrap ((IntKind.u64.wrap (p0.Dropped + (IntKind.u64.wrap ((p0.L.length : Int))))) + 1), p1.Who, p1.What, p1.Code, p1.Key⟩ : Lin)] : (List Lin))).drop 1).length kLin.sz]⟩, ⟨(hot 63 6), (flat kLin ((p0.L ++ ([(⟨IntKind.u64.wrap ((IntKind.u64.wrap (p0.Dropped + (IntKind.u64.wrap ((p0.L.length : Int))))) + 1), p1.Who, p1.What, p1.Code, p1.Key⟩ : Lin)] : (List Lin))).take 0 ++ (p0.L ++ ([(⟨IntKind.u64.wrap ((IntKind.u64.wrap (p0.Dropped + (IntKind.u64.wrap ((p0.L.length : Int))))) + 1), p1.Who, p1.What, p1.Code, p1.Key⟩ : Lin)] : (List Lin))).drop 1))⟩]) ⟨le_of_eq (eg (lx (ls rfl (ls rfl (ls rfl (ls rfl oz)))))), le_of_eq (eg (lx (ls rfl (ls rfl (ls rfl (ls rfl (os rfl oz))))))), trivial⟩ (bnd_cons (ptr_bnd _ (by first | omega | (simp only [List.length_append, List.length_cons, List.length_nil]; omega))) (bnd_cons (ptr_bnd _ (by first | omega | (simp only [List.length_append, List.length_cons, List.length_nil]; omega))) bnd_nil)) (Nat.le_of_ble_eq_true rfl) (by simp only [na, nb, nc, nd, nf, ng, nh, ni, nj, nk] <;> rfl) (bxle_same (bxle_same (bxle_same (bxle_same (bxle_same bxle_nil))))) rfl (by simp only [na, nb, nc, nd, nf, ng, nh, ni, nj, nk] <;> rfl) (bl_cons (bnd_cons (pl_bnd _ _ _) (bnd_cons (sl_b kb_Lin) bnd_nil)) (bl_cons (bnd_cons (pl_bnd _ _ _) (bnd_cons (pl_bnd _ _ _) (bnd_cons (pl_bnd _ _ _) (bnd_cons (pl_bnd _ _ _) (bnd_cons (pl_bnd _ _ _) bnd_nil))))) (bl_cons (bnd_cons (pl_bnd _ _ _) (bnd_cons (pl_bnd _ _ _) bnd_nil)) (bl_cons (bnd_cons (pl_bnd _ _ _) (bnd_cons (hsl_bnd _ (by first | omega | (simp only [List.length_append, List.length_cons, List.length_nil]; omega))) bnd_nil)) (bl_cons (flatKB kb_Lin) bl_nil))))) ?_
              exact ⟨(((p0.L ++ ([(⟨IntKind.u64.wrap ((IntKind.u64.wrap (p0.Dropped + (IntKind.u64.wrap ((p0.L.length : Int))))) + 1), p1.Who, p1.What, p1.Code, p1.Key⟩ : Lin)] : (List Lin))).take 0 ++ (p0.L ++ ([(⟨IntKind.u64.wrap ((IntKind.u64.wrap (p0.Dropped + (IntKind.u64.wrap ((p0.L.length : Int))))) + 1), p1.Who, p1.What, p1.Code, p1.Key⟩ : Lin)] : (List Lin))).drop 1), IntKind.u64.wrap (p0.Dropped + 1)), ⟨le_of_eq (eg oz), le_of_eq (eg (os rfl oz)), trivial⟩, rfl, some_of hz_3⟩
            · skip
              replace hz_3 := ifb_f hz_3 hc
              clear hc
              refine aw_skip ?_
              refine wk_yesN rfl (l := [(4, ptr (s.boxes.length + 2) 0), (6, ptr (s.boxes.length + 3) 0)]) (bs' := [⟨57, [pl (.int .u64 p0.Dropped), sl kLin none none p0.L]⟩, ⟨63, [pl (.int .u64 (IntKind.u64.wrap ((IntKind.u64.wrap (p0.Dropped + (IntKind.u64.wrap ((p0.L.length : Int))))) + 1))), pl (.int .u64 p1.Who), pl (.int .u8 p1.What), pl (.int .u16 p1.Code), pl (.string p1.Key)]⟩, ⟨57, [pl (.int .u64 0), pl (.slice none 0 0)]⟩, ⟨57, [pl (.int .u64 p0.Dropped), hsl (s.boxes.length + 4) 6 0 (p0.L ++ ([(⟨IntKind.u64.wrap ((IntKind.u64.wrap (p0.Dropped + (IntKind.u64.wrap ((p0.L.length : Int))))) + 1), p1.Who, p1.What, p1.Code, p1.Key⟩ : Lin)] : (List Lin))).length kLin.sz]⟩, ⟨(hot 63 6), (flat kLin (p0.L ++ ([(⟨IntKind.u64.wrap ((IntKind.u64.wrap (p0.Dropped + (IntKind.u64.wrap ((p0.L.length : Int))))) + 1), p1.Who, p1.What, p1.Code, p1.Key⟩ : Lin)] : (List Lin))))⟩]) ⟨le_of_eq (eg oz), le_of_eq (eg (os rfl oz)), trivial⟩ (bnd_cons (ptr_bnd _ (by first | omega | (simp only [List.length_append, List.length_cons, List.length_nil]; omega))) (bnd_cons (ptr_bnd _ (by first | omega | (simp only [List.length_append, List.length_cons, List.length_nil]; omega))) bnd_nil)) (Nat.le_of_ble_eq_true rfl) (by simp only [na, nb, nc, nd, nf, ng, nh, ni, nj, nk] <;> rfl) (bxle_same (bxle_same (bxle_same (bxle_same (bxle_same bxle_nil))))) rfl (by simp only [na, nb, nc, nd, nf, ng, nh, ni, nj, nk] <;> rfl) (bl_cons (bnd_cons (pl_bnd _ _ _) (bnd_cons (sl_b kb_Lin) bnd_nil)) (bl_cons (bnd_cons (pl_bnd _ _ _) (bnd_cons (pl_bnd _ _ _) (bnd_cons (pl_bnd _ _ _) (bnd_cons (pl_bnd _ _ _) (bnd_cons (pl_bnd _ _ _) bnd_nil))))) (bl_cons (bnd_cons (pl_bnd _ _ _) (bnd_cons (pl_bnd _ _ _) bnd_nil)) (bl_cons (bnd_cons (pl_bnd _ _ _) (bnd_cons (hsl_bnd _ (by first | omega | (simp only [List.length_append, List.length_cons, List.length_nil]; omega))) bnd_nil)) (bl_cons (flatKB kb_Lin) bl_nil))))) ?_
              exact ⟨((p0.L ++ ([(⟨IntKind.u64.wrap ((IntKind.u64.wrap (p0.Dropped + (IntKind.u64.wrap ((p0.L.length : Int))))) + 1), p1.Who, p1.What, p1.Code, p1.Key⟩ : Lin)] : (List Lin))), p0.Dropped), ⟨le_of_eq (eg oz), le_of_eq (eg (os rfl oz)), trivial⟩, rfl, some_of hz_3⟩
          · rintro e st ⟨vz_3, hH, rfl, rfl⟩
            refine aw_keep _ hH ?_
            refine aw_keep [(4, _), (6, _)] ⟨lg oz, lg (os rfl oz), trivial⟩ ?_
            refine aw_seq ?_
            refine aw_region (by decide) ?_
            refine rts _ rfl (opD_load_aggX (qs := [_, _]) ag57_U9 sz57_U9 (os rfl oz) (loc_getN rfl rfl) (Nat.le_of_ble_eq_true rfl) rfl) ?_
            refine rts _ rfl (storeAN rfl sz57_U9 (ls rfl oz) lz (ones_cons (one_pl rfl) (ones_cons (one_hsl _ _ _ _ _) ones_nil)) rfl rfl (Nat.le_of_ble_eq_true rfl) (List.cons_ne_nil _ _) (bnd_cons (pl_bnd _ _ _) (bnd_cons (hsl_bnd _ (by first | omega | (simp only [List.length_append, List.length_cons, List.length_nil]; omega))) bnd_nil)) (by simp only [na, nb, nc, nd, nf, ng, nh, ni, nj, nk] <;> rfl) (by simp only [na, nb, nc, nd, nf, ng, nh, ni, nj, nk] <;> rfl)) ?_
            refine rts _ rfl (opD_assign (ev_const _ _)) ?_
            refine .nil ?_
            refine aw_keep [(4, _), (5, _)] ⟨lg (ls rfl (lx (ls rfl oz))), lg lz, trivial⟩ ?_
            refine aw_seal (k := kLin) (bs' := [⟨57, [pl (.int .u64 p0.Dropped), sl kLin none none p0.L]⟩, ⟨63, [pl (.int .u64 (IntKind.u64.wrap ((IntKind.u64.wrap (p0.Dropped + (IntKind.u64.wrap ((p0.L.length : Int))))) + 1))), pl (.int .u64 p1.Who), pl (.int .u8 p1.What), pl (.int .u16 p1.Code), pl (.string p1.Key)]⟩, ⟨57, [pl (.int .u64 vz_3.2), sl kLin none none vz_3.1]⟩, ⟨57, [pl (.int .u64 vz_3.2), sl kLin none none vz_3.1]⟩, ⟨((hot 63 6) + HOT), []⟩]) (i := 4) (r := 6) (te := 63) rfl [(4, ptr (s.boxes.length + 2) 0), (5, pl (errV none))] rfl rfl (by decide) rfl (by decide) ⟨rfl, SealL.refl _, ⟨rfl, SealL.refl _, ⟨rfl, ⟨(seal_same _), seal_sl, trivial⟩, ⟨rfl, ⟨(seal_same _), seal_sl, trivial⟩, ⟨rfl, rfl, trivial⟩⟩⟩⟩⟩ (bl_cons (bnd_cons (pl_bnd _ _ _) (bnd_cons (sl_b kb_Lin) bnd_nil)) (bl_cons (bnd_cons (pl_bnd _ _ _) (bnd_cons (pl_bnd _ _ _) (bnd_cons (pl_bnd _ _ _) (bnd_cons (pl_bnd _ _ _) (bnd_cons (pl_bnd _ _ _) bnd_nil))))) (bl_cons (bnd_cons (pl_bnd _ _ _) (bnd_cons (sl_b kb_Lin) bnd_nil)) (bl_cons (bnd_cons (pl_bnd _ _ _) (bnd_cons (sl_b kb_Lin) bnd_nil)) (bl_cons bnd_nil bl_nil))))) ⟨seal_e oz (seal_same _), seal_e (os rfl oz) (seal_same _), trivial⟩ ?_
            refine aw_ret ?_
            obtain rfl := some_of h0
            exact done_ext (.inr rfl) ((res_list (rs := [_, _]) (ps := [_, _]) rfl rfl ⟨it_cellA (B := ⟨57, [_, _]⟩) ag57_U9 sz57_U9 oz (loc_getN rfl rfl) rfl, it_tmp (os rfl oz), trivial⟩).le (tup_le ⟨(agg_le ⟨(Pd.le_refl _), (Pd.le_refl _), trivial⟩), (Pd.le_refl _), trivial⟩)) (tup_bnd (bnd_cons (agg_bnd (bnd_cons (pl_bnd _ _ _) (bnd_cons (sl_b kb_Lin) bnd_nil))) (bnd_cons (pl_bnd _ _ _) bnd_nil)))

def F_lsince_b0 (p0 : Lgr) (p1 : Int) (t_3 : (List Lin) × Int) : Option (((List Lin) × Int) ⊕ (((List Lin)))) :=
  ifb (decide (t_3.2 < (p0.L.length : Int))) (bnd (ixb p0.L t_3.2 fun x_6 => ifb (decide (p1 ≤ x_6.Seq)) (grd (Fits 40 (t_3.1.length + ([x_6] : (List Lin)).length)) <| some (t_3.1 ++ ([x_6] : (List Lin)))) (some t_3.1)) fun z_5 => some (.inl (z_5, IntKind.i64.wrap (t_3.2 + 1)))) (some (.inr t_3.1))
def F_lsince (fl : Nat) (p0 : Lgr) (p1 : Int) : Option ((List Lin) × (Option Int)) :=
  bnd (F_lcheck fl p0) fun x_1 => ifb x_1.isSome (some ([], x_1)) (bnd (lp (F_lsince_b0 p0 p1) fl (([] : (List Lin)), 0)) fun z_2 => some (z_2, none))
set_option maxRecDepth 100000 in
set_option maxHeartbeats 2000000 in
theorem c_lsince {fl : Nat} {p0 : Lgr} {p1 : Int} {R : (List Lin) × (Option Int)} (h0 : F_lsince fl p0 p1 = some R) : Pure Go.Proofs.Tryd.prog 42 [agg [pl (.int .u64 p0.Dropped), sl kLin none none p0.L], pl (.int .u64 p1)] (tup [sl kLin none none R.1, pl (errV R.2)]) := by
  intro s
  unfold F_lsince at h0
  refine ac_of_aw s.boxes.length s.fr.length Go.Proofs.Tryd.func42 rfl (by simp [Go.Proofs.Tryd.ntmps42]) ?_
  refine aw_ext0 ?_
  refine aw_keep [(0, _), (1, _)] ⟨lg ez, lg (es ez), trivial⟩ ?_
  refine aw_seq ?_
  refine aw_region (by decide) ?_
  refine rts _ rfl (boxAN rfl oz (bnd_cons (pl_bnd _ _ _) (bnd_cons (sl_b kb_Lin) bnd_nil)) (by first | exact List.length_nil | (simp only [List.length_cons, List.length_nil, Nat.zero_add, Nat.reduceAdd] <;> rfl)) (by simp only [na, nb, nc, nd, nf, ng, nh, ni, nj, nk] <;> rfl)) ?_
  refine rts _ rfl (opD_assign (ev_const _ _)) ?_
  refine rts _ rfl (opD_assign (ev_const _ _)) ?_
  refine .nil ?_
  refine aw_keep [(1, _), (2, _)] ⟨lg (ls rfl (ls rfl (ls rfl (os rfl oz)))), lg (ls rfl (ls rfl lz)), trivial⟩ ?_
  refine aw_seq ?_
  refine aw_seq ?_
  refine aw_region (by decide) ?_
  refine rts _ rfl (opD_load_aggX (qs := [_, _]) ag57_U9 sz57_U9 (os rfl oz) (loc_getN rfl rfl) (Nat.le_of_ble_eq_true rfl) rfl) ?_
  replace h0 := bnd_some h0
  obtain ⟨x_1, hx_1, h0⟩ := h0
  refine rts _ rfl (opD_pure ht47_U9 (c_lcheck hx_1) ⟨(le_of_eq lz).trans (agg_le ⟨(Pd.le_refl _), (Pd.le_refl _), trivial⟩), trivial⟩) ?_
  refine rts _ rfl (opD_assign lz) ?_
  refine .nil ?_
  refine aw_keep [(1, _), (2, _), (6, _)] ⟨lg (ls rfl (ls rfl (ls rfl oz))), lg (ls rfl (ls rfl (ls rfl (os rfl oz)))), lg lz, trivial⟩ ?_
  refine aw_seq ?_
  refine aw_region (by decide) ?_
  refine rts _ rfl (opD_move (os rfl (os rfl oz))) ?_
  refine rts _ rfl (opD_bin lz (ev_const _ _) (fun w => errV_guard _ w _) (fun w => errV_beq _ w)) ?_
  refine .nil ?_
  refine aw_keep [(1, _), (2, _), (6, _), (13, _)] ⟨lg (ls rfl (ls rfl oz)), lg (ls rfl (ls rfl (os rfl oz))), lg (ls rfl (ls rfl (os rfl (os rfl oz)))), lg lz, trivial⟩ ?_
  refine aw_cond _ (os rfl (os rfl (os rfl oz))) (fun hc => ?_) (fun hc => ?_)
  · skip
    replace h0 := ifb_t h0 hc
    clear hc
    refine aw_seq ?_
    refine aw_region (by decide) ?_
    refine rts _ rfl (opD_move (os rfl (os rfl oz))) ?_
    refine rts _ rfl (opD_assign (ev_const _ _)) ?_
    refine rts _ rfl (opD_assign (ls rfl lz)) ?_
    refine .nil ?_
    refine aw_keep [(4, _), (5, _)] ⟨lg (ls rfl lz), lg lz, trivial⟩ ?_
    refine aw_ret ?_
    obtain rfl := some_of h0
    exact done_ext (.inr rfl) ((res_list (rs := [_, _]) (ps := [_, _]) rfl rfl ⟨it_tmp oz, it_tmp (os rfl oz), trivial⟩).le (tup_le ⟨(le_nil rfl), (Pd.le_refl _), trivial⟩)) (tup_bnd (bnd_cons (sl_b kb_Lin) (bnd_cons (pl_bnd _ _ _) bnd_nil)))
  · skip
    replace h0 := ifb_f h0 hc
    clear hc
    refine aw_skip ?_
    refine aw_keep [(1, _), (2, _)] ⟨lg oz, lg (os rfl oz), trivial⟩ ?_
    refine aw_seq ?_
    refine aw_region (by decide) ?_
    refine rts _ rfl (opD_assign (ev_const _ _)) ?_
    refine .nil ?_
    refine aw_keep [(1, _), (2, _), (7, _)] ⟨lg (ls rfl oz), lg (ls rfl (os rfl oz)), lg lz, trivial⟩ ?_
    refine aw_seq ?_
    refine aw_seq ?_
    refine aw_region (by decide) ?_
    refine rts _ rfl (opD_fieldAddr fo57_1_U9 (os rfl oz)) ?_
    refine rts _ rfl (opD_load_one ag55_U9 lz (loc_getN rfl rfl) rfl) ?_
    refine rts _ rfl (opD_len_sl Go.Proofs.Tryd.underlying55 lz) ?_
    refine rts _ rfl (opD_move (ev_const _ _)) ?_
    refine .nil ?_
    refine aw_keep [(1, _), (7, _), (16, _), (17, _), (18, _)] ⟨lg (ls rfl (ls rfl (ls rfl (ls rfl oz)))), lg (ls rfl (ls rfl (ls rfl (ls rfl (os rfl (os rfl oz)))))), lg (ls rfl (ls rfl lz)), lg (ls rfl lz), lg lz, trivial⟩ ?_
    replace h0 := bnd_some h0
    obtain ⟨z_2, hz_2, h0⟩ := h0
    refine aw_mid (fun e st => ∃ v : (List Lin), Holds e [(7, sl kLin none none v)] ∧ st = s.ext [⟨57, [pl (.int .u64 p0.Dropped), sl kLin none none p0.L]⟩] [] ∧ v = z_2) ?_ ?_
    · skip
      refine aw_wkN rfl 1 0 rfl rfl ?_
      refine aw_block ?_
      refine aw_fr ⟨63, 5, 0⟩ ?_
      refine aw_loop (fun n e st => ∃ v : (List Lin) × Int, Holds e [(1, pl (.int .u64 p1)), (7, sl kLin (some (s.fr.length + 0)) none v.1), (16, sl kLin none none p0.L), (17, pl (.int .i64 (p0.L.length : Int))), (18, pl (.int .i64 v.2))] ∧ st = s.ext [⟨57, [pl (.int .u64 p0.Dropped), sl kLin none none p0.L]⟩] [⟨63, 5, v.1.length⟩] ∧ lp (F_lsince_b0 p0 p1) n v = some z_2) fl ⟨(([] : (List Lin)), 0), ⟨le_of_eq (eg oz), (le_of_eq (eg (os rfl oz))).trans (nil_own rfl), le_of_eq (eg (os rfl (os rfl oz))), le_of_eq (eg (os rfl (os rfl (os rfl oz)))), le_of_eq (eg (os rfl (os rfl (os rfl (os rfl oz))))), trivial⟩, rfl, hz_2⟩ ?_
      rintro n e st ⟨t_3, hH, rfl, hz_2⟩
      replace hz_2 := lp_some hz_2
      obtain ⟨m_z_4, z_4, rfl, hz_4, hz_2⟩ := hz_2
      unfold F_lsince_b0 at hz_4
      refine aw_keep _ hH ?_
      refine aw_wkN rfl 1 1 rfl rfl ?_
      refine aw_seq ?_
      refine aw_region (by decide) ?_
      refine rts _ rfl (opD_lss (os rfl (os rfl (os rfl (os rfl oz)))) (os rfl (os rfl (os rfl oz)))) ?_
      refine .nil ?_
      refine aw_keep [(1, _), (7, _), (16, _), (17, _), (18, _), (19, _)] ⟨lg (ls rfl oz), lg (ls rfl (os rfl oz)), lg (ls rfl (os rfl (os rfl oz))), lg (ls rfl (os rfl (os rfl (os rfl oz)))), lg (ls rfl (os rfl (os rfl (os rfl (os rfl oz))))), lg lz, trivial⟩ ?_
      refine aw_seq ?_
      refine aw_cond _ (os rfl (os rfl (os rfl (os rfl (os rfl oz))))) (fun hc => ?_) (fun hc => ?_)
      · skip
        replace hz_4 := ifb_t hz_4 hc
        clear hc
        refine aw_skip ?_
        refine aw_keep [(1, _), (7, _), (16, _), (17, _), (18, _)] ⟨lg oz, lg (os rfl oz), lg (os rfl (os rfl oz)), lg (os rfl (os rfl (os rfl oz))), lg (os rfl (os rfl (os rfl (os rfl oz)))), trivial⟩ ?_
        refine aw_seq ?_
        replace hz_4 := bnd_some hz_4
        obtain ⟨z_5, hz_5, hz_4⟩ := hz_4
        refine aw_mid (fun e st => ∃ v : (List Lin), Holds e [(1, pl (.int .u64 p1)), (7, sl kLin (some (s.fr.length + 0)) none v), (16, sl kLin none none p0.L), (17, pl (.int .i64 (p0.L.length : Int))), (18, pl (.int .i64 t_3.2))] ∧ st = s.ext [⟨57, [pl (.int .u64 p0.Dropped), sl kLin none none p0.L]⟩] [⟨63, 5, v.length⟩] ∧ v = z_5) ?_ ?_
        · skip
          refine aw_wkN rfl 1 1 rfl rfl ?_
          refine aw_block ?_
          refine aw_seq ?_
          refine aw_region (by decide) ?_
          replace hz_5 := ixb_some hz_5
          obtain ⟨x_6, hx_6, hbx_6, hz_5⟩ := hz_5
          refine rts _ rfl (opD_indexAddr_sl (i := t_3.2.toNat) Go.Proofs.Tryd.underlying55 sz63_U9 (os rfl (os rfl oz)) (os rfl (os rfl (os rfl (os rfl oz)))) hbx_6.2.2 hbx_6.2.1) ?_
          refine rts _ rfl (opD_load_el_aggX (qs := [_, _, _, _, _]) ag63_U9 sz63_U9 lz hx_6 (Nat.le_of_ble_eq_true rfl) rfl) ?_
          refine rts _ rfl (allocN rfl zt63_U9 (by first | exact List.length_nil | (simp only [List.length_cons, List.length_nil, Nat.zero_add, Nat.reduceAdd] <;> rfl)) (by simp only [na, nb, nc, nd, nf, ng, nh, ni, nj, nk] <;> rfl)) ?_
          refine rts _ rfl (storeAN rfl sz63_U9 lz (ls rfl lz) (ones_cons (one_pl rfl) (ones_cons (one_pl rfl) (ones_cons (one_pl rfl) (ones_cons (one_pl rfl) (ones_cons (one_pl rfl) ones_nil))))) rfl rfl (Nat.le_of_ble_eq_true rfl) (List.cons_ne_nil _ _) (bnd_cons (pl_bnd _ _ _) (bnd_cons (pl_bnd _ _ _) (bnd_cons (pl_bnd _ _ _) (bnd_cons (pl_bnd _ _ _) (bnd_cons (pl_bnd _ _ _) bnd_nil))))) (by simp only [na, nb, nc, nd, nf, ng, nh, ni, nj, nk] <;> rfl) (by simp only [na, nb, nc, nd, nf, ng, nh, ni, nj, nk] <;> rfl)) ?_
          refine .nil ?_
          refine aw_keep [(1, _), (7, _), (9, _), (16, _), (17, _), (18, _)] ⟨lg (lx (ls rfl (ls rfl (ls rfl oz)))), lg (lx (ls rfl (ls rfl (ls rfl (os rfl oz))))), lg (lx lz), lg (lx (ls rfl (ls rfl (ls rfl (os rfl (os rfl oz)))))), lg (lx (ls rfl (ls rfl (ls rfl (os rfl (os rfl (os rfl oz))))))), lg (lx (ls rfl (ls rfl (ls rfl (os rfl (os rfl (os rfl (os rfl oz)))))))), trivial⟩ ?_
          refine aw_seq ?_
          refine aw_region (by decide) ?_
          refine rts _ rfl (opD_fieldAddr fo63_0_U9 (os rfl (os rfl oz))) ?_
          refine rts _ rfl (opD_load_one ag22_U9 lz (loc_getN rfl rfl) rfl) ?_
          refine rts _ rfl (opD_move (ls rfl (ls rfl oz))) ?_
          refine rts _ rfl (opD_geq (ls rfl lz) lz) ?_
          refine .nil ?_
          refine aw_keep [(1, _), (7, _), (9, _), (16, _), (17, _), (18, _), (25, _)] ⟨lg (ls rfl (ls rfl (ls rfl (ls rfl oz)))), lg (ls rfl (ls rfl (ls rfl (ls rfl (os rfl oz))))), lg (ls rfl (ls rfl (ls rfl (ls rfl (os rfl (os rfl oz)))))), lg (ls rfl (ls rfl (ls rfl (ls rfl (os rfl (os rfl (os rfl oz))))))), lg (ls rfl (ls rfl (ls rfl (ls rfl (os rfl (os rfl (os rfl (os rfl oz)))))))), lg (ls rfl (ls rfl (ls rfl (ls rfl (os rfl (os rfl (os rfl (os rfl (os rfl oz))))))))), lg lz, trivial⟩ ?_
          refine aw_cond _ (os rfl (os rfl (os rfl (os rfl (os rfl (os rfl oz)))))) (fun hc => ?_) (fun hc => ?_)
          · skip
            replace hz_5 := ifb_t hz_5 hc
            clear hc
            refine aw_region (by decide) ?_
            refine rts _ rfl (opD_move (os rfl oz)) ?_
            refine rts _ rfl (opD_load_aggX (qs := [_, _, _, _, _]) ag63_U9 sz63_U9 (ls rfl (os rfl (os rfl oz))) (loc_getN rfl rfl) (Nat.le_of_ble_eq_true rfl) rfl) ?_
            refine rts _ rfl (opD_buildOwn (k := kLin) ([x_6] : (List Lin)) Go.Proofs.Tryd.underlying55 sz63_U9 zt63_U9 (by decide) rfl (parts_cons (cellsA lz) parts_nil) rfl rfl (by first | exact List.length_nil | (simp only [List.length_cons, List.length_nil, Nat.zero_add, Nat.reduceAdd] <;> rfl)) (by simp only [na, nb, nc, nd, nf, ng, nh, ni, nj, nk] <;> rfl)) ?_
            replace hz_5 := grd_some hz_5
            obtain ⟨hg_12, hz_5⟩ := hz_5
            refine rts _ rfl (opD_appendX Go.Proofs.Tryd.underlying55 el63_U9 (ls rfl (ls rfl lz)) lz rfl hg_12.1 hg_12.2 rfl (by simp only [na, nb, nc, nd, nf, ng, nh, ni, nj, nk] <;> rfl)) ?_
            refine rts _ rfl (opD_assign lz) ?_
            refine .nil ?_
            refine wk_yesN rfl (l := [(1, pl (.int .u64 p1)), (7, sl kLin (some (s.fr.length + 0)) none (t_3.1 ++ ([x_6] : (List Lin)))), (16, sl kLin none none p0.L), (17, pl (.int .i64 (p0.L.length : Int))), (18, pl (.int .i64 t_3.2))]) (bs' := [⟨57, [pl (.int .u64 p0.Dropped), sl kLin none none p0.L]⟩]) ⟨le_of_eq (eg (ls rfl (ls rfl (ls rfl (ls rfl (ls rfl oz)))))), le_of_eq (eg lz), le_of_eq (eg (ls rfl (ls rfl (ls rfl (ls rfl (ls rfl (os rfl (os rfl (os rfl oz))))))))), le_of_eq (eg (ls rfl (ls rfl (ls rfl (ls rfl (ls rfl (os rfl (os rfl (os rfl (os rfl oz)))))))))), le_of_eq (eg (ls rfl (ls rfl (ls rfl (ls rfl (ls rfl (os rfl (os rfl (os rfl (os rfl (os rfl oz))))))))))), trivial⟩ (bnd_cons (pl_bnd _ _ _) (bnd_cons (sl_ob kb_Lin (by first | omega | (simp only [List.length_append, List.length_cons, List.length_nil, ext_fr_length, upd_fr_length]; omega))) (bnd_cons (sl_b kb_Lin) (bnd_cons (pl_bnd _ _ _) (bnd_cons (pl_bnd _ _ _) bnd_nil))))) (Nat.le_of_ble_eq_true rfl) (by simp only [na, nb, nc, nd, nf, ng, nh, ni, nj, nk] <;> rfl) (bxle_same bxle_nil) rfl (by simp only [na, nb, nc, nd, nf, ng, nh, ni, nj, nk] <;> rfl) (bl_cons (bnd_cons (pl_bnd _ _ _) (bnd_cons (sl_b kb_Lin) bnd_nil)) bl_nil) ?_
            exact ⟨(t_3.1 ++ ([x_6] : (List Lin))), ⟨le_of_eq (eg oz), le_of_eq (eg (os rfl oz)), le_of_eq (eg (os rfl (os rfl oz))), le_of_eq (eg (os rfl (os rfl (os rfl oz)))), le_of_eq (eg (os rfl (os rfl (os rfl (os rfl oz))))), trivial⟩, rfl, some_of hz_5⟩
          · skip
            replace hz_5 := ifb_f hz_5 hc
            clear hc
            refine aw_skip ?_
            refine wk_yesN rfl (l := [(1, pl (.int .u64 p1)), (7, sl kLin (some (s.fr.length + 0)) none t_3.1), (16, sl kLin none none p0.L), (17, pl (.int .i64 (p0.L.length : Int))), (18, pl (.int .i64 t_3.2))]) (bs' := [⟨57, [pl (.int .u64 p0.Dropped), sl kLin none none p0.L]⟩]) ⟨le_of_eq (eg oz), le_of_eq (eg (os rfl oz)), le_of_eq (eg (os rfl (os rfl (os rfl oz)))), le_of_eq (eg (os rfl (os rfl (os rfl (os rfl oz))))), le_of_eq (eg (os rfl (os rfl (os rfl (os rfl (os rfl oz)))))), trivial⟩ (bnd_cons (pl_bnd _ _ _) (bnd_cons (sl_ob kb_Lin (by first | omega | (simp only [List.length_append, List.length_cons, List.length_nil, ext_fr_length, upd_fr_length]; omega))) (bnd_cons (sl_b kb_Lin) (bnd_cons (pl_bnd _ _ _) (bnd_cons (pl_bnd _ _ _) bnd_nil))))) (Nat.le_of_ble_eq_true rfl) (by simp only [na, nb, nc, nd, nf, ng, nh, ni, nj, nk] <;> rfl) (bxle_same bxle_nil) rfl (by simp only [na, nb, nc, nd, nf, ng, nh, ni, nj, nk] <;> rfl) (bl_cons (bnd_cons (pl_bnd _ _ _) (bnd_cons (sl_b kb_Lin) bnd_nil)) bl_nil) ?_
            exact ⟨t_3.1, ⟨le_of_eq (eg oz), le_of_eq (eg (os rfl oz)), le_of_eq (eg (os rfl (os rfl oz))), le_of_eq (eg (os rfl (os rfl (os rfl oz)))), le_of_eq (eg (os rfl (os rfl (os rfl (os rfl oz))))), trivial⟩, rfl, some_of hz_5⟩
        · rintro e st ⟨vz_5, hH, rfl, rfl⟩
          refine aw_keep _ hH ?_
          refine aw_keep [(1, _), (7, _), (16, _), (17, _), (18, _)] ⟨lg oz, lg (os rfl oz), lg (os rfl (os rfl oz)), lg (os rfl (os rfl (os rfl oz))), lg (os rfl (os rfl (os rfl (os rfl oz)))), trivial⟩ ?_
          refine aw_region (by decide) ?_
          refine rts _ rfl (opD_add (os rfl (os rfl (os rfl (os rfl oz)))) (ev_const _ _) rfl) ?_
          refine rts _ rfl (opD_move lz) ?_
          refine .nil ?_
          obtain rfl := some_of hz_4
          replace hz_2 := ocs_l hz_2
          refine wk_yesN rfl (l := [(1, pl (.int .u64 p1)), (7, sl kLin (some (s.fr.length + 0)) none vz_5), (16, sl kLin none none p0.L), (17, pl (.int .i64 (p0.L.length : Int))), (18, pl (.int .i64 (IntKind.i64.wrap (t_3.2 + 1))))]) (bs' := [⟨57, [pl (.int .u64 p0.Dropped), sl kLin none none p0.L]⟩]) ⟨le_of_eq (eg (ls rfl (ls rfl oz))), le_of_eq (eg (ls rfl (ls rfl (os rfl oz)))), le_of_eq (eg (ls rfl (ls rfl (os rfl (os rfl oz))))), le_of_eq (eg (ls rfl (ls rfl (os rfl (os rfl (os rfl oz)))))), le_of_eq (eg lz), trivial⟩ (bnd_cons (pl_bnd _ _ _) (bnd_cons (sl_ob kb_Lin (by first | omega | (simp only [List.length_append, List.length_cons, List.length_nil, ext_fr_length, upd_fr_length]; omega))) (bnd_cons (sl_b kb_Lin) (bnd_cons (pl_bnd _ _ _) (bnd_cons (pl_bnd _ _ _) bnd_nil))))) (Nat.le_of_ble_eq_true rfl) (by simp only [na, nb, nc, nd, nf, ng, nh, ni, nj, nk] <;> rfl) (bxle_same bxle_nil) rfl (by simp only [na, nb, nc, nd, nf, ng, nh, ni, nj, nk] <;> rfl) (bl_cons (bnd_cons (pl_bnd _ _ _) (bnd_cons (sl_b kb_Lin) bnd_nil)) bl_nil) ?_
          exact ⟨m_z_4, Nat.lt_succ_self _, (vz_5, IntKind.i64.wrap (t_3.2 + 1)), ⟨le_of_eq (eg oz), le_of_eq (eg (os rfl oz)), le_of_eq (eg (os rfl (os rfl oz))), le_of_eq (eg (os rfl (os rfl (os rfl oz)))), le_of_eq (eg (os rfl (os rfl (os rfl (os rfl oz))))), trivial⟩, rfl, hz_2⟩
      · skip
        replace hz_4 := ifb_f hz_4 hc
        clear hc
        refine aw_exit ?_
        obtain rfl := some_of hz_4
        replace hz_2 := ocs_r hz_2
        refine wk_no ?_
        refine wk_yesN rfl (l := [(7, sl kLin none none t_3.1)]) (bs' := [⟨57, [pl (.int .u64 p0.Dropped), sl kLin none none p0.L]⟩]) ⟨(le_of_eq (eg (os rfl oz))).trans (sl_le _ (some (s.fr.length + 0)) none _), trivial⟩ (bnd_cons (sl_b kb_Lin) bnd_nil) (Nat.le_of_ble_eq_true rfl) (by simp only [na, nb, nc, nd, nf, ng, nh, ni, nj, nk] <;> rfl) (bxle_same bxle_nil) rfl (by simp only [na, nb, nc, nd, nf, ng, nh, ni, nj, nk] <;> rfl) (bl_cons (bnd_cons (pl_bnd _ _ _) (bnd_cons (sl_b kb_Lin) bnd_nil)) bl_nil) ?_
        exact ⟨t_3.1, ⟨le_of_eq (eg oz), trivial⟩, rfl, some_of hz_2⟩
    · rintro e st ⟨vz_2, hH, rfl, rfl⟩
      refine aw_keep _ hH ?_
      refine aw_keep [(7, _)] ⟨lg oz, trivial⟩ ?_
      refine aw_seq ?_
      refine aw_region (by decide) ?_
      refine rts _ rfl (opD_move oz) ?_
      refine rts _ rfl (opD_assign lz) ?_
      refine rts _ rfl (opD_assign (ev_const _ _)) ?_
      refine .nil ?_
      refine aw_keep [(4, _), (5, _)] ⟨lg (ls rfl lz), lg lz, trivial⟩ ?_
      refine aw_ret ?_
      obtain rfl := some_of h0
      exact done_ext (.inr rfl) ((res_list (rs := [_, _]) (ps := [_, _]) rfl rfl ⟨it_tmp oz, it_tmp (os rfl oz), trivial⟩).le (tup_le ⟨(Pd.le_refl _), (Pd.le_refl _), trivial⟩)) (tup_bnd (bnd_cons (sl_b kb_Lin) (bnd_cons (pl_bnd _ _ _) bnd_nil)))

def F_lenc_b0 (p0 : Lgr) (t_5 : (List Int) × Int) : Option (((List Int) × Int) ⊕ (((List Int)))) :=
  ifb (decide (t_5.2 < (p0.L.length : Int))) (ixb p0.L t_5.2 fun x_7 => bnd (oNum t_5.1 x_7.Who) fun x_8 => bnd (oByte x_8 x_7.What) fun x_9 => bnd (oNum x_9 (IntKind.u64.wrap (x_7.Code))) fun x_10 => bnd (oBytes x_10 (bytesOf x_7.Key)) fun x_11 => some (.inl (x_11, IntKind.i64.wrap (t_5.2 + 1)))) (some (.inr t_5.1))
def F_lenc (fl : Nat) (p0 : Lgr) : Option ((List Int) × (Option Int)) :=
  bnd (F_lcheck fl p0) fun x_1 => ifb x_1.isSome (some ([], x_1)) (bnd (oNum [] p0.Dropped) fun x_2 => bnd (oNum x_2 (IntKind.u64.wrap ((p0.L.length : Int)))) fun x_3 => bnd (lp (F_lenc_b0 p0) fl (x_3, 0)) fun z_4 => some (z_4, none))
set_option maxRecDepth 100000 in
set_option maxHeartbeats 2000000 in
theorem c_lenc {fl : Nat} {p0 : Lgr} {R : (List Int) × (Option Int)} (h0 : F_lenc fl p0 = some R) : Pure Go.Proofs.Tryd.prog 37 [agg [pl (.int .u64 p0.Dropped), sl kLin none none p0.L]] (tup [sl (kI .u8) none none R.1, pl (errV R.2)]) := by
  intro s
  unfold F_lenc at h0
  refine ac_of_aw s.boxes.length s.fr.length Go.Proofs.Tryd.func37 rfl (by simp [Go.Proofs.Tryd.ntmps37]) ?_
  refine aw_ext0 ?_
  refine aw_keep [(0, _)] ⟨lg ez, trivial⟩ ?_
  refine aw_seq ?_
  refine aw_region (by decide) ?_
  refine rts _ rfl (boxAN rfl oz (bnd_cons (pl_bnd _ _ _) (bnd_cons (sl_b kb_Lin) bnd_nil)) (by first | exact List.length_nil | (simp only [List.length_cons, List.length_nil, Nat.zero_add, Nat.reduceAdd] <;> rfl)) (by simp only [na, nb, nc, nd, nf, ng, nh, ni, nj, nk] <;> rfl)) ?_
  refine rts _ rfl (opD_assign (ev_const _ _)) ?_
  refine rts _ rfl (opD_assign (ev_const _ _)) ?_
  refine .nil ?_
  refine aw_keep [(1, _)] ⟨lg (ls rfl (ls rfl lz)), trivial⟩ ?_
  refine aw_seq ?_
  refine aw_seq ?_
  refine aw_region (by decide) ?_
  refine rts _ rfl (opD_load_aggX (qs := [_, _]) ag57_U9 sz57_U9 oz (loc_getN rfl rfl) (Nat.le_of_ble_eq_true rfl) rfl) ?_
  replace h0 := bnd_some h0
  obtain ⟨x_1, hx_1, h0⟩ := h0
  refine rts _ rfl (opD_pure ht47_U9 (c_lcheck hx_1) ⟨(le_of_eq lz).trans (agg_le ⟨(Pd.le_refl _), (Pd.le_refl _), trivial⟩), trivial⟩) ?_
  refine rts _ rfl (opD_assign lz) ?_
  refine .nil ?_
  refine aw_keep [(1, _), (4, _)] ⟨lg (ls rfl (ls rfl (ls rfl oz))), lg lz, trivial⟩ ?_
  refine aw_seq ?_
  refine aw_region (by decide) ?_
  refine rts _ rfl (opD_move (os rfl oz)) ?_
  refine rts _ rfl (opD_bin lz (ev_const _ _) (fun w => errV_guard _ w _) (fun w => errV_beq _ w)) ?_
  refine .nil ?_
  refine aw_keep [(1, _), (4, _), (11, _)] ⟨lg (ls rfl (ls rfl oz)), lg (ls rfl (ls rfl (os rfl oz))), lg lz, trivial⟩ ?_
  refine aw_cond _ (os rfl (os rfl oz)) (fun hc => ?_) (fun hc => ?_)
  · skip
    replace h0 := ifb_t h0 hc
    clear hc
    refine aw_seq ?_
    refine aw_region (by decide) ?_
    refine rts _ rfl (opD_move (os rfl oz)) ?_
    refine rts _ rfl (opD_assign (ev_const _ _)) ?_
    refine rts _ rfl (opD_assign (ls rfl lz)) ?_
    refine .nil ?_
    refine aw_keep [(2, _), (3, _)] ⟨lg (ls rfl lz), lg lz, trivial⟩ ?_
    refine aw_ret ?_
    obtain rfl := some_of h0
    exact done_ext (.inr rfl) ((res_list (rs := [_, _]) (ps := [_, _]) rfl rfl ⟨it_tmp oz, it_tmp (os rfl oz), trivial⟩).le (tup_le ⟨(le_nil rfl), (Pd.le_refl _), trivial⟩)) (tup_bnd (bnd_cons (sl_b (kb_I _)) (bnd_cons (pl_bnd _ _ _) bnd_nil)))
  · skip
    replace h0 := ifb_f h0 hc
    clear hc
    refine aw_skip ?_
    refine aw_keep [(1, _)] ⟨lg oz, trivial⟩ ?_
    refine aw_seq ?_
    refine aw_drawn [false, false, true, false, false, false, false, true, false] [[0], [0], [0, 1], [0, 1], [0, 1], [0, 1], [0, 1], [1, 2], [2]] mixed_U9 (by decide +kernel) ?_
    refine dtp _ rfl (fun s => opD_fieldAddr fo57_0_U9 oz) ?_
    refine dtlG1 ag22_U9 lz (loc_getN rfl rfl) rfl rfl ?_
    replace h0 := bnd_some h0
    obtain ⟨x_2, hx_2, h0⟩ := h0
    refine dta _ rfl (opD_own1 ht21_U9 (c_oNum hx_2) ⟨(le_of_eq (ev_const _ _)).trans (le_nil rfl), le_of_eq lz, trivial⟩ (by first | exact List.length_nil | (simp only [List.length_cons, List.length_nil, Nat.zero_add, Nat.reduceAdd] <;> rfl)) (by simp only [na, nb, nc, nd, nf, ng, nh, ni, nj, nk] <;> rfl)) ?_
    refine dtp _ rfl (fun s => opD_fieldAddr fo57_1_U9 (ls rfl (ls rfl (ls rfl oz)))) ?_
    refine dtlG1 ag55_U9 lz (loc_getN rfl rfl) rfl rfl ?_
    refine dtp _ rfl (fun s => opD_len_sl Go.Proofs.Tryd.underlying55 lz) ?_
    refine dtp _ rfl (fun s => opD_conv_int Go.Proofs.Tryd.underlying3 Go.Proofs.Tryd.underlying22 lz rfl) ?_
    replace h0 := bnd_some h0
    obtain ⟨x_3, hx_3, h0⟩ := h0
    refine dta _ rfl (opD_adopt (j := 0) (kb_I _) (opD_own1 ht21_U9 (c_oNum hx_3) ⟨(le_of_eq (ls rfl (ls rfl (ls rfl (ls rfl lz))))).trans (sl_any _ _ _ _), le_of_eq lz, trivial⟩ (by first | exact List.length_nil | (simp only [List.length_cons, List.length_nil, Nat.zero_add, Nat.reduceAdd] <;> rfl)) rfl) (by first | exact List.length_nil | (simp only [List.length_cons, List.length_nil, Nat.zero_add, Nat.reduceAdd] <;> rfl)) rfl (len_oNum hx_3) (by simp only [na, nb, nc, nd, nf, ng, nh, ni, nj, nk] <;> rfl)) ?_
    refine dtp _ rfl (fun s => opD_assign lz) ?_
    refine .nil ?_
    dsimp only [List.nil_append, List.cons_append]
    refine ⟨rfl, ⟨trivial, ⟨(by first | exact loc_getN rfl rfl | exact updx_get hlt | exact upd2_g hgh hlt | exact upd2_h hlt2), trivial⟩, trivial, trivial, ⟨(by first | exact loc_getN rfl rfl | exact updx_get hlt | exact upd2_g hgh hlt | exact upd2_h hlt2), (by first | exact loc_getN rfl rfl | exact updx_get hlt | exact upd2_g hgh hlt | exact upd2_h hlt2), trivial⟩, trivial, trivial, trivial, trivial, trivial⟩, ?_⟩
    refine aw_keep [(1, _), (5, _)] ⟨lg (ls rfl (ls rfl (ls rfl (ls rfl (ls rfl (ls rfl (ls rfl (ls rfl (ls rfl oz))))))))), lg lz, trivial⟩ ?_
    refine aw_seq ?_
    refine aw_seq ?_
    refine aw_region (by decide) ?_
    refine rts _ rfl (opD_fieldAddr fo57_1_U9 oz) ?_
    refine rts _ rfl (opD_load_one ag55_U9 lz (loc_getN rfl rfl) rfl) ?_
    refine rts _ rfl (opD_len_sl Go.Proofs.Tryd.underlying55 lz) ?_
    refine rts _ rfl (opD_move (ev_const _ _)) ?_
    refine .nil ?_
    refine aw_keep [(5, _), (22, _), (23, _), (24, _)] ⟨lg (ls rfl (ls rfl (ls rfl (ls rfl (os rfl oz))))), lg (ls rfl (ls rfl lz)), lg (ls rfl lz), lg lz, trivial⟩ ?_
    replace h0 := bnd_some h0
    obtain ⟨z_4, hz_4, h0⟩ := h0
    refine aw_mid (fun e st => ∃ v : (List Int), Holds e [(5, sl (kI .u8) (some (s.fr.length + 0)) none v)] ∧ st = s.ext [⟨57, [pl (.int .u64 p0.Dropped), sl kLin none none p0.L]⟩] [⟨5, 1, v.length⟩] ∧ v = z_4) ?_ ?_
    · skip
      refine aw_wkN rfl 1 1 rfl rfl ?_
      refine aw_block ?_
      refine aw_loop (fun n e st => ∃ v : (List Int) × Int, Holds e [(5, sl (kI .u8) (some (s.fr.length + 0)) none v.1), (22, sl kLin none none p0.L), (23, pl (.int .i64 (p0.L.length : Int))), (24, pl (.int .i64 v.2))] ∧ st = s.ext [⟨57, [pl (.int .u64 p0.Dropped), sl kLin none none p0.L]⟩] [⟨5, 1, v.1.length⟩] ∧ lp (F_lenc_b0 p0) n v = some z_4) fl ⟨(x_3, 0), ⟨le_of_eq (eg oz), le_of_eq (eg (os rfl oz)), le_of_eq (eg (os rfl (os rfl oz))), le_of_eq (eg (os rfl (os rfl (os rfl oz)))), trivial⟩, rfl, hz_4⟩ ?_
      rintro n e st ⟨t_5, hH, rfl, hz_4⟩
      replace hz_4 := lp_some hz_4
      obtain ⟨m_z_6, z_6, rfl, hz_6, hz_4⟩ := hz_4
      unfold F_lenc_b0 at hz_6
      refine aw_keep _ hH ?_
      refine aw_wkN rfl 1 1 rfl rfl ?_
      refine aw_seq ?_
      refine aw_region (by decide) ?_
      refine rts _ rfl (opD_lss (os rfl (os rfl (os rfl oz))) (os rfl (os rfl oz))) ?_
      refine .nil ?_
      refine aw_keep [(5, _), (22, _), (23, _), (24, _), (25, _)] ⟨lg (ls rfl oz), lg (ls rfl (os rfl oz)), lg (ls rfl (os rfl (os rfl oz))), lg (ls rfl (os rfl (os rfl (os rfl oz)))), lg lz, trivial⟩ ?_
      refine aw_seq ?_
      refine aw_cond _ (os rfl (os rfl (os rfl (os rfl oz)))) (fun hc => ?_) (fun hc => ?_)
      · skip
        replace hz_6 := ifb_t hz_6 hc
        clear hc
        refine aw_skip ?_
        refine aw_keep [(5, _), (22, _), (23, _), (24, _)] ⟨lg oz, lg (os rfl oz), lg (os rfl (os rfl oz)), lg (os rfl (os rfl (os rfl oz))), trivial⟩ ?_
        refine aw_seq ?_
        refine aw_block ?_
        refine aw_seq ?_
        refine aw_region (by decide) ?_
        replace hz_6 := ixb_some hz_6
        obtain ⟨x_7, hx_7, hbx_7, hz_6⟩ := hz_6
        refine rts _ rfl (opD_indexAddr_sl (i := t_5.2.toNat) Go.Proofs.Tryd.underlying55 sz63_U9 (os rfl oz) (os rfl (os rfl (os rfl oz))) hbx_7.2.2 hbx_7.2.1) ?_
        refine rts _ rfl (opD_load_el_aggX (qs := [_, _, _, _, _]) ag63_U9 sz63_U9 lz hx_7 (Nat.le_of_ble_eq_true rfl) rfl) ?_
        refine rts _ rfl (allocN rfl zt63_U9 (by first | exact List.length_nil | (simp only [List.length_cons, List.length_nil, Nat.zero_add, Nat.reduceAdd] <;> rfl)) (by simp only [na, nb, nc, nd, nf, ng, nh, ni, nj, nk] <;> rfl)) ?_
        refine rts _ rfl (storeAN rfl sz63_U9 lz (ls rfl lz) (ones_cons (one_pl rfl) (ones_cons (one_pl rfl) (ones_cons (one_pl rfl) (ones_cons (one_pl rfl) (ones_cons (one_pl rfl) ones_nil))))) rfl rfl (Nat.le_of_ble_eq_true rfl) (List.cons_ne_nil _ _) (bnd_cons (pl_bnd _ _ _) (bnd_cons (pl_bnd _ _ _) (bnd_cons (pl_bnd _ _ _) (bnd_cons (pl_bnd _ _ _) (bnd_cons (pl_bnd _ _ _) bnd_nil))))) (by simp only [na, nb, nc, nd, nf, ng, nh, ni, nj, nk] <;> rfl) (by simp only [na, nb, nc, nd, nf, ng, nh, ni, nj, nk] <;> rfl)) ?_
        refine .nil ?_
        refine aw_keep [(5, _), (7, _), (22, _), (23, _), (24, _)] ⟨lg (lx (ls rfl (ls rfl (ls rfl oz)))), lg (lx lz), lg (lx (ls rfl (ls rfl (ls rfl (os rfl oz))))), lg (lx (ls rfl (ls rfl (ls rfl (os rfl (os rfl oz)))))), lg (lx (ls rfl (ls rfl (ls rfl (os rfl (os rfl (os rfl oz))))))), trivial⟩ ?_
        refine aw_seq ?_
        refine aw_drawn [false, false, false, true, false, false, true, false] [[0], [0], [0], [0, 1], [0, 1], [0, 1], [1, 2], [2]] mixed_U9 (by decide +kernel) ?_
        refine dtp _ rfl (fun s => opD_move oz) ?_
        refine dtp _ rfl (fun s => opD_fieldAddr fo63_1_U9 (ls rfl (os rfl oz))) ?_
        refine dtlG1 ag22_U9 lz (loc_getN rfl rfl) rfl rfl ?_
        replace hz_6 := bnd_some hz_6
        obtain ⟨x_8, hx_8, hz_6⟩ := hz_6
        refine dta _ rfl (opD_adopt (j := 0) (kb_I _) (opD_own1 ht21_U9 (c_oNum hx_8) ⟨(le_of_eq (ls rfl (ls rfl lz))).trans (sl_any _ _ _ _), le_of_eq lz, trivial⟩ (by first | exact List.length_nil | (simp only [List.length_cons, List.length_nil, Nat.zero_add, Nat.reduceAdd] <;> rfl)) rfl) (by first | exact List.length_nil | (simp only [List.length_cons, List.length_nil, Nat.zero_add, Nat.reduceAdd] <;> rfl)) rfl (len_oNum hx_8) (by simp only [na, nb, nc, nd, nf, ng, nh, ni, nj, nk] <;> rfl)) ?_
        refine dtp _ rfl (fun s => opD_fieldAddr fo63_2_U9 (ls rfl (ls rfl (ls rfl (ls rfl (os rfl oz)))))) ?_
        refine dtlG1 ag5_U9 lz (loc_getN rfl rfl) rfl rfl ?_
        replace hz_6 := bnd_some hz_6
        obtain ⟨x_9, hx_9, hz_6⟩ := hz_6
        refine dta _ rfl (opD_adopt (j := 0) (kb_I _) (opD_own1 ht19_U9 (c_oByte hx_9) ⟨(le_of_eq (ls rfl (ls rfl lz))).trans (sl_any _ _ _ _), le_of_eq lz, trivial⟩ (by first | exact List.length_nil | (simp only [List.length_cons, List.length_nil, Nat.zero_add, Nat.reduceAdd] <;> rfl)) rfl) (by first | exact List.length_nil | (simp only [List.length_cons, List.length_nil, Nat.zero_add, Nat.reduceAdd] <;> rfl)) rfl (len_oByte hx_9) (by simp only [na, nb, nc, nd, nf, ng, nh, ni, nj, nk] <;> rfl)) ?_
        refine dtp _ rfl (fun s => opD_assign lz) ?_
        refine .nil ?_
        dsimp only [List.nil_append, List.cons_append]
        refine ⟨rfl, ⟨trivial, trivial, ⟨(by first | exact loc_getN rfl rfl | exact updx_get hlt | exact upd2_g hgh hlt | exact upd2_h hlt2), trivial⟩, trivial, trivial, ⟨(by first | exact loc_getN rfl rfl | exact updx_get hlt | exact upd2_g hgh hlt | exact upd2_h hlt2), (by first | exact loc_getN rfl rfl | exact updx_get hlt | exact upd2_g hgh hlt | exact upd2_h hlt2), trivial⟩, trivial, trivial, trivial⟩, ?_⟩
        refine aw_keep [(5, _), (7, _), (22, _), (23, _), (24, _)] ⟨lg lz, lg (ls rfl (ls rfl (ls rfl (ls rfl (ls rfl (ls rfl (ls rfl (ls rfl (os rfl oz))))))))), lg (ls rfl (ls rfl (ls rfl (ls rfl (ls rfl (ls rfl (ls rfl (ls rfl (os rfl (os rfl oz)))))))))), lg (ls rfl (ls rfl (ls rfl (ls rfl (ls rfl (ls rfl (ls rfl (ls rfl (os rfl (os rfl (os rfl oz))))))))))), lg (ls rfl (ls rfl (ls rfl (ls rfl (ls rfl (ls rfl (ls rfl (ls rfl (os rfl (os rfl (os rfl (os rfl oz)))))))))))), trivial⟩ ?_
        refine aw_drawn [false, false, false, false, true, false, false, false, true, false] [[0], [0], [0], [0], [0, 1], [0, 1], [0, 1], [0, 1], [1, 2], [2]] mixed_U9 (by decide +kernel) ?_
        refine dtp _ rfl (fun s => opD_move oz) ?_
        refine dtp _ rfl (fun s => opD_fieldAddr fo63_3_U9 (ls rfl (os rfl oz))) ?_
        refine dtlG1 ag58_U9 lz (loc_getN rfl rfl) rfl rfl ?_
        refine dtp _ rfl (fun s => opD_conv_int Go.Proofs.Tryd.underlying58 Go.Proofs.Tryd.underlying22 lz rfl) ?_
        replace hz_6 := bnd_some hz_6
        obtain ⟨x_10, hx_10, hz_6⟩ := hz_6
        refine dta _ rfl (opD_adopt (j := 0) (kb_I _) (opD_own1 ht21_U9 (c_oNum hx_10) ⟨(le_of_eq (ls rfl (ls rfl (ls rfl lz)))).trans (sl_any _ _ _ _), le_of_eq lz, trivial⟩ (by first | exact List.length_nil | (simp only [List.length_cons, List.length_nil, Nat.zero_add, Nat.reduceAdd] <;> rfl)) rfl) (by first | exact List.length_nil | (simp only [List.length_cons, List.length_nil, Nat.zero_add, Nat.reduceAdd] <;> rfl)) rfl (len_oNum hx_10) (by simp only [na, nb, nc, nd, nf, ng, nh, ni, nj, nk] <;> rfl)) ?_
        refine dtp _ rfl (fun s => opD_fieldAddr fo63_4_U9 (ls rfl (ls rfl (ls rfl (ls rfl (ls rfl (os rfl oz))))))) ?_
        refine dtlG1 ag9_U9 lz (loc_getN rfl rfl) rfl rfl ?_
        refine dtp _ rfl (fun s => opD_str_bytes Go.Proofs.Tryd.underlying9 Go.Proofs.Tryd.underlying23 Go.Proofs.Tryd.underlying5 lz) ?_
        replace hz_6 := bnd_some hz_6
        obtain ⟨x_11, hx_11, hz_6⟩ := hz_6
        refine dta _ rfl (opD_adopt (j := 0) (kb_I _) (opD_own1 ht20_U9 (c_oBytes hx_11) ⟨(le_of_eq (ls rfl (ls rfl (ls rfl lz)))).trans (sl_any _ _ _ _), (le_of_eq lz).trans (sl_any _ _ _ _), trivial⟩ (by first | exact List.length_nil | (simp only [List.length_cons, List.length_nil, Nat.zero_add, Nat.reduceAdd] <;> rfl)) rfl) (by first | exact List.length_nil | (simp only [List.length_cons, List.length_nil, Nat.zero_add, Nat.reduceAdd] <;> rfl)) rfl (len_oBytes hx_11) (by simp only [na, nb, nc, nd, nf, ng, nh, ni, nj, nk] <;> rfl)) ?_
        refine dtp _ rfl (fun s => opD_assign lz) ?_
        refine .nil ?_
        dsimp only [List.nil_append, List.cons_append]
        refine ⟨rfl, ⟨trivial, trivial, ⟨(by first | exact loc_getN rfl rfl | exact updx_get hlt | exact upd2_g hgh hlt | exact upd2_h hlt2), trivial⟩, trivial, trivial, trivial, ⟨(by first | exact loc_getN rfl rfl | exact updx_get hlt | exact upd2_g hgh hlt | exact upd2_h hlt2), (by first | exact loc_getN rfl rfl | exact updx_get hlt | exact upd2_g hgh hlt | exact upd2_h hlt2), trivial⟩, trivial, trivial, trivial, trivial⟩, ?_⟩
        refine aw_keep [(5, _), (22, _), (23, _), (24, _)] ⟨lg lz, lg (ls rfl (ls rfl (ls rfl (ls rfl (ls rfl (ls rfl (ls rfl (ls rfl (ls rfl (ls rfl (os rfl (os rfl oz)))))))))))), lg (ls rfl (ls rfl (ls rfl (ls rfl (ls rfl (ls rfl (ls rfl (ls rfl (ls rfl (ls rfl (os rfl (os rfl (os rfl oz))))))))))))), lg (ls rfl (ls rfl (ls rfl (ls rfl (ls rfl (ls rfl (ls rfl (ls rfl (ls rfl (ls rfl (os rfl (os rfl (os rfl (os rfl oz)))))))))))))), trivial⟩ ?_
        refine aw_region (by decide) ?_
        refine rts _ rfl (opD_add (os rfl (os rfl (os rfl oz))) (ev_const _ _) rfl) ?_
        refine rts _ rfl (opD_move lz) ?_
        refine .nil ?_
        obtain rfl := some_of hz_6
        replace hz_4 := ocs_l hz_4
        refine wk_yesN rfl (l := [(5, sl (kI .u8) (some (s.fr.length + 0)) none x_11), (22, sl kLin none none p0.L), (23, pl (.int .i64 (p0.L.length : Int))), (24, pl (.int .i64 (IntKind.i64.wrap (t_5.2 + 1))))]) (bs' := [⟨57, [pl (.int .u64 p0.Dropped), sl kLin none none p0.L]⟩]) ⟨le_of_eq (eg (ls rfl (ls rfl oz))), le_of_eq (eg (ls rfl (ls rfl (os rfl oz)))), le_of_eq (eg (ls rfl (ls rfl (os rfl (os rfl oz))))), le_of_eq (eg lz), trivial⟩ (bnd_cons (sl_ob (kb_I _) (by first | omega | (simp only [List.length_append, List.length_cons, List.length_nil, ext_fr_length, upd_fr_length]; omega))) (bnd_cons (sl_b kb_Lin) (bnd_cons (pl_bnd _ _ _) (bnd_cons (pl_bnd _ _ _) bnd_nil)))) (Nat.le_of_ble_eq_true rfl) (by simp only [na, nb, nc, nd, nf, ng, nh, ni, nj, nk] <;> rfl) (bxle_same bxle_nil) rfl (by simp only [na, nb, nc, nd, nf, ng, nh, ni, nj, nk] <;> rfl) (bl_cons (bnd_cons (pl_bnd _ _ _) (bnd_cons (sl_b kb_Lin) bnd_nil)) bl_nil) ?_
        exact ⟨m_z_6, Nat.lt_succ_self _, (x_11, IntKind.i64.wrap (t_5.2 + 1)), ⟨le_of_eq (eg oz), le_of_eq (eg (os rfl oz)), le_of_eq (eg (os rfl (os rfl oz))), le_of_eq (eg (os rfl (os rfl (os rfl oz)))), trivial⟩, rfl, hz_4⟩
      · skip
        replace hz_6 := ifb_f hz_6 hc
        clear hc
        refine aw_exit ?_
        obtain rfl := some_of hz_6
        replace hz_4 := ocs_r hz_4
        refine wk_no ?_
        refine wk_yesN rfl (l := [(5, sl (kI .u8) (some (s.fr.length + 0)) none t_5.1)]) (bs' := [⟨57, [pl (.int .u64 p0.Dropped), sl kLin none none p0.L]⟩]) ⟨le_of_eq (eg oz), trivial⟩ (bnd_cons (sl_ob (kb_I _) (by first | omega | (simp only [List.length_append, List.length_cons, List.length_nil, ext_fr_length, upd_fr_length]; omega))) bnd_nil) (Nat.le_of_ble_eq_true rfl) (by simp only [na, nb, nc, nd, nf, ng, nh, ni, nj, nk] <;> rfl) (bxle_same bxle_nil) rfl (by simp only [na, nb, nc, nd, nf, ng, nh, ni, nj, nk] <;> rfl) (bl_cons (bnd_cons (pl_bnd _ _ _) (bnd_cons (sl_b kb_Lin) bnd_nil)) bl_nil) ?_
        exact ⟨t_5.1, ⟨le_of_eq (eg oz), trivial⟩, rfl, some_of hz_4⟩
    · rintro e st ⟨vz_4, hH, rfl, rfl⟩
      refine aw_keep _ hH ?_
      refine aw_keep [(5, _)] ⟨lg oz, trivial⟩ ?_
      refine aw_seq ?_
      refine aw_region (by decide) ?_
      refine rts _ rfl (opD_move oz) ?_
      refine rts _ rfl (opD_assign lz) ?_
      refine rts _ rfl (opD_assign (ev_const _ _)) ?_
      refine .nil ?_
      refine aw_keep [(2, _), (3, _)] ⟨lg (ls rfl lz), lg lz, trivial⟩ ?_
      refine aw_ret ?_
      obtain rfl := some_of h0
      exact done_ext (.inr rfl) ((res_list (rs := [_, _]) (ps := [_, _]) rfl rfl ⟨it_tmp oz, it_tmp (os rfl oz), trivial⟩).le (tup_le ⟨(sl_any _ _ _ _), (Pd.le_refl _), trivial⟩)) (tup_bnd (bnd_cons (sl_b (kb_I _)) (bnd_cons (pl_bnd _ _ _) bnd_nil)))

def F_ldec_b0 (x_2 : (Int × Rdr)) (x_3 : (Int × Rdr)) (t_5 : Int × Rdr × (List Lin)) : Option ((Int × Rdr × (List Lin)) ⊕ ((Rdr × (List Lin)))) :=
  ifb (decide (t_5.1 < x_3.1)) (bnd (oRNum t_5.2.1 4611686018427387904) fun x_7 => bnd (oRByte x_7.2) fun x_8 => bnd (oRNum x_8.2 65535) fun x_9 => bnd (oRBytes x_9.2 40) fun x_10 => grd (Fits 40 (t_5.2.2.length + ([(⟨IntKind.u64.wrap ((IntKind.u64.wrap (x_2.1 + t_5.1)) + 1), x_7.1, x_8.1, IntKind.u16.wrap (x_9.1), (strOf x_10.1)⟩ : Lin)] : (List Lin)).length)) <| some (.inl (IntKind.u64.wrap (t_5.1 + 1), x_10.2, (t_5.2.2 ++ ([(⟨IntKind.u64.wrap ((IntKind.u64.wrap (x_2.1 + t_5.1)) + 1), x_7.1, x_8.1, IntKind.u16.wrap (x_9.1), (strOf x_10.1)⟩ : Lin)] : (List Lin)))))) (some (.inr (t_5.2.1, t_5.2.2)))
def F_ldec (fl : Nat) (p0 : (List Int)) : Option (Lgr × (Option Int)) :=
  bnd (oNew p0) fun x_1 => bnd (oRNum x_1 4611686018427387904) fun x_2 => bnd (oRNum x_2.2 32) fun x_3 => bnd (lp (F_ldec_b0 x_2 x_3) fl (0, x_3.2, ([] : (List Lin)))) fun z_4 => bnd (oRDone z_4.1) fun x_11 => bnd (gif (x_11.isSome == false) (F_lcheck fl (⟨x_2.1, z_4.2⟩ : Lgr))) fun x_12 => ifb (x_11.isSome || x_12.isSome) (some ((⟨0, []⟩ : Lgr), some 3)) (some ((⟨x_2.1, z_4.2⟩ : Lgr), none))
set_option maxRecDepth 100000 in
set_option maxHeartbeats 2000000 in
theorem c_ldec {fl : Nat} {p0 : (List Int)} {R : Lgr × (Option Int)} (h0 : F_ldec fl p0 = some R) : Pure Go.Proofs.Tryd.prog 38 [sl (kI .u8) none none p0] (tup [agg [pl (.int .u64 R.1.Dropped), sl kLin none none R.1.L], pl (errV R.2)]) := by
  intro s
  unfold F_ldec at h0
  refine ac_of_aw s.boxes.length s.fr.length Go.Proofs.Tryd.func38 rfl (by simp [Go.Proofs.Tryd.ntmps38]) ?_
  refine aw_ext0 ?_
  refine aw_keep [(0, _)] ⟨lg ez, trivial⟩ ?_
  refine aw_seq ?_
  refine aw_region (by decide) ?_
  refine rts _ rfl (allocN rfl zt57_U9 (by first | exact List.length_nil | (simp only [List.length_cons, List.length_nil, Nat.zero_add, Nat.reduceAdd] <;> rfl)) (by simp only [na, nb, nc, nd, nf, ng, nh, ni, nj, nk] <;> rfl)) ?_
  refine rts _ rfl (opD_assign (ev_const _ _)) ?_
  refine .nil ?_
  refine aw_keep [(0, _), (2, _)] ⟨lg (ls rfl (ls rfl oz)), lg (ls rfl lz), trivial⟩ ?_
  refine aw_seq ?_
  refine aw_region (by decide) ?_
  refine rts _ rfl (opD_move oz) ?_
  replace h0 := bnd_some h0
  obtain ⟨x_1, hx_1, h0⟩ := h0
  refine rts _ rfl (callNN rfl ht22_U9 (fun s => c_oNew hx_1 s) ⟨le_of_eq lz, trivial⟩ (by first | exact List.length_nil | (simp only [List.length_cons, List.length_nil, Nat.zero_add, Nat.reduceAdd] <;> rfl)) (by simp only [na, nb, nc, nd, nf, ng, nh, ni, nj, nk] <;> rfl)) ?_
  refine rts _ rfl (opD_assign lz) ?_
  refine .nil ?_
  refine aw_keep [(2, _), (4, _)] ⟨lg (ls rfl (ls rfl (ls rfl (os rfl oz)))), lg lz, trivial⟩ ?_
  refine aw_seq ?_
  refine aw_region (by decide) ?_
  refine rts _ rfl (opD_move (os rfl oz)) ?_
  replace h0 := bnd_some h0
  obtain ⟨x_2, hx_2, h0⟩ := h0
  refine rts _ rfl (callLN rfl ht23_U9 (fun s g h => c_oRNum hx_2 h) rfl ⟨le_of_eq lz, le_of_eq (ev_const _ _), trivial⟩ (by simp only [na, nb, nc, nd, nf, ng, nh, ni, nj, nk] <;> rfl)) ?_
  refine rts _ rfl (opD_build_struct (rs := [_, _]) Go.Proofs.Tryd.underlying57 pt57_U9 zt57_U9 (parts_cons (cells1 lz (one_pl rfl)) parts_nil) rfl) ?_
  refine rts _ rfl (allocN rfl zt57_U9 (by first | exact List.length_nil | (simp only [List.length_cons, List.length_nil, Nat.zero_add, Nat.reduceAdd] <;> rfl)) (by simp only [na, nb, nc, nd, nf, ng, nh, ni, nj, nk] <;> rfl)) ?_
  refine rts _ rfl (storeAN rfl sz57_U9 lz (ls rfl lz) (ones_cons (one_pl rfl) (ones_cons (one_pl rfl) ones_nil)) rfl rfl (Nat.le_of_ble_eq_true rfl) (List.cons_ne_nil _ _) (bnd_cons (pl_bnd _ _ _) (bnd_cons (pl_bnd _ _ _) bnd_nil)) (by simp only [na, nb, nc, nd, nf, ng, nh, ni, nj, nk] <;> rfl) (by simp only [na, nb, nc, nd, nf, ng, nh, ni, nj, nk] <;> rfl)) ?_
  refine .nil ?_
  refine aw_keep [(2, _), (4, _), (5, _)] ⟨lg (lx (ls rfl (ls rfl (ls rfl (ls rfl oz))))), lg (lx (ls rfl (ls rfl (ls rfl (ls rfl (os rfl oz)))))), lg (lx lz), trivial⟩ ?_
  refine aw_seq ?_
  refine aw_seq ?_
  refine aw_region (by decide) ?_
  refine rts _ rfl (opD_move (os rfl oz)) ?_
  replace h0 := bnd_some h0
  obtain ⟨x_3, hx_3, h0⟩ := h0
  refine rts _ rfl (callLN rfl ht23_U9 (fun s g h => c_oRNum hx_3 h) rfl ⟨le_of_eq lz, le_of_eq (ev_const _ _), trivial⟩ (by simp only [na, nb, nc, nd, nf, ng, nh, ni, nj, nk] <;> rfl)) ?_
  refine rts _ rfl (opD_move (ev_const _ _)) ?_
  refine .nil ?_
  refine aw_keep [(2, _), (4, _), (5, _), (14, _), (15, _)] ⟨lg (ls rfl (ls rfl (ls rfl oz))), lg (ls rfl (ls rfl (ls rfl (os rfl oz)))), lg (ls rfl (ls rfl (ls rfl (os rfl (os rfl oz))))), lg (ls rfl lz), lg lz, trivial⟩ ?_
  replace h0 := bnd_some h0
  obtain ⟨z_4, hz_4, h0⟩ := h0
  refine aw_mid (fun e st => ∃ v : Rdr × (List Lin), Holds e [(2, ptr (s.boxes.length + 0) 0), (4, ptr (s.boxes.length + 1) 0), (5, ptr (s.boxes.length + 2) 0)] ∧ st = s.ext [⟨57, [pl (.int .u64 0), pl (.slice none 0 0)]⟩, ⟨164, [sl (kI .u8) none none v.1.b_, pl (.bool v.1.wrong_)]⟩, ⟨57, [pl (.int .u64 x_2.1), sl kLin none none v.2]⟩] [] ∧ v = z_4) ?_ ?_
  · skip
    refine aw_wkN rfl 3 0 rfl rfl ?_
    refine aw_block ?_
    refine aw_fr ⟨63, 5, 0⟩ ?_
    refine aw_wkBN rfl (bs' := [⟨57, [pl (.int .u64 0), pl (.slice none 0 0)]⟩, ⟨164, [sl (kI .u8) none none x_3.2.b_, pl (.bool x_3.2.wrong_)]⟩, ⟨57, [pl (.int .u64 x_2.1), sl kLin (some (s.fr.length + 0)) none []]⟩]) (bxle_same (bxle_same (bxle_cons (B := ⟨57, [_, _]⟩) (@Eq.refl TypeId 57) (lel_cons (Pd.le_refl _) (lel_cons (nil_own rfl) lel_nil)) bxle_nil))) (bl_cons (bnd_cons (pl_bnd _ _ _) (bnd_cons (pl_bnd _ _ _) bnd_nil)) (bl_cons (bnd_cons (sl_b (kb_I _)) (bnd_cons (pl_bnd _ _ _) bnd_nil)) (bl_cons (bnd_cons (pl_bnd _ _ _) (bnd_cons (sl_ob kb_Lin (by first | omega | (simp only [List.length_append, List.length_cons, List.length_nil, ext_fr_length, upd_fr_length]; omega))) bnd_nil)) bl_nil))) ?_
    refine aw_loop (fun n e st => ∃ v : Int × Rdr × (List Lin), Holds e [(2, ptr (s.boxes.length + 0) 0), (4, ptr (s.boxes.length + 1) 0), (5, ptr (s.boxes.length + 2) 0), (14, pl (.int .u64 x_3.1)), (15, pl (.int .u64 v.1))] ∧ st = s.ext [⟨57, [pl (.int .u64 0), pl (.slice none 0 0)]⟩, ⟨164, [sl (kI .u8) none none v.2.1.b_, pl (.bool v.2.1.wrong_)]⟩, ⟨57, [pl (.int .u64 x_2.1), sl kLin (some (s.fr.length + 0)) none v.2.2]⟩] [⟨63, 5, v.2.2.length⟩] ∧ lp (F_ldec_b0 x_2 x_3) n v = some z_4) fl ⟨(0, x_3.2, ([] : (List Lin))), ⟨le_of_eq (eg oz), le_of_eq (eg (os rfl oz)), le_of_eq (eg (os rfl (os rfl oz))), le_of_eq (eg (os rfl (os rfl (os rfl oz)))), le_of_eq (eg (os rfl (os rfl (os rfl (os rfl oz))))), trivial⟩, rfl, hz_4⟩ ?_
    rintro n e st ⟨t_5, hH, rfl, hz_4⟩
    replace hz_4 := lp_some hz_4
    obtain ⟨m_z_6, z_6, rfl, hz_6, hz_4⟩ := hz_4
    unfold F_ldec_b0 at hz_6
    refine aw_keep _ hH ?_
    refine aw_wkN rfl 3 1 rfl rfl ?_
    refine aw_seq ?_
    refine aw_region (by decide) ?_
    refine rts _ rfl (opD_lss (os rfl (os rfl (os rfl (os rfl oz)))) (os rfl (os rfl (os rfl oz)))) ?_
    refine .nil ?_
    refine aw_keep [(2, _), (4, _), (5, _), (14, _), (15, _), (16, _)] ⟨lg (ls rfl oz), lg (ls rfl (os rfl oz)), lg (ls rfl (os rfl (os rfl oz))), lg (ls rfl (os rfl (os rfl (os rfl oz)))), lg (ls rfl (os rfl (os rfl (os rfl (os rfl oz))))), lg lz, trivial⟩ ?_
    refine aw_seq ?_
    refine aw_cond _ (os rfl (os rfl (os rfl (os rfl (os rfl oz))))) (fun hc => ?_) (fun hc => ?_)
    · skip
      replace hz_6 := ifb_t hz_6 hc
      clear hc
      refine aw_skip ?_
      refine aw_keep [(2, _), (4, _), (5, _), (14, _), (15, _)] ⟨lg oz, lg (os rfl oz), lg (os rfl (os rfl oz)), lg (os rfl (os rfl (os rfl oz))), lg (os rfl (os rfl (os rfl (os rfl oz)))), trivial⟩ ?_
      refine aw_seq ?_
      refine aw_block ?_
      refine aw_seq ?_
      refine aw_region (by decide) ?_
      refine rts _ rfl (opD_move (os rfl (os rfl (os rfl (os rfl oz))))) ?_
      refine rts _ rfl (opD_assign lz) ?_
      refine .nil ?_
      refine aw_keep [(2, _), (4, _), (5, _), (6, _), (14, _), (15, _)] ⟨lg (ls rfl (ls rfl oz)), lg (ls rfl (ls rfl (os rfl oz))), lg (ls rfl (ls rfl (os rfl (os rfl oz)))), lg lz, lg (ls rfl (ls rfl (os rfl (os rfl (os rfl oz))))), lg (ls rfl (ls rfl (os rfl (os rfl (os rfl (os rfl oz)))))), trivial⟩ ?_
      refine aw_seq ?_
      refine aw_drawn2X ⟨63, [pl (.int .u64 0), pl (.int .u64 0), pl (.int .u8 0), pl (.int .u16 0), pl (.string ⟨#[]⟩)]⟩ [false, false, false, false, false, false, true, false, true, false, true, false, false, false, true] [[0, 1, 2, 3], [0, 1, 2, 3], [0, 1, 2, 3], [0, 1, 2, 3], [0, 1, 2, 3], [0], [0, 1], [0, 1], [1, 2], [0, 1, 2], [2, 3], [3], [3], [0, 1, 2, 3], [3, 4]] [(true, true), (true, true), (true, true), (true, true), (true, true), (true, true), (true, true), (true, true), (true, true), (true, true), (true, true), (true, true), (true, true), (true, true), (false, true)] 13 [0, 1, 2, 3] (ptr (s.boxes.length + 3) 0) _ rfl mixed_U9 (by decide +kernel) (by simp only [na, nb, nc, nd, nf, ng, nh, ni, nj, nk] <;> rfl) ?_
      refine d2p _ rfl rfl (fun s => opD_fieldAddr fo57_0_U9 (os rfl (os rfl oz))) ?_
      refine d2l1 rfl ag22_U9 lz (loc_getN rfl rfl) rfl rfl ?_
      refine d2p _ rfl rfl (fun s => opD_move (ls rfl (ls rfl (os rfl (os rfl (os rfl oz)))))) ?_
      refine d2p _ rfl rfl (fun s => opD_add (ls rfl lz) lz rfl) ?_
      refine d2p _ rfl rfl (fun s => opD_add lz (ev_const _ _) rfl) ?_
      refine d2p _ rfl rfl (fun s => opD_move (ls rfl (ls rfl (ls rfl (ls rfl (ls rfl (os rfl oz))))))) ?_
      replace hz_6 := bnd_some hz_6
      obtain ⟨x_7, hx_7, hz_6⟩ := hz_6
      refine d2b _ rfl rfl rfl (callLN rfl ht23_U9 (fun s g h => c_oRNum hx_7 h) rfl ⟨le_of_eq lz, le_of_eq (ev_const _ _), trivial⟩ (by simp only [na, nb, nc, nd, nf, ng, nh, ni, nj, nk] <;> rfl)) (callLN rfl ht23_U9 (fun s g h => c_oRNum hx_7 h) rfl ⟨le_of_eq lz, le_of_eq (ev_const _ _), trivial⟩ (by simp only [na, nb, nc, nd, nf, ng, nh, ni, nj, nk] <;> rfl)) ?_
      refine d2p _ rfl rfl (fun s => opD_move (ls rfl (ls rfl (ls rfl (ls rfl (ls rfl (ls rfl (ls rfl (os rfl oz))))))))) ?_
      replace hz_6 := bnd_some hz_6
      obtain ⟨x_8, hx_8, hz_6⟩ := hz_6
      refine d2b _ rfl rfl rfl (callLN rfl ht25_U9 (fun s g h => c_oRByte hx_8 h) rfl ⟨le_of_eq lz, trivial⟩ (by simp only [na, nb, nc, nd, nf, ng, nh, ni, nj, nk] <;> rfl)) (callLN rfl ht25_U9 (fun s g h => c_oRByte hx_8 h) rfl ⟨le_of_eq lz, trivial⟩ (by simp only [na, nb, nc, nd, nf, ng, nh, ni, nj, nk] <;> rfl)) ?_
      refine d2p _ rfl rfl (fun s => opD_move (ls rfl (ls rfl (ls rfl (ls rfl (ls rfl (ls rfl (ls rfl (ls rfl (ls rfl (os rfl oz))))))))))) ?_
      replace hz_6 := bnd_some hz_6
      obtain ⟨x_9, hx_9, hz_6⟩ := hz_6
      refine d2b _ rfl rfl rfl (callLN rfl ht23_U9 (fun s g h => c_oRNum hx_9 h) rfl ⟨le_of_eq lz, le_of_eq (ev_const _ _), trivial⟩ (by simp only [na, nb, nc, nd, nf, ng, nh, ni, nj, nk] <;> rfl)) (callLN rfl ht23_U9 (fun s g h => c_oRNum hx_9 h) rfl ⟨le_of_eq lz, le_of_eq (ev_const _ _), trivial⟩ (by simp only [na, nb, nc, nd, nf, ng, nh, ni, nj, nk] <;> rfl)) ?_
      refine d2p _ rfl rfl (fun s => opD_conv_int Go.Proofs.Tryd.underlying22 Go.Proofs.Tryd.underlying58 lz rfl) ?_
      refine d2p _ rfl rfl (fun s => opD_build_struct (rs := [_, _, _, _, _]) Go.Proofs.Tryd.underlying63 pt63_U9 zt63_U9 (parts_cons (cells1 (ls rfl (ls rfl (ls rfl (ls rfl (ls rfl (ls rfl (ls rfl lz))))))) (one_pl rfl)) (parts_cons (cells1 (ls rfl (ls rfl (ls rfl (ls rfl (ls rfl lz))))) (one_pl rfl)) (parts_cons (cells1 (ls rfl (ls rfl (ls rfl lz))) (one_pl rfl)) (parts_cons (cells1 lz (one_pl rfl)) parts_nil)))) (fill_step rfl (by rfl) (by rfl) (by simp only [na, nb, nl, nc, nd, nh, ni, nj, nk, nm, Nat.reduceAdd] <;> rfl) (fill_step rfl (by rfl) (by rfl) (by simp only [na, nb, nl, nc, nd, nh, ni, nj, nk, nm, Nat.reduceAdd] <;> rfl) (fill_step rfl (by rfl) (by rfl) (by simp only [na, nb, nl, nc, nd, nh, ni, nj, nk, nm, Nat.reduceAdd] <;> rfl) (fill_step rfl (by rfl) (by rfl) (by simp only [na, nb, nl, nc, nd, nh, ni, nj, nk, nm, Nat.reduceAdd] <;> rfl) fill_nil))))) ?_
      refine d2f (ptr (s.boxes.length + 3) 0) rfl ?_
      refine d2y _ rfl rfl rfl (storeAN rfl sz63_U9 lz (ls rfl lz) (ones_cons (one_pl rfl) (ones_cons (one_pl rfl) (ones_cons (one_pl rfl) (ones_cons (one_pl rfl) (ones_cons (one_pl rfl) ones_nil))))) rfl rfl (Nat.le_of_ble_eq_true rfl) (List.cons_ne_nil _ _) (bnd_cons (pl_bnd _ _ _) (bnd_cons (pl_bnd _ _ _) (bnd_cons (pl_bnd _ _ _) (bnd_cons (pl_bnd _ _ _) (bnd_cons (pl_bnd _ _ _) bnd_nil))))) (by simp only [na, nb, nc, nd, nf, ng, nh, ni, nj, nk] <;> rfl) (by simp only [na, nb, nc, nd, nf, ng, nh, ni, nj, nk] <;> rfl)) ?_
      refine .nil ?_
      dsimp only [List.nil_append, List.cons_append]
      refine ⟨rfl, ⟨trivial, ⟨(by first | exact loc_getN rfl rfl | exact updx_get hlt | exact upd2_g hgh hlt | exact upd2_h hlt2), (by first | exact loc_getN rfl rfl | exact updx_get hlt | exact upd2_g hgh hlt | exact upd2_h hlt2), (by first | exact loc_getN rfl rfl | exact updx_get hlt | exact upd2_g hgh hlt | exact upd2_h hlt2), (by first | exact loc_getN rfl rfl | exact updx_get hlt | exact upd2_g hgh hlt | exact upd2_h hlt2), trivial⟩, trivial, trivial, trivial, trivial, trivial, trivial, trivial, trivial, trivial, trivial, trivial, trivial, trivial, trivial⟩, ⟨trivial, ⟨(by first | exact loc_getN rfl rfl | exact updx_get hlt | exact upd2_g hgh hlt | exact upd2_h hlt2), (by first | exact loc_getN rfl rfl | exact updx_get hlt | exact upd2_g hgh hlt | exact upd2_h hlt2), (by first | exact loc_getN rfl rfl | exact updx_get hlt | exact upd2_g hgh hlt | exact upd2_h hlt2), (by first | exact loc_getN rfl rfl | exact updx_get hlt | exact upd2_g hgh hlt | exact upd2_h hlt2), trivial⟩, trivial, trivial, trivial, trivial, trivial, trivial, trivial, trivial, trivial, trivial, trivial, trivial, trivial, trivial⟩, ⟨rfl, ⟨(fun e => allocN rfl zt63_U9 rfl rfl), (fun e => allocN rfl zt63_U9 rfl rfl), (fun e => allocN rfl zt63_U9 rfl rfl), (fun e => allocN rfl zt63_U9 rfl rfl), trivial⟩⟩, ?_⟩
      refine aw_keep [(2, _), (4, _), (5, _), (7, _), (14, _), (15, _)] ⟨lg (lx (ls rfl (ls rfl (ls rfl (ls rfl (ls rfl (ls rfl (ls rfl (ls rfl (ls rfl (ls rfl (ls rfl (ls rfl (ls rfl (ls rfl oz))))))))))))))), lg (lx (ls rfl (ls rfl (ls rfl (ls rfl (ls rfl (ls rfl (ls rfl (ls rfl (ls rfl (ls rfl (ls rfl (ls rfl (ls rfl (ls rfl (os rfl oz)))))))))))))))), lg (lx (ls rfl (ls rfl (ls rfl (ls rfl (ls rfl (ls rfl (ls rfl (ls rfl (ls rfl (ls rfl (ls rfl (ls rfl (ls rfl (ls rfl (os rfl (os rfl oz))))))))))))))))), lg (lx lz), lg (lx (ls rfl (ls rfl (ls rfl (ls rfl (ls rfl (ls rfl (ls rfl (ls rfl (ls rfl (ls rfl (ls rfl (ls rfl (ls rfl (ls rfl (os rfl (os rfl (os rfl (os rfl oz))))))))))))))))))), lg (lx (ls rfl (ls rfl (ls rfl (ls rfl (ls rfl (ls rfl (ls rfl (ls rfl (ls rfl (ls rfl (ls rfl (ls rfl (ls rfl (ls rfl (os rfl (os rfl (os rfl (os rfl (os rfl oz)))))))))))))))))))), trivial⟩ ?_
      refine aw_seq ?_
      refine aw_region (by decide) ?_
      refine rts _ rfl (opD_move (os rfl oz)) ?_
      replace hz_6 := bnd_some hz_6
      obtain ⟨x_10, hx_10, hz_6⟩ := hz_6
      refine rts _ rfl (callLN rfl ht24_U9 (fun s g h => c_oRBytes hx_10 h) rfl ⟨le_of_eq lz, le_of_eq (ev_const _ _), trivial⟩ (by simp only [na, nb, nc, nd, nf, ng, nh, ni, nj, nk] <;> rfl)) ?_
      refine rts _ rfl (opD_bytes_str Go.Proofs.Tryd.underlying23 Go.Proofs.Tryd.underlying5 Go.Proofs.Tryd.underlying9 lz) ?_
      refine rts _ rfl (opD_fieldAddr fo63_4_U9 (ls rfl (ls rfl (ls rfl (os rfl (os rfl (os rfl oz))))))) ?_
      refine rts _ rfl (storeON rfl sz9_U9 lz (le_of_eq (ls rfl lz)) (one_pl rfl) rfl (Nat.le_of_ble_eq_true rfl) (pl_bnd _ _ _) (by simp only [na, nb, nc, nd, nf, ng, nh, ni, nj, nk] <;> rfl) (by simp only [na, nb, nc, nd, nf, ng, nh, ni, nj, nk] <;> rfl)) ?_
      refine .nil ?_
      refine aw_keep [(2, _), (4, _), (5, _), (7, _), (14, _), (15, _)] ⟨lg (lx (ls rfl (ls rfl (ls rfl (ls rfl oz))))), lg (lx (ls rfl (ls rfl (ls rfl (ls rfl (os rfl oz)))))), lg (lx (ls rfl (ls rfl (ls rfl (ls rfl (os rfl (os rfl oz))))))), lg (lx (ls rfl (ls rfl (ls rfl (ls rfl (os rfl (os rfl (os rfl oz)))))))), lg (lx (ls rfl (ls rfl (ls rfl (ls rfl (os rfl (os rfl (os rfl (os rfl oz))))))))), lg (lx (ls rfl (ls rfl (ls rfl (ls rfl (os rfl (os rfl (os rfl (os rfl (os rfl oz)))))))))), trivial⟩ ?_
      refine aw_region (by decide) ?_
      refine rts _ rfl (opD_fieldAddr fo57_1_U9 (os rfl (os rfl oz))) ?_
      refine rts _ rfl (opD_load_one ag55_U9 lz (loc_getN rfl rfl) rfl) ?_
      refine rts _ rfl (opD_load_aggX (qs := [_, _, _, _, _]) ag63_U9 sz63_U9 (ls rfl (ls rfl (os rfl (os rfl (os rfl oz))))) (loc_getN rfl rfl) (Nat.le_of_ble_eq_true rfl) rfl) ?_
      refine rts _ rfl (opD_buildOwn (k := kLin) ([(⟨IntKind.u64.wrap ((IntKind.u64.wrap (x_2.1 + t_5.1)) + 1), x_7.1, x_8.1, IntKind.u16.wrap (x_9.1), (strOf x_10.1)⟩ : Lin)] : (List Lin)) Go.Proofs.Tryd.underlying55 sz63_U9 zt63_U9 (by decide) rfl (parts_cons (cellsA lz) parts_nil) rfl rfl (by first | exact List.length_nil | (simp only [List.length_cons, List.length_nil, Nat.zero_add, Nat.reduceAdd] <;> rfl)) (by simp only [na, nb, nc, nd, nf, ng, nh, ni, nj, nk] <;> rfl)) ?_
      replace hz_6 := grd_some hz_6
      obtain ⟨hg_6, hz_6⟩ := hz_6
      refine rts _ rfl (opD_appendX Go.Proofs.Tryd.underlying55 el63_U9 (ls rfl (ls rfl lz)) lz rfl hg_6.1 hg_6.2 rfl (by simp only [na, nb, nc, nd, nf, ng, nh, ni, nj, nk] <;> rfl)) ?_
      refine rts _ rfl (opD_fieldAddr fo57_1_U9 (ls rfl (ls rfl (ls rfl (ls rfl (ls rfl (os rfl (os rfl oz)))))))) ?_
      refine rts _ rfl (storeON rfl sz55_U9 lz (le_of_eq (ls rfl lz)) (one_sl _ _ _ _) rfl (Nat.le_of_ble_eq_true rfl) (sl_ob kb_Lin (by first | omega | (simp only [List.length_append, List.length_cons, List.length_nil, ext_fr_length, upd_fr_length]; omega))) (by simp only [na, nb, nc, nd, nf, ng, nh, ni, nj, nk] <;> rfl) (by simp only [na, nb, nc, nd, nf, ng, nh, ni, nj, nk] <;> rfl)) ?_
      refine .nil ?_
      refine aw_keep [(2, _), (4, _), (5, _), (14, _), (15, _)] ⟨lg (lx (ls rfl (ls rfl (ls rfl (ls rfl (ls rfl (ls rfl oz))))))), lg (lx (ls rfl (ls rfl (ls rfl (ls rfl (ls rfl (ls rfl (os rfl oz)))))))), lg (lx (ls rfl (ls rfl (ls rfl (ls rfl (ls rfl (ls rfl (os rfl (os rfl oz))))))))), lg (lx (ls rfl (ls rfl (ls rfl (ls rfl (ls rfl (ls rfl (os rfl (os rfl (os rfl (os rfl oz))))))))))), lg (lx (ls rfl (ls rfl (ls rfl (ls rfl (ls rfl (ls rfl (os rfl (os rfl (os rfl (os rfl (os rfl oz)))))))))))), trivial⟩ ?_
      refine aw_region (by decide) ?_
      refine rts _ rfl (opD_add (os rfl (os rfl (os rfl (os rfl oz)))) (ev_const _ _) rfl) ?_
      refine rts _ rfl (opD_move lz) ?_
      refine .nil ?_
      obtain rfl := some_of hz_6
      replace hz_4 := ocs_l hz_4
      refine wk_yesN rfl (l := [(2, ptr (s.boxes.length + 0) 0), (4, ptr (s.boxes.length + 1) 0), (5, ptr (s.boxes.length + 2) 0), (14, pl (.int .u64 x_3.1)), (15, pl (.int .u64 (IntKind.u64.wrap (t_5.1 + 1))))]) (bs' := [⟨57, [pl (.int .u64 0), pl (.slice none 0 0)]⟩, ⟨164, [sl (kI .u8) none none x_10.2.b_, pl (.bool x_10.2.wrong_)]⟩, ⟨57, [pl (.int .u64 x_2.1), sl kLin (some (s.fr.length + 0)) none (t_5.2.2 ++ ([(⟨IntKind.u64.wrap ((IntKind.u64.wrap (x_2.1 + t_5.1)) + 1), x_7.1, x_8.1, IntKind.u16.wrap (x_9.1), (strOf x_10.1)⟩ : Lin)] : (List Lin)))]⟩]) ⟨le_of_eq (eg (ls rfl (ls rfl oz))), le_of_eq (eg (ls rfl (ls rfl (os rfl oz)))), le_of_eq (eg (ls rfl (ls rfl (os rfl (os rfl oz))))), le_of_eq (eg (ls rfl (ls rfl (os rfl (os rfl (os rfl oz)))))), le_of_eq (eg lz), trivial⟩ (bnd_cons (ptr_bnd _ (by first | omega | (simp only [List.length_append, List.length_cons, List.length_nil]; omega))) (bnd_cons (ptr_bnd _ (by first | omega | (simp only [List.length_append, List.length_cons, List.length_nil]; omega))) (bnd_cons (ptr_bnd _ (by first | omega | (simp only [List.length_append, List.length_cons, List.length_nil]; omega))) (bnd_cons (pl_bnd _ _ _) (bnd_cons (pl_bnd _ _ _) bnd_nil))))) (Nat.le_of_ble_eq_true rfl) (by simp only [na, nb, nc, nd, nf, ng, nh, ni, nj, nk] <;> rfl) (bxle_same (bxle_same (bxle_same bxle_nil))) rfl (by simp only [na, nb, nc, nd, nf, ng, nh, ni, nj, nk] <;> rfl) (bl_cons (bnd_cons (pl_bnd _ _ _) (bnd_cons (pl_bnd _ _ _) bnd_nil)) (bl_cons (bnd_cons (sl_b (kb_I _)) (bnd_cons (pl_bnd _ _ _) bnd_nil)) (bl_cons (bnd_cons (pl_bnd _ _ _) (bnd_cons (sl_ob kb_Lin (by first | omega | (simp only [List.length_append, List.length_cons, List.length_nil, ext_fr_length, upd_fr_length]; omega))) bnd_nil)) bl_nil))) ?_
      exact ⟨m_z_6, Nat.lt_succ_self _, (IntKind.u64.wrap (t_5.1 + 1), x_10.2, (t_5.2.2 ++ ([(⟨IntKind.u64.wrap ((IntKind.u64.wrap (x_2.1 + t_5.1)) + 1), x_7.1, x_8.1, IntKind.u16.wrap (x_9.1), (strOf x_10.1)⟩ : Lin)] : (List Lin)))), ⟨le_of_eq (eg oz), le_of_eq (eg (os rfl oz)), le_of_eq (eg (os rfl (os rfl oz))), le_of_eq (eg (os rfl (os rfl (os rfl oz)))), le_of_eq (eg (os rfl (os rfl (os rfl (os rfl oz))))), trivial⟩, rfl, hz_4⟩
    · skip
      replace hz_6 := ifb_f hz_6 hc
      clear hc
      refine aw_exit ?_
      obtain rfl := some_of hz_6
      replace hz_4 := ocs_r hz_4
      refine wk_no ?_
      refine wk_yesN rfl (l := [(2, ptr (s.boxes.length + 0) 0), (4, ptr (s.boxes.length + 1) 0), (5, ptr (s.boxes.length + 2) 0)]) (bs' := [⟨57, [pl (.int .u64 0), pl (.slice none 0 0)]⟩, ⟨164, [sl (kI .u8) none none t_5.2.1.b_, pl (.bool t_5.2.1.wrong_)]⟩, ⟨57, [pl (.int .u64 x_2.1), sl kLin none none t_5.2.2]⟩]) ⟨le_of_eq (eg oz), le_of_eq (eg (os rfl oz)), le_of_eq (eg (os rfl (os rfl oz))), trivial⟩ (bnd_cons (ptr_bnd _ (by first | omega | (simp only [List.length_append, List.length_cons, List.length_nil]; omega))) (bnd_cons (ptr_bnd _ (by first | omega | (simp only [List.length_append, List.length_cons, List.length_nil]; omega))) (bnd_cons (ptr_bnd _ (by first | omega | (simp only [List.length_append, List.length_cons, List.length_nil]; omega))) bnd_nil))) (Nat.le_of_ble_eq_true rfl) (by simp only [na, nb, nc, nd, nf, ng, nh, ni, nj, nk] <;> rfl) (bxle_same (bxle_same (bxle_cons (B := ⟨57, [_, _]⟩) (@Eq.refl TypeId 57) (lel_cons (Pd.le_refl _) (lel_cons (sl_le _ (some (s.fr.length + 0)) none _) lel_nil)) bxle_nil))) rfl (by simp only [na, nb, nc, nd, nf, ng, nh, ni, nj, nk] <;> rfl) (bl_cons (bnd_cons (pl_bnd _ _ _) (bnd_cons (pl_bnd _ _ _) bnd_nil)) (bl_cons (bnd_cons (sl_b (kb_I _)) (bnd_cons (pl_bnd _ _ _) bnd_nil)) (bl_cons (bnd_cons (pl_bnd _ _ _) (bnd_cons (sl_b kb_Lin) bnd_nil)) bl_nil))) ?_
      exact ⟨(t_5.2.1, t_5.2.2), ⟨le_of_eq (eg oz), le_of_eq (eg (os rfl oz)), le_of_eq (eg (os rfl (os rfl oz))), trivial⟩, rfl, some_of hz_4⟩
  · rintro e st ⟨vz_4, hH, rfl, rfl⟩
    refine aw_keep _ hH ?_
    refine aw_keep [(2, _), (4, _), (5, _)] ⟨lg oz, lg (os rfl oz), lg (os rfl (os rfl oz)), trivial⟩ ?_
    refine aw_seq ?_
    refine aw_seq ?_
    refine aw_region (by decide) ?_
    refine rts _ rfl (opD_move (os rfl oz)) ?_
    replace h0 := bnd_some h0
    obtain ⟨x_11, hx_11, h0⟩ := h0
    refine rts _ rfl (opD_call ht26_U9 (c_oRDone hx_11 (loc_getN rfl rfl)) ⟨le_of_eq lz, trivial⟩) ?_
    refine rts _ rfl (opD_bin lz (ev_const _ _) (fun w => errV_guard _ w _) (fun w => errV_beq _ w)) ?_
    refine rts _ rfl (opD_move lz) ?_
    refine rtg _ rfl lz (fun hg10_4_7 => opD_load_aggX (qs := [_, _]) ag57_U9 sz57_U9 (ls rfl (ls rfl (ls rfl (ls rfl (os rfl (os rfl oz)))))) (loc_getN rfl rfl) (Nat.le_of_ble_eq_true rfl) rfl) ?_
    replace h0 := bnd_some h0
    obtain ⟨x_12, hx_12, h0⟩ := h0
    refine rtg _ rfl (ls rfl lz) (fun hg10_5_8 => opD_pure ht47_U9 (c_lcheck (gif_some hx_12 hg10_5_8)) ⟨(le_of_eq (lz.trans (pif_pos hg10_5_8))).trans (agg_le ⟨(Pd.le_refl _), (Pd.le_refl _), trivial⟩), trivial⟩) ?_
    refine rtg _ rfl (ls rfl (ls rfl lz)) (fun hg10_6_9 => opD_bin (lz.trans (pif_pos hg10_6_9)) (ev_const _ _) (fun w => errV_guard _ w _) (fun w => errV_beq _ w)) ?_
    refine rts _ rfl (opD_or (ls rfl (ls rfl (ls rfl lz))) lz) ?_
    refine .nil ?_
    refine aw_keep [(2, _), (5, _), (49, _)] ⟨lg (ls rfl (ls rfl (ls rfl (ls rfl (ls rfl (ls rfl (ls rfl (ls rfl oz)))))))), lg (ls rfl (ls rfl (ls rfl (ls rfl (ls rfl (ls rfl (ls rfl (ls rfl (os rfl (os rfl oz)))))))))), lg lz, trivial⟩ ?_
    refine aw_cond _ (os rfl (os rfl oz)) (fun hc => ?_) (fun hc => ?_)
    · skip
      replace h0 := ifb_t h0 hc
      clear hc
      refine aw_seq ?_
      refine aw_region (by decide) ?_
      refine rts _ rfl (opD_build_struct (rs := [_, _]) Go.Proofs.Tryd.underlying57 pt57_U9 zt57_U9 parts_nil rfl) ?_
      refine rts _ rfl (opD_ple (q := pl (errV (some 3))) rfl (opD_makeInterface_pl cc107_U9 (ev_const _ _))) ?_
      refine rts _ rfl (storeAN rfl sz57_U9 (ls rfl (ls rfl oz)) (ls rfl lz) (ones_cons (one_pl rfl) (ones_cons (one_pl rfl) ones_nil)) rfl rfl (Nat.le_of_ble_eq_true rfl) (List.cons_ne_nil _ _) (bnd_cons (pl_bnd _ _ _) (bnd_cons (pl_bnd _ _ _) bnd_nil)) (by simp only [na, nb, nc, nd, nf, ng, nh, ni, nj, nk] <;> rfl) (by simp only [na, nb, nc, nd, nf, ng, nh, ni, nj, nk] <;> rfl)) ?_
      refine rts _ rfl (opD_assign (lx lz)) ?_
      refine .nil ?_
      refine aw_keep [(2, _), (3, _)] ⟨lg (ls rfl (lx (ls rfl (ls rfl oz)))), lg lz, trivial⟩ ?_
      refine aw_ret ?_
      obtain rfl := some_of h0
      exact done_ext (.inr rfl) ((res_list (rs := [_, _]) (ps := [_, _]) rfl rfl ⟨it_cellA (B := ⟨57, [_, _]⟩) ag57_U9 sz57_U9 oz (loc_getN rfl rfl) rfl, it_tmp (os rfl oz), trivial⟩).le (tup_le ⟨(agg_le ⟨(Pd.le_refl _), (le_nil rfl), trivial⟩), (Pd.le_refl _), trivial⟩)) (tup_bnd (bnd_cons (agg_bnd (bnd_cons (pl_bnd _ _ _) (bnd_cons (sl_b kb_Lin) bnd_nil))) (bnd_cons (pl_bnd _ _ _) bnd_nil)))
    · skip
      replace h0 := ifb_f h0 hc
      clear hc
      refine aw_skip ?_
      refine aw_keep [(2, _), (5, _)] ⟨lg oz, lg (os rfl oz), trivial⟩ ?_
      refine aw_seq ?_
      refine aw_region (by decide) ?_
      refine rts _ rfl (opD_load_aggX (qs := [_, _]) ag57_U9 sz57_U9 (os rfl oz) (loc_getN rfl rfl) (Nat.le_of_ble_eq_true rfl) rfl) ?_
      refine rts _ rfl (storeAN rfl sz57_U9 (ls rfl oz) lz (ones_cons (one_pl rfl) (ones_cons (one_sl _ _ _ _) ones_nil)) rfl rfl (Nat.le_of_ble_eq_true rfl) (List.cons_ne_nil _ _) (bnd_cons (pl_bnd _ _ _) (bnd_cons (sl_b kb_Lin) bnd_nil)) (by simp only [na, nb, nc, nd, nf, ng, nh, ni, nj, nk] <;> rfl) (by simp only [na, nb, nc, nd, nf, ng, nh, ni, nj, nk] <;> rfl)) ?_
      refine rts _ rfl (opD_assign (ev_const _ _)) ?_
      refine .nil ?_
      refine aw_keep [(2, _), (3, _)] ⟨lg (ls rfl (lx (ls rfl oz))), lg lz, trivial⟩ ?_
      refine aw_ret ?_
      obtain rfl := some_of h0
      exact done_ext (.inr rfl) ((res_list (rs := [_, _]) (ps := [_, _]) rfl rfl ⟨it_cellA (B := ⟨57, [_, _]⟩) ag57_U9 sz57_U9 oz (loc_getN rfl rfl) rfl, it_tmp (os rfl oz), trivial⟩).le (tup_le ⟨(agg_le ⟨(Pd.le_refl _), (Pd.le_refl _), trivial⟩), (Pd.le_refl _), trivial⟩)) (tup_bnd (bnd_cons (agg_bnd (bnd_cons (pl_bnd _ _ _) (bnd_cons (sl_b kb_Lin) bnd_nil))) (bnd_cons (pl_bnd _ _ _) bnd_nil)))
end Go.Proofs.YtmnhfpcbfdgbcaaDoor.Eng.A
