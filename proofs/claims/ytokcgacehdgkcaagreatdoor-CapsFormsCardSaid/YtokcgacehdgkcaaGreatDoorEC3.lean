/- EC3: what functions do, walked; used by the laws of this seat. -/
import Derived.Test.YtokcgacehdgkcaaGreatDoorEC2
import Derived.Test.YtokcgacehdgkcaaGreatDoorEXB
import Derived.Test.YtokcgacehdgkcaaGreatDoorEX5
import Derived.Test.YtokcgacehdgkcaaGreatDoorEngX4
namespace Go.Proofs.YtokcgacehdgkcaaGreatDoor.Eng.A
set_option linter.unusedVariables false
set_option linter.unusedSimpArgs false
open Go.RowKit Go.Proofs.YtokcgacehdgkcaaGreatDoor.Plain Go.Proofs.YtokcgacehdgkcaaGreatDoor.Eng Go.Proofs.YtokcgacehdgkcaaGreatDoor.Eng.Pk Go.Proofs.YtokcgacehdgkcaaGreatDoor.Eng.Rd

theorem ag22_C3 : aggT Go.Proofs.Tryz.prog 22 = some false := by kernel_rfl
theorem ag3_C3 : aggT Go.Proofs.Tryz.prog 3 = some false := by kernel_rfl
theorem ag37_C3 : aggT Go.Proofs.Tryz.prog 37 = some true := by kernel_rfl
theorem sz37_C3 : sizeT Go.Proofs.Tryz.prog 37 = some 2 := by kernel_rfl
theorem ag5_C3 : aggT Go.Proofs.Tryz.prog 5 = some false := by kernel_rfl
theorem ag9_C3 : aggT Go.Proofs.Tryz.prog 9 = some false := by kernel_rfl
theorem ag36_C3 : aggT Go.Proofs.Tryz.prog 36 = some true := by kernel_rfl
theorem sz36_C3 : sizeT Go.Proofs.Tryz.prog 36 = some 2 := by kernel_rfl
theorem ag4_C3 : aggT Go.Proofs.Tryz.prog 4 = some false := by kernel_rfl
theorem fo36_0_C3 : fieldOff Go.Proofs.Tryz.prog 36 0 = some 0 := by kernel_rfl
theorem ht39_C3 : hasText Go.Proofs.Tryz.prog 39 = true := by kernel_rfl
theorem fo36_1_C3 : fieldOff Go.Proofs.Tryz.prog 36 1 = some 1 := by kernel_rfl
theorem fo39_3_C3 : fieldOff Go.Proofs.Tryz.prog 39 3 = some 3 := by kernel_rfl
theorem ht49_C3 : hasText Go.Proofs.Tryz.prog 49 = true := by kernel_rfl
theorem fo39_0_C3 : fieldOff Go.Proofs.Tryz.prog 39 0 = some 0 := by kernel_rfl
theorem cc107_C3 : Go.Proofs.Tryz.prog.concrete 107 = true := by kernel_rfl
theorem fo37_0_C3 : fieldOff Go.Proofs.Tryz.prog 37 0 = some 0 := by kernel_rfl
theorem fo37_1_C3 : fieldOff Go.Proofs.Tryz.prog 37 1 = some 1 := by kernel_rfl
theorem ht94_C3 : hasText Go.Proofs.Tryz.prog 94 = true := by kernel_rfl
theorem fo39_1_C3 : fieldOff Go.Proofs.Tryz.prog 39 1 = some 1 := by kernel_rfl
theorem fo39_2_C3 : fieldOff Go.Proofs.Tryz.prog 39 2 = some 2 := by kernel_rfl
theorem ag39_C3 : aggT Go.Proofs.Tryz.prog 39 = some true := by kernel_rfl
theorem sz39_C3 : sizeT Go.Proofs.Tryz.prog 39 = some 7 := by kernel_rfl
theorem ht57_C3 : hasText Go.Proofs.Tryz.prog 57 = true := by kernel_rfl
theorem fo39_4_C3 : fieldOff Go.Proofs.Tryz.prog 39 4 = some 5 := by kernel_rfl
theorem ht58_C3 : hasText Go.Proofs.Tryz.prog 58 = true := by kernel_rfl
theorem pt39_C3 : placesT Go.Proofs.Tryz.prog 39 5 = some [(0, 1), (1, 1), (2, 1), (3, 2), (5, 2)] := by kernel_rfl
theorem zt39_C3 : zeroT Go.Proofs.Tryz.prog 39 = some [.int .u64 0, .bool false, .int .u64 0, .int .i64 0, .int .u64 0, .string ⟨#[]⟩, .int .u8 0] := by kernel_rfl
theorem ht17_C3 : hasText Go.Proofs.Tryz.prog 17 = true := by kernel_rfl
theorem ht34_C3 : hasText Go.Proofs.Tryz.prog 34 = true := by kernel_rfl
theorem ht35_C3 : hasText Go.Proofs.Tryz.prog 35 = true := by kernel_rfl
theorem mixed_C3 : Go.Proofs.Tryz.prog.follows .mixedOrders = true := by kernel_rfl
theorem ht36_C3 : hasText Go.Proofs.Tryz.prog 36 = true := by kernel_rfl
theorem ht85_C3 : hasText Go.Proofs.Tryz.prog 85 = true := by kernel_rfl
theorem ht86_C3 : hasText Go.Proofs.Tryz.prog 86 = true := by kernel_rfl
theorem ht50_C3 : hasText Go.Proofs.Tryz.prog 50 = true := by kernel_rfl
theorem zt36_C3 : zeroT Go.Proofs.Tryz.prog 36 = some [.int .i64 0, .int .u64 0] := by kernel_rfl
theorem ht53_C3 : hasText Go.Proofs.Tryz.prog 53 = true := by kernel_rfl
theorem ht54_C3 : hasText Go.Proofs.Tryz.prog 54 = true := by kernel_rfl
theorem pt36_C3 : placesT Go.Proofs.Tryz.prog 36 2 = some [(0, 1), (1, 1)] := by kernel_rfl

open Go.Proofs.YtokcgacehdgkcaaGreatDoor.Eng.Er Go.Proofs.YtokcgacehdgkcaaGreatDoor.Eng.Er2 Go.Proofs.YtokcgacehdgkcaaGreatDoor.Eng.Pb

structure Rf where
  Slot : Int
  Gen : Int
  deriving DecidableEq
instance : Inhabited Rf := ⟨⟨0, 0⟩⟩
def kRf : Kn Rf := ⟨2, fun x => [pl (.int .i64 x.Slot), pl (.int .u64 x.Gen)], fun _ => rfl, fun x p hp => by
  have h : ∀ p ∈ [pl (.int .i64 x.Slot), pl (.int .u64 x.Gen)], Pd.One p := (ones_cons (one_pl rfl) (ones_cons (one_pl rfl) ones_nil))
  exact h p hp⟩
structure Scp where
  Prefix : ByteArray
  Rights : Int
  deriving DecidableEq
instance : Inhabited Scp := ⟨⟨(⟨#[]⟩ : ByteArray), 0⟩⟩
def kScp : Kn Scp := ⟨2, fun x => [pl (.string x.Prefix), pl (.int .u8 x.Rights)], fun _ => rfl, fun x p hp => by
  have h : ∀ p ∈ [pl (.string x.Prefix), pl (.int .u8 x.Rights)], Pd.One p := (ones_cons (one_pl rfl) (ones_cons (one_pl rfl) ones_nil))
  exact h p hp⟩
structure Cap where
  Gen : Int
  Live : Bool
  Holder : Int
  From : Rf
  Scope : Scp
  deriving DecidableEq
instance : Inhabited Cap := ⟨⟨0, false, 0, default, default⟩⟩
def kCap : Kn Cap := ⟨7, fun x => [pl (.int .u64 x.Gen), pl (.bool x.Live), pl (.int .u64 x.Holder), pl (.int .i64 x.From.Slot), pl (.int .u64 x.From.Gen), pl (.string x.Scope.Prefix), pl (.int .u8 x.Scope.Rights)], fun _ => rfl, fun x p hp => by
  have h : ∀ p ∈ [pl (.int .u64 x.Gen), pl (.bool x.Live), pl (.int .u64 x.Holder), pl (.int .i64 x.From.Slot), pl (.int .u64 x.From.Gen), pl (.string x.Scope.Prefix), pl (.int .u8 x.Scope.Rights)], Pd.One p := (ones_cons (one_pl rfl) (ones_cons (one_pl rfl) (ones_cons (one_pl rfl) (ones_cons (one_pl rfl) (ones_cons (one_pl rfl) (ones_cons (one_pl rfl) (ones_cons (one_pl rfl) ones_nil)))))))
  exact h p hp⟩
theorem eq_Rf (a0 : Int) (a1 : Int) (b0 : Int) (b1 : Int) (w : World) : (binOp .eql 36 (.agg [.int .i64 a0, .int .u64 a1].toArray) (.agg [.int .i64 b0, .int .u64 b1].toArray)).run Go.Proofs.Tryz.prog w = .ok (.bool (decide (a0 = b0) && (decide (a1 = b1) && true))) w ∧ (binOp .neq 36 (.agg [.int .i64 a0, .int .u64 a1].toArray) (.agg [.int .i64 b0, .int .u64 b1].toArray)).run Go.Proofs.Tryz.prog w = .ok (.bool (!(decide (a0 = b0) && (decide (a1 = b1) && true)))) w := by
  have h := eqS (P := Go.Proofs.Tryz.prog) (t := 36) (xs := [.int .i64 a0, .int .u64 a1].toArray) (ys := [.int .i64 b0, .int .u64 b1].toArray) (w := w) Go.Proofs.Tryz.underlying36 (by kernel_rfl) (eqf_cons (by decide) (run_part_one ag3_C3 rfl w) (run_part_one ag3_C3 rfl w) (run_equalIn_int w _ _ _ _ _ _ Go.Proofs.Tryz.underlying3) (eqf_cons (by decide) (run_part_one ag22_C3 rfl w) (run_part_one ag22_C3 rfl w) (run_equalIn_int w _ _ _ _ _ _ Go.Proofs.Tryz.underlying22) eqf_nil))
  simp only [str_beq, beq_dec, Bool.and_assoc, Bool.true_and] at h
  exact h

theorem eq_Rf_g (op : BinOp) (t u : Operand) (xs ys : Array Value) (w : World) : (eqGuard op 36 t u (.agg xs) (.agg ys)).run Go.Proofs.Tryz.prog w = .ok () w := run_eqGuard_agg w op 36 t u _ _ (by kernel_rfl)

theorem eq_Cap (a0 : Int) (a1 : Bool) (a2 : Int) (a3 : Int) (a4 : Int) (a5 : ByteArray) (a6 : Int) (b0 : Int) (b1 : Bool) (b2 : Int) (b3 : Int) (b4 : Int) (b5 : ByteArray) (b6 : Int) (w : World) : (binOp .eql 39 (.agg [.int .u64 a0, .bool a1, .int .u64 a2, .int .i64 a3, .int .u64 a4, .string a5, .int .u8 a6].toArray) (.agg [.int .u64 b0, .bool b1, .int .u64 b2, .int .i64 b3, .int .u64 b4, .string b5, .int .u8 b6].toArray)).run Go.Proofs.Tryz.prog w = .ok (.bool (decide (a0 = b0) && (decide (a1 = b1) && (decide (a2 = b2) && (decide (a3 = b3) && (decide (a4 = b4) && (decide (a5 = b5) && (decide (a6 = b6) && true)))))))) w ∧ (binOp .neq 39 (.agg [.int .u64 a0, .bool a1, .int .u64 a2, .int .i64 a3, .int .u64 a4, .string a5, .int .u8 a6].toArray) (.agg [.int .u64 b0, .bool b1, .int .u64 b2, .int .i64 b3, .int .u64 b4, .string b5, .int .u8 b6].toArray)).run Go.Proofs.Tryz.prog w = .ok (.bool (!(decide (a0 = b0) && (decide (a1 = b1) && (decide (a2 = b2) && (decide (a3 = b3) && (decide (a4 = b4) && (decide (a5 = b5) && (decide (a6 = b6) && true))))))))) w := by
  have h := eqS (P := Go.Proofs.Tryz.prog) (t := 39) (xs := [.int .u64 a0, .bool a1, .int .u64 a2, .int .i64 a3, .int .u64 a4, .string a5, .int .u8 a6].toArray) (ys := [.int .u64 b0, .bool b1, .int .u64 b2, .int .i64 b3, .int .u64 b4, .string b5, .int .u8 b6].toArray) (w := w) Go.Proofs.Tryz.underlying39 (by kernel_rfl) (eqf_cons (by decide) (run_part_one ag22_C3 rfl w) (run_part_one ag22_C3 rfl w) (run_equalIn_int w _ _ _ _ _ _ Go.Proofs.Tryz.underlying22) (eqf_cons (by decide) (run_part_one ag4_C3 rfl w) (run_part_one ag4_C3 rfl w) (run_equalIn_bool w _ _ _ _ Go.Proofs.Tryz.underlying4) (eqf_cons (by decide) (run_part_one ag22_C3 rfl w) (run_part_one ag22_C3 rfl w) (run_equalIn_int w _ _ _ _ _ _ Go.Proofs.Tryz.underlying22) (eqf_cons (by decide) (run_part_agg ag36_C3 sz36_C3 _ _ w) (run_part_agg ag36_C3 sz36_C3 _ _ w) (eqn Go.Proofs.Tryz.underlying36 (by kernel_rfl) (eqf_cons (by decide) (run_part_one ag3_C3 rfl w) (run_part_one ag3_C3 rfl w) (run_equalIn_int w _ _ _ _ _ _ Go.Proofs.Tryz.underlying3) (eqf_cons (by decide) (run_part_one ag22_C3 rfl w) (run_part_one ag22_C3 rfl w) (run_equalIn_int w _ _ _ _ _ _ Go.Proofs.Tryz.underlying22) eqf_nil))) (eqf_cons (by decide) (run_part_agg ag37_C3 sz37_C3 _ _ w) (run_part_agg ag37_C3 sz37_C3 _ _ w) (eqn Go.Proofs.Tryz.underlying37 (by kernel_rfl) (eqf_cons (by decide) (run_part_one ag9_C3 rfl w) (run_part_one ag9_C3 rfl w) (run_equalIn_string w _ _ _ _ Go.Proofs.Tryz.underlying9) (eqf_cons (by decide) (run_part_one ag5_C3 rfl w) (run_part_one ag5_C3 rfl w) (run_equalIn_int w _ _ _ _ _ _ Go.Proofs.Tryz.underlying5) eqf_nil))) eqf_nil)))))
  simp only [str_beq, beq_dec, Bool.and_assoc, Bool.true_and] at h
  exact h

theorem eq_Cap_g (op : BinOp) (t u : Operand) (xs ys : Array Value) (w : World) : (eqGuard op 39 t u (.agg xs) (.agg ys)).run Go.Proofs.Tryz.prog w = .ok () w := run_eqGuard_agg w op 39 t u _ _ (by kernel_rfl)

def F_cslot (p0 : Int) : Option (Bool) :=
  some ((decide (0 ≤ p0)) && (decide (p0 < 64)))
set_option maxRecDepth 100000 in
set_option maxHeartbeats 2000000 in
theorem c_cslot {p0 : Int} {R : Bool} (h0 : F_cslot p0 = some R) : Pure Go.Proofs.Tryz.prog 39 [pl (.int .i64 p0)] (pl (.bool R)) := by
  intro s
  unfold F_cslot at h0
  refine ac_of_aw s.boxes.length s.fr.length Go.Proofs.Tryz.func39 rfl (by simp [Go.Proofs.Tryz.ntmps39]) ?_
  refine aw_ext0 ?_
  refine aw_keep [(0, _)] ⟨lg ez, trivial⟩ ?_
  refine aw_seq ?_
  refine aw_region (by decide) ?_
  refine rts _ rfl (opD_assign (ev_const _ _)) ?_
  refine .nil ?_
  refine aw_keep [(0, _)] ⟨lg (ls rfl oz), trivial⟩ ?_
  refine aw_seq ?_
  refine aw_region (by decide) ?_
  refine rts _ rfl (opD_move oz) ?_
  refine rts _ rfl (opD_geq lz (ev_const _ _)) ?_
  refine rts _ rfl (opD_move lz) ?_
  refine rtg _ rfl lz (fun hg1_3_1 => opD_move (ls rfl (ls rfl (ls rfl oz)))) ?_
  refine rtg _ rfl (ls rfl lz) (fun hg1_4_2 => opD_lss (lz.trans (pif_pos hg1_4_2)) (ev_const _ _)) ?_
  refine rts _ rfl (opD_and (ls rfl (ls rfl lz)) lz) ?_
  refine rts _ rfl (opD_assign lz) ?_
  refine .nil ?_
  refine aw_keep [(2, _)] ⟨lg lz, trivial⟩ ?_
  refine aw_ret ?_
  obtain rfl := some_of h0
  exact done_ext (.inr rfl) ((res_one rfl (it_tmp oz)).le zLr) zPb

def F_cmay (p0 : Rf) : Option (Bool) :=
  bnd (F_cslot p0.Slot) fun x_1 => some ((x_1 && (decide (1 ≤ p0.Gen))) && (decide (p0.Gen ≤ 4611686018427387904)))
set_option maxRecDepth 100000 in
set_option maxHeartbeats 2000000 in
theorem c_cmay {p0 : Rf} {R : Bool} (h0 : F_cmay p0 = some R) : Pure Go.Proofs.Tryz.prog 49 [agg [pl (.int .i64 p0.Slot), pl (.int .u64 p0.Gen)]] (pl (.bool R)) := by
  intro s
  unfold F_cmay at h0
  refine ac_of_aw s.boxes.length s.fr.length Go.Proofs.Tryz.func49 rfl (by simp [Go.Proofs.Tryz.ntmps49]) ?_
  refine aw_ext0 ?_
  refine aw_keep [(0, _)] ⟨lg ez, trivial⟩ ?_
  refine aw_seq ?_
  refine aw_region (by decide) ?_
  refine rts _ rfl (boxAN (n := 0) rfl oz (zbc zPb (zbc zPb bnd_nil)) (by first | exact List.length_nil | (simp only [List.length_cons, List.length_nil, Nat.zero_add, Nat.reduceAdd] <;> rfl)) (by simp only [znz] <;> rfl)) ?_
  refine rts _ rfl (opD_assign (ev_const _ _)) ?_
  refine .nil ?_
  refine aw_keep [(1, _)] ⟨lg (ls rfl lz), trivial⟩ ?_
  refine aw_seq ?_
  refine aw_region (by decide) ?_
  refine rts _ rfl (opD_fieldAddr fo36_0_C3 oz) ?_
  refine rts _ rfl (opD_load_one ag3_C3 lz (loc_getN rfl rfl) rfl) ?_
  replace h0 := bnd_some h0
  obtain ⟨x_1, hx_1, h0⟩ := h0
  refine rts _ rfl (opD_pure ht39_C3 (c_cslot hx_1) ⟨le_of_eq lz, trivial⟩) ?_
  refine rts _ rfl (opD_move lz) ?_
  refine rtg _ rfl lz (fun hg1_4_1 => opD_fieldAddr fo36_1_C3 (ls rfl (ls rfl (ls rfl (ls rfl oz))))) ?_
  refine rtg _ rfl (ls rfl lz) (fun hg1_5_2 => opD_load_one ag22_C3 (lz.trans (pif_pos hg1_5_2)) (loc_getN rfl rfl) rfl) ?_
  refine rtg _ rfl (ls rfl (ls rfl lz)) (fun hg1_6_3 => opD_geq (lz.trans (pif_pos hg1_6_3)) (ev_const _ _)) ?_
  refine rts _ rfl (opD_and (ls rfl (ls rfl (ls rfl lz))) lz) ?_
  refine rts _ rfl (opD_move lz) ?_
  refine rtg _ rfl lz (fun hg1_9_4 => opD_fieldAddr fo36_1_C3 (ls rfl (ls rfl (ls rfl (ls rfl (ls rfl (ls rfl (ls rfl (ls rfl (ls rfl oz)))))))))) ?_
  refine rtg _ rfl (ls rfl lz) (fun hg1_10_5 => opD_load_one ag22_C3 (lz.trans (pif_pos hg1_10_5)) (loc_getN rfl rfl) rfl) ?_
  refine rtg _ rfl (ls rfl (ls rfl lz)) (fun hg1_11_6 => opD_leq (lz.trans (pif_pos hg1_11_6)) (ev_const _ _)) ?_
  refine rts _ rfl (opD_and (ls rfl (ls rfl (ls rfl lz))) lz) ?_
  refine rts _ rfl (opD_assign lz) ?_
  refine .nil ?_
  refine aw_keep [(2, _)] ⟨lg lz, trivial⟩ ?_
  refine aw_ret ?_
  obtain rfl := some_of h0
  exact done_ext (.inr rfl) ((res_one rfl (it_tmp oz)).le zLr) zPb

def F_croot (p0 : Cap) (p1 : Int) : Option (Bool) :=
  bnd (F_cmay p0.From) fun x_1 => ifb ((!x_1) || ((decide (p0.From.Slot = p1)) != (decide (p1 = 0)))) (some false) (some ((decide (p1 ≠ 0)) || (decide (p0.From.Gen = p0.Gen))))
set_option maxRecDepth 100000 in
set_option maxHeartbeats 2000000 in
theorem c_croot {p0 : Cap} {p1 : Int} {R : Bool} (h0 : F_croot p0 p1 = some R) : Pure Go.Proofs.Tryz.prog 57 [agg [pl (.int .u64 p0.Gen), pl (.bool p0.Live), pl (.int .u64 p0.Holder), pl (.int .i64 p0.From.Slot), pl (.int .u64 p0.From.Gen), pl (.string p0.Scope.Prefix), pl (.int .u8 p0.Scope.Rights)], pl (.int .i64 p1)] (pl (.bool R)) := by
  intro s
  unfold F_croot at h0
  refine ac_of_aw s.boxes.length s.fr.length Go.Proofs.Tryz.func57 rfl (by simp [Go.Proofs.Tryz.ntmps57]) ?_
  refine aw_ext0 ?_
  refine aw_keep [(0, _), (1, _)] ⟨lg ez, lg (es ez), trivial⟩ ?_
  refine aw_seq ?_
  refine aw_region (by decide) ?_
  refine rts _ rfl (boxAN (n := 0) rfl oz (zbc zPb (zbc zPb (zbc zPb (zbc zPb (zbc zPb (zbc zPb (zbc zPb bnd_nil))))))) (by first | exact List.length_nil | (simp only [List.length_cons, List.length_nil, Nat.zero_add, Nat.reduceAdd] <;> rfl)) (by simp only [znz] <;> rfl)) ?_
  refine rts _ rfl (opD_assign (ev_const _ _)) ?_
  refine .nil ?_
  refine aw_keep [(1, _), (2, _)] ⟨lg (ls rfl (ls rfl (os rfl oz))), lg (ls rfl lz), trivial⟩ ?_
  refine aw_seq ?_
  refine aw_seq ?_
  refine aw_region (by decide) ?_
  refine rts _ rfl (opD_fieldAddr fo39_3_C3 (os rfl oz)) ?_
  refine rts _ rfl (opD_load_aggX (qs := [_, _]) ag36_C3 sz36_C3 lz (loc_getN rfl rfl) (zNb rfl) rfl) ?_
  replace h0 := bnd_some h0
  obtain ⟨x_1, hx_1, h0⟩ := h0
  refine rts _ rfl (opD_pure ht49_C3 (c_cmay hx_1) ⟨(le_of_eq lz).trans (agg_le ⟨zLr, zLr, trivial⟩), trivial⟩) ?_
  refine rts _ rfl (opD_not lz) ?_
  refine rts _ rfl (opD_move lz) ?_
  refine rtg _ rfl lz (fun hg1_5_1 => opD_fieldAddr fo39_3_C3 (ls rfl (ls rfl (ls rfl (ls rfl (ls rfl (os rfl oz))))))) ?_
  refine rtg _ rfl (ls rfl lz) (fun hg1_6_2 => opD_fieldAddr fo36_0_C3 (lz.trans (pif_pos hg1_6_2))) ?_
  refine rtg _ rfl (ls rfl (ls rfl lz)) (fun hg1_7_3 => opD_load_one ag3_C3 (lz.trans (pif_pos hg1_7_3)) (loc_getN rfl rfl) rfl) ?_
  refine rtg _ rfl (ls rfl (ls rfl (ls rfl lz))) (fun hg1_8_4 => opD_move (ls rfl (ls rfl (ls rfl (ls rfl (ls rfl (ls rfl (ls rfl (ls rfl oz))))))))) ?_
  refine rtg _ rfl (ls rfl (ls rfl (ls rfl (ls rfl lz)))) (fun hg1_9_5 => opD_eql ((ls rfl lz).trans (pif_pos hg1_9_5)) (lz.trans (pif_pos hg1_9_5))) ?_
  refine rtg _ rfl (ls rfl (ls rfl (ls rfl (ls rfl (ls rfl lz))))) (fun hg1_10_6 => opD_move (ls rfl (ls rfl (ls rfl (ls rfl (ls rfl (ls rfl (ls rfl (ls rfl (ls rfl (ls rfl oz))))))))))) ?_
  refine rtg _ rfl (ls rfl (ls rfl (ls rfl (ls rfl (ls rfl (ls rfl lz)))))) (fun hg1_11_7 => opD_eql (lz.trans (pif_pos hg1_11_7)) (ev_const _ _)) ?_
  refine rtg _ rfl (ls rfl (ls rfl (ls rfl (ls rfl (ls rfl (ls rfl (ls rfl lz))))))) (fun hg1_12_8 => opD_bneq Go.Proofs.Tryz.underlying4 ((ls rfl (ls rfl lz)).trans (pif_pos hg1_12_8)) (lz.trans (pif_pos hg1_12_8))) ?_
  refine rts _ rfl (opD_or (ls rfl (ls rfl (ls rfl (ls rfl (ls rfl (ls rfl (ls rfl (ls rfl lz)))))))) lz) ?_
  refine .nil ?_
  refine aw_keep [(1, _), (2, _), (18, _)] ⟨lg (ls rfl (ls rfl (ls rfl (ls rfl (ls rfl (ls rfl (ls rfl (ls rfl (ls rfl (ls rfl (ls rfl (ls rfl (ls rfl (ls rfl oz)))))))))))))), lg (ls rfl (ls rfl (ls rfl (ls rfl (ls rfl (ls rfl (ls rfl (ls rfl (ls rfl (ls rfl (ls rfl (ls rfl (ls rfl (ls rfl (os rfl oz))))))))))))))), lg lz, trivial⟩ ?_
  refine aw_cond _ (os rfl (os rfl oz)) (fun hc => ?_) (fun hc => ?_)
  · skip
    replace h0 := ifb_t h0 hc
    clear hc
    refine aw_seq ?_
    refine aw_region (by decide) ?_
    refine rts _ rfl (opD_assign (ev_const _ _)) ?_
    refine .nil ?_
    refine aw_keep [(4, _)] ⟨lg lz, trivial⟩ ?_
    refine aw_ret ?_
    obtain rfl := some_of h0
    exact done_ext (.inr rfl) ((res_one rfl (it_tmp oz)).le zLr) zPb
  · skip
    replace h0 := ifb_f h0 hc
    clear hc
    refine aw_skip ?_
    refine aw_keep [(1, _), (2, _)] ⟨lg oz, lg (os rfl oz), trivial⟩ ?_
    refine aw_seq ?_
    refine aw_region (by decide) ?_
    refine rts _ rfl (opD_move oz) ?_
    refine rts _ rfl (opD_neq lz (ev_const _ _)) ?_
    refine rts _ rfl (opD_move lz) ?_
    refine rtg _ rfl lz (fun hg3_3_9 => opD_fieldAddr fo39_3_C3 (ls rfl (ls rfl (ls rfl (os rfl oz))))) ?_
    refine rtg _ rfl (ls rfl lz) (fun hg3_4_10 => opD_fieldAddr fo36_1_C3 (lz.trans (pif_pos hg3_4_10))) ?_
    refine rtg _ rfl (ls rfl (ls rfl lz)) (fun hg3_5_11 => opD_load_one ag22_C3 (lz.trans (pif_pos hg3_5_11)) (loc_getN rfl rfl) rfl) ?_
    refine rtg _ rfl (ls rfl (ls rfl (ls rfl lz))) (fun hg3_6_12 => opD_fieldAddr fo39_0_C3 (ls rfl (ls rfl (ls rfl (ls rfl (ls rfl (ls rfl (os rfl oz)))))))) ?_
    refine rtg _ rfl (ls rfl (ls rfl (ls rfl (ls rfl lz)))) (fun hg3_7_13 => opD_load_one ag22_C3 (lz.trans (pif_pos hg3_7_13)) (loc_getN rfl rfl) rfl) ?_
    refine rtg _ rfl (ls rfl (ls rfl (ls rfl (ls rfl (ls rfl lz))))) (fun hg3_8_14 => opD_eql ((ls rfl (ls rfl lz)).trans (pif_pos hg3_8_14)) (lz.trans (pif_pos hg3_8_14))) ?_
    refine rts _ rfl (opD_or (ls rfl (ls rfl (ls rfl (ls rfl (ls rfl (ls rfl lz)))))) lz) ?_
    refine rts _ rfl (opD_assign lz) ?_
    refine .nil ?_
    refine aw_keep [(4, _)] ⟨lg lz, trivial⟩ ?_
    refine aw_ret ?_
    obtain rfl := some_of h0
    exact done_ext (.inr rfl) ((res_one rfl (it_tmp oz)).le zLr) zPb

def F_rchk (p0 : Int) : Option ((Option Int)) :=
  ifb (decide (63 < p0)) (some (some 1)) (some none)
set_option maxRecDepth 100000 in
set_option maxHeartbeats 2000000 in
theorem c_rchk {p0 : Int} {R : (Option Int)} (h0 : F_rchk p0 = some R) : Pure Go.Proofs.Tryz.prog 94 [pl (.int .u8 p0)] (pl (errV R)) := by
  intro s
  unfold F_rchk at h0
  refine ac_of_aw s.boxes.length s.fr.length Go.Proofs.Tryz.func94 rfl (by simp [Go.Proofs.Tryz.ntmps94]) ?_
  refine aw_ext0 ?_
  refine aw_keep [(0, _)] ⟨lg ez, trivial⟩ ?_
  refine aw_seq ?_
  refine aw_region (by decide) ?_
  refine rts _ rfl (opD_assign (ev_const _ _)) ?_
  refine .nil ?_
  refine aw_keep [(0, _)] ⟨lg (ls rfl oz), trivial⟩ ?_
  refine aw_seq ?_
  refine aw_seq ?_
  refine aw_region (by decide) ?_
  refine rts _ rfl (opD_move oz) ?_
  refine rts _ rfl (opD_gtr lz (ev_const _ _)) ?_
  refine .nil ?_
  refine aw_keep [(4, _)] ⟨lg lz, trivial⟩ ?_
  refine aw_cond _ oz (fun hc => ?_) (fun hc => ?_)
  · skip
    replace h0 := ifb_t h0 hc
    clear hc
    refine aw_seq ?_
    refine aw_region (by decide) ?_
    refine rts _ rfl (opD_ple (q := pl (errV (some 1))) rfl (opD_makeInterface_pl cc107_C3 (ev_const _ _))) ?_
    refine rts _ rfl (opD_assign lz) ?_
    refine .nil ?_
    refine aw_keep [(2, _)] ⟨lg lz, trivial⟩ ?_
    refine aw_ret ?_
    obtain rfl := some_of h0
    exact done_ext (.inr rfl) ((res_one rfl (it_tmp oz)).le zLr) zPb
  · skip
    replace h0 := ifb_f h0 hc
    clear hc
    refine aw_skip ?_
    refine aw_keep [] trivial ?_
    refine aw_seq ?_
    refine aw_region (by decide) ?_
    refine rts _ rfl (opD_assign (ev_const _ _)) ?_
    refine .nil ?_
    refine aw_keep [(2, _)] ⟨lg lz, trivial⟩ ?_
    refine aw_ret ?_
    obtain rfl := some_of h0
    exact done_ext (.inr rfl) ((res_one rfl (it_tmp oz)).le zLr) zPb

def F_schk (p0 : Scp) : Option ((Option Int)) :=
  ifb ((decide (40 < (p0.Prefix.size : Int))) || (decide (p0.Rights = 0))) (some (some 1)) (bnd (F_rchk p0.Rights) fun x_1 => some x_1)
set_option maxRecDepth 100000 in
set_option maxHeartbeats 2000000 in
theorem c_schk {p0 : Scp} {R : (Option Int)} (h0 : F_schk p0 = some R) : Pure Go.Proofs.Tryz.prog 58 [agg [pl (.string p0.Prefix), pl (.int .u8 p0.Rights)]] (pl (errV R)) := by
  intro s
  unfold F_schk at h0
  refine ac_of_aw s.boxes.length s.fr.length Go.Proofs.Tryz.func58 rfl (by simp [Go.Proofs.Tryz.ntmps58]) ?_
  refine aw_ext0 ?_
  refine aw_keep [(0, _)] ⟨lg ez, trivial⟩ ?_
  refine aw_seq ?_
  refine aw_region (by decide) ?_
  refine rts _ rfl (boxAN (n := 0) rfl oz (zbc zPb (zbc zPb bnd_nil)) (by first | exact List.length_nil | (simp only [List.length_cons, List.length_nil, Nat.zero_add, Nat.reduceAdd] <;> rfl)) (by simp only [znz] <;> rfl)) ?_
  refine rts _ rfl (opD_assign (ev_const _ _)) ?_
  refine .nil ?_
  refine aw_keep [(1, _)] ⟨lg (ls rfl lz), trivial⟩ ?_
  refine aw_seq ?_
  refine aw_seq ?_
  refine aw_region (by decide) ?_
  refine rts _ rfl (opD_fieldAddr fo37_0_C3 oz) ?_
  refine rts _ rfl (opD_load_one ag9_C3 lz (loc_getN rfl rfl) rfl) ?_
  refine rts _ rfl (opD_len_str Go.Proofs.Tryz.underlying9 lz) ?_
  refine rts _ rfl (opD_gtr lz (ev_const _ _)) ?_
  refine rts _ rfl (opD_move lz) ?_
  refine rtg _ rfl lz (fun hg1_5_1 => opD_fieldAddr fo37_1_C3 (ls rfl (ls rfl (ls rfl (ls rfl (ls rfl oz)))))) ?_
  refine rtg _ rfl (ls rfl lz) (fun hg1_6_2 => opD_load_one ag5_C3 (lz.trans (pif_pos hg1_6_2)) (loc_getN rfl rfl) rfl) ?_
  refine rtg _ rfl (ls rfl (ls rfl lz)) (fun hg1_7_3 => opD_eql (lz.trans (pif_pos hg1_7_3)) (ev_const _ _)) ?_
  refine rts _ rfl (opD_or (ls rfl (ls rfl (ls rfl lz))) lz) ?_
  refine .nil ?_
  refine aw_keep [(1, _), (11, _)] ⟨lg (ls rfl (ls rfl (ls rfl (ls rfl (ls rfl (ls rfl (ls rfl (ls rfl (ls rfl oz))))))))), lg lz, trivial⟩ ?_
  refine aw_cond _ (os rfl oz) (fun hc => ?_) (fun hc => ?_)
  · skip
    replace h0 := ifb_t h0 hc
    clear hc
    refine aw_seq ?_
    refine aw_region (by decide) ?_
    refine rts _ rfl (opD_ple (q := pl (errV (some 1))) rfl (opD_makeInterface_pl cc107_C3 (ev_const _ _))) ?_
    refine rts _ rfl (opD_assign lz) ?_
    refine .nil ?_
    refine aw_keep [(2, _)] ⟨lg lz, trivial⟩ ?_
    refine aw_ret ?_
    obtain rfl := some_of h0
    exact done_ext (.inr rfl) ((res_one rfl (it_tmp oz)).le zLr) zPb
  · skip
    replace h0 := ifb_f h0 hc
    clear hc
    refine aw_skip ?_
    refine aw_keep [(1, _)] ⟨lg oz, trivial⟩ ?_
    refine aw_seq ?_
    refine aw_region (by decide) ?_
    refine rts _ rfl (opD_fieldAddr fo37_1_C3 oz) ?_
    refine rts _ rfl (opD_load_one ag5_C3 lz (loc_getN rfl rfl) rfl) ?_
    replace h0 := bnd_some h0
    obtain ⟨x_1, hx_1, h0⟩ := h0
    refine rts _ rfl (opD_pure ht94_C3 (c_rchk hx_1) ⟨le_of_eq lz, trivial⟩) ?_
    refine rts _ rfl (opD_assign lz) ?_
    refine .nil ?_
    refine aw_keep [(2, _)] ⟨lg lz, trivial⟩ ?_
    refine aw_ret ?_
    obtain rfl := some_of h0
    exact done_ext (.inr rfl) ((res_one rfl (it_tmp oz)).le zLr) zPb

def F_cchk (p0 : Int) (p1 : Cap) : Option ((Option Int)) :=
  bnd (F_cslot p0) fun x_1 => bnd (ifb p1.Live (bnd (gif ((((x_1 && (decide (1 ≤ p1.Gen))) && (decide (p1.Gen ≤ 4611686018427387904))) && (decide (p1.Holder ≤ 4611686018427387904))) == true) (F_croot p1 p0)) fun x_3 => bnd (gif (((((x_1 && (decide (1 ≤ p1.Gen))) && (decide (p1.Gen ≤ 4611686018427387904))) && (decide (p1.Holder ≤ 4611686018427387904))) && x_3) == true) (F_schk p1.Scope)) fun x_4 => some (((((x_1 && (decide (1 ≤ p1.Gen))) && (decide (p1.Gen ≤ 4611686018427387904))) && (decide (p1.Holder ≤ 4611686018427387904))) && x_3) && x_4.isNone)) (some (((x_1 && (decide (1 ≤ p1.Gen))) && (decide (p1.Gen ≤ 4611686018427387904))) && (decide (p1.Gen = p1.Gen) && (decide (p1.Live = false) && (decide (p1.Holder = 0) && (decide (p1.From.Slot = 0) && (decide (p1.From.Gen = 0) && (decide (p1.Scope.Prefix = (⟨#[]⟩ : ByteArray)) && (decide (p1.Scope.Rights = 0) && true)))))))))) fun z_2 => ifb (!z_2) (some (some 1)) (some none)
set_option maxRecDepth 100000 in
set_option maxHeartbeats 2000000 in
theorem c_cchk {p0 : Int} {p1 : Cap} {R : (Option Int)} (h0 : F_cchk p0 p1 = some R) : Pure Go.Proofs.Tryz.prog 17 [pl (.int .i64 p0), agg [pl (.int .u64 p1.Gen), pl (.bool p1.Live), pl (.int .u64 p1.Holder), pl (.int .i64 p1.From.Slot), pl (.int .u64 p1.From.Gen), pl (.string p1.Scope.Prefix), pl (.int .u8 p1.Scope.Rights)]] (pl (errV R)) := by
  intro s
  unfold F_cchk at h0
  refine ac_of_aw s.boxes.length s.fr.length Go.Proofs.Tryz.func17 rfl (by simp [Go.Proofs.Tryz.ntmps17]) ?_
  refine aw_ext0 ?_
  refine aw_keep [(0, _), (1, _)] ⟨lg ez, lg (es ez), trivial⟩ ?_
  refine aw_seq ?_
  refine aw_region (by decide) ?_
  refine rts _ rfl (boxAN (n := 0) rfl (os rfl oz) (zbc zPb (zbc zPb (zbc zPb (zbc zPb (zbc zPb (zbc zPb (zbc zPb bnd_nil))))))) (by first | exact List.length_nil | (simp only [List.length_cons, List.length_nil, Nat.zero_add, Nat.reduceAdd] <;> rfl)) (by simp only [znz] <;> rfl)) ?_
  refine rts _ rfl (opD_assign (ev_const _ _)) ?_
  refine .nil ?_
  refine aw_keep [(0, _), (3, _)] ⟨lg (ls rfl (ls rfl oz)), lg (ls rfl lz), trivial⟩ ?_
  refine aw_seq ?_
  refine aw_region (by decide) ?_
  refine rts _ rfl (opD_move oz) ?_
  replace h0 := bnd_some h0
  obtain ⟨x_1, hx_1, h0⟩ := h0
  refine rts _ rfl (opD_pure ht39_C3 (c_cslot hx_1) ⟨le_of_eq lz, trivial⟩) ?_
  refine rts _ rfl (opD_move lz) ?_
  refine rtg _ rfl lz (fun hg1_3_1 => opD_fieldAddr fo39_0_C3 (ls rfl (ls rfl (ls rfl (os rfl oz))))) ?_
  refine rtg _ rfl (ls rfl lz) (fun hg1_4_2 => opD_load_one ag22_C3 (lz.trans (pif_pos hg1_4_2)) (loc_getN rfl rfl) rfl) ?_
  refine rtg _ rfl (ls rfl (ls rfl lz)) (fun hg1_5_3 => opD_geq (lz.trans (pif_pos hg1_5_3)) (ev_const _ _)) ?_
  refine rts _ rfl (opD_and (ls rfl (ls rfl (ls rfl lz))) lz) ?_
  refine rts _ rfl (opD_move lz) ?_
  refine rtg _ rfl lz (fun hg1_8_4 => opD_fieldAddr fo39_0_C3 (ls rfl (ls rfl (ls rfl (ls rfl (ls rfl (ls rfl (ls rfl (ls rfl (os rfl oz)))))))))) ?_
  refine rtg _ rfl (ls rfl lz) (fun hg1_9_5 => opD_load_one ag22_C3 (lz.trans (pif_pos hg1_9_5)) (loc_getN rfl rfl) rfl) ?_
  refine rtg _ rfl (ls rfl (ls rfl lz)) (fun hg1_10_6 => opD_leq (lz.trans (pif_pos hg1_10_6)) (ev_const _ _)) ?_
  refine rts _ rfl (opD_and (ls rfl (ls rfl (ls rfl lz))) lz) ?_
  refine rts _ rfl (opD_assign lz) ?_
  refine .nil ?_
  refine aw_keep [(0, _), (3, _), (5, _)] ⟨lg (ls rfl (ls rfl (ls rfl (ls rfl (ls rfl (ls rfl (ls rfl (ls rfl (ls rfl (ls rfl (ls rfl (ls rfl (ls rfl oz))))))))))))), lg (ls rfl (ls rfl (ls rfl (ls rfl (ls rfl (ls rfl (ls rfl (ls rfl (ls rfl (ls rfl (ls rfl (ls rfl (ls rfl (os rfl oz)))))))))))))), lg lz, trivial⟩ ?_
  refine aw_seq ?_
  refine aw_seq ?_
  refine aw_region (by decide) ?_
  refine rts _ rfl (opD_fieldAddr fo39_1_C3 (os rfl oz)) ?_
  refine rts _ rfl (opD_load_one ag4_C3 lz (loc_getN rfl rfl) rfl) ?_
  refine .nil ?_
  refine aw_keep [(0, _), (3, _), (5, _), (19, _)] ⟨lg (ls rfl (ls rfl oz)), lg (ls rfl (ls rfl (os rfl oz))), lg (ls rfl (ls rfl (os rfl (os rfl oz)))), lg lz, trivial⟩ ?_
  replace h0 := bnd_some h0
  obtain ⟨z_2, hz_2, h0⟩ := h0
  refine aw_mid (fun e st => ∃ v : Bool, Holds e [(5, pl (.bool v))] ∧ st = s.ext [⟨39, [pl (.int .u64 p1.Gen), pl (.bool p1.Live), pl (.int .u64 p1.Holder), pl (.int .i64 p1.From.Slot), pl (.int .u64 p1.From.Gen), pl (.string p1.Scope.Prefix), pl (.int .u8 p1.Scope.Rights)]⟩] [] ∧ v = z_2) ?_ ?_
  · skip
    refine aw_wkN rfl 1 0 rfl rfl ?_
    refine aw_cond _ (os rfl (os rfl (os rfl oz))) (fun hc => ?_) (fun hc => ?_)
    · skip
      replace hz_2 := ifb_t hz_2 hc
      clear hc
      refine aw_region (by decide) ?_
      refine rts _ rfl (opD_move (os rfl (os rfl oz))) ?_
      refine rts _ rfl (opD_move lz) ?_
      refine rtg _ rfl lz (fun hg3_2_22 => opD_fieldAddr fo39_2_C3 (ls rfl (ls rfl (os rfl oz)))) ?_
      refine rtg _ rfl (ls rfl lz) (fun hg3_3_23 => opD_load_one ag22_C3 (lz.trans (pif_pos hg3_3_23)) (loc_getN rfl rfl) rfl) ?_
      refine rtg _ rfl (ls rfl (ls rfl lz)) (fun hg3_4_24 => opD_leq (lz.trans (pif_pos hg3_4_24)) (ev_const _ _)) ?_
      refine rts _ rfl (opD_and (ls rfl (ls rfl (ls rfl lz))) lz) ?_
      refine rts _ rfl (opD_move lz) ?_
      refine rtg _ rfl lz (fun hg3_7_25 => opD_load_aggX (qs := [_, _, _, _, _, _, _]) ag39_C3 sz39_C3 (ls rfl (ls rfl (ls rfl (ls rfl (ls rfl (ls rfl (ls rfl (os rfl oz)))))))) (loc_getN rfl rfl) (zNb rfl) rfl) ?_
      refine rtg _ rfl (ls rfl lz) (fun hg3_8_26 => opD_move (ls rfl (ls rfl (ls rfl (ls rfl (ls rfl (ls rfl (ls rfl (ls rfl oz))))))))) ?_
      replace hz_2 := bnd_some hz_2
      obtain ⟨x_3, hx_3, hz_2⟩ := hz_2
      refine rtg _ rfl (ls rfl (ls rfl lz)) (fun hg3_9_27 => opD_pure ht57_C3 (c_croot (gif_some hx_3 hg3_9_27)) ⟨(le_of_eq ((ls rfl lz).trans (pif_pos hg3_9_27))).trans (agg_le ⟨zLr, zLr, zLr, zLr, zLr, zLr, zLr, trivial⟩), le_of_eq (lz.trans (pif_pos hg3_9_27)), trivial⟩) ?_
      refine rts _ rfl (opD_and (ls rfl (ls rfl (ls rfl lz))) lz) ?_
      refine rts _ rfl (opD_move lz) ?_
      refine rtg _ rfl lz (fun hg3_12_28 => opD_fieldAddr fo39_4_C3 (ls rfl (ls rfl (ls rfl (ls rfl (ls rfl (ls rfl (ls rfl (ls rfl (ls rfl (ls rfl (ls rfl (ls rfl (os rfl oz)))))))))))))) ?_
      refine rtg _ rfl (ls rfl lz) (fun hg3_13_29 => opD_load_aggX (qs := [_, _]) ag37_C3 sz37_C3 (lz.trans (pif_pos hg3_13_29)) (loc_getN rfl rfl) (zNb rfl) rfl) ?_
      replace hz_2 := bnd_some hz_2
      obtain ⟨x_4, hx_4, hz_2⟩ := hz_2
      refine rtg _ rfl (ls rfl (ls rfl lz)) (fun hg3_14_30 => opD_pure ht58_C3 (c_schk (gif_some hx_4 hg3_14_30)) ⟨(le_of_eq (lz.trans (pif_pos hg3_14_30))).trans (agg_le ⟨zLr, zLr, trivial⟩), trivial⟩) ?_
      refine rtg _ rfl (ls rfl (ls rfl (ls rfl lz))) (fun hg3_15_31 => opD_bin (lz.trans (pif_pos hg3_15_31)) (ev_const _ _) (fun w => errV_geql _ w _) (fun w => errV_eql _ w)) ?_
      refine rts _ rfl (opD_and (ls rfl (ls rfl (ls rfl (ls rfl lz)))) lz) ?_
      refine rts _ rfl (opD_assign lz) ?_
      refine .nil ?_
      refine wk_yesN rfl (l := [(5, pl (.bool (((((x_1 && (decide (1 ≤ p1.Gen))) && (decide (p1.Gen ≤ 4611686018427387904))) && (decide (p1.Holder ≤ 4611686018427387904))) && x_3) && x_4.isNone)))]) (bs' := [⟨39, [pl (.int .u64 p1.Gen), pl (.bool p1.Live), pl (.int .u64 p1.Holder), pl (.int .i64 p1.From.Slot), pl (.int .u64 p1.From.Gen), pl (.string p1.Scope.Prefix), pl (.int .u8 p1.Scope.Rights)]⟩]) ⟨le_of_eq (eg lz), trivial⟩ (zbc zPb bnd_nil) (zNb rfl) (by simp only [znz] <;> rfl) (bxle_same bxle_nil) rfl (by simp only [znz] <;> rfl) (bl_cons (zbc zPb (zbc zPb (zbc zPb (zbc zPb (zbc zPb (zbc zPb (zbc zPb bnd_nil))))))) bl_nil) ?_
      exact ⟨(((((x_1 && (decide (1 ≤ p1.Gen))) && (decide (p1.Gen ≤ 4611686018427387904))) && (decide (p1.Holder ≤ 4611686018427387904))) && x_3) && x_4.isNone), ⟨le_of_eq (eg oz), trivial⟩, rfl, some_of hz_2⟩
    · skip
      replace hz_2 := ifb_f hz_2 hc
      clear hc
      refine aw_region (by decide) ?_
      refine rts _ rfl (opD_move (os rfl (os rfl oz))) ?_
      refine rts _ rfl (opD_move lz) ?_
      refine rtg _ rfl lz (fun hg4_2_32 => opD_load_aggX (qs := [_, _, _, _, _, _, _]) ag39_C3 sz39_C3 (ls rfl (ls rfl (os rfl oz))) (loc_getN rfl rfl) (zNb rfl) rfl) ?_
      refine rtg _ rfl (ls rfl lz) (fun hg4_3_33 => opD_fieldAddr fo39_0_C3 (ls rfl (ls rfl (ls rfl (os rfl oz))))) ?_
      refine rtg _ rfl (ls rfl (ls rfl lz)) (fun hg4_4_34 => opD_load_one ag22_C3 (lz.trans (pif_pos hg4_4_34)) (loc_getN rfl rfl) rfl) ?_
      refine rtg _ rfl (ls rfl (ls rfl (ls rfl lz))) (fun hg4_5_35 => opD_build_struct (rs := [_, _, _, _, _, _, _]) Go.Proofs.Tryz.underlying39 pt39_C3 zt39_C3 (parts_cons (cells1 (lz.trans (pif_pos hg4_5_35)) (one_pl rfl)) parts_nil) rfl) ?_
      refine rtg _ rfl (ls rfl (ls rfl (ls rfl (ls rfl lz)))) (fun hg4_6_36 => opD_binA [.int .u64 p1.Gen, .bool p1.Live, .int .u64 p1.Holder, .int .i64 p1.From.Slot, .int .u64 p1.From.Gen, .string p1.Scope.Prefix, .int .u8 p1.Scope.Rights] [.int .u64 p1.Gen, .bool false, .int .u64 0, .int .i64 0, .int .u64 0, .string (⟨#[]⟩ : ByteArray), .int .u8 0] ((ls rfl (ls rfl (ls rfl lz))).trans (pif_pos hg4_6_36)) (lz.trans (pif_pos hg4_6_36)) (fun w => (eq_Cap_g _ _ _ _ _ w)) (fun w => (eq_Cap _ _ _ _ _ _ _ _ _ _ _ _ _ _ w).1)) ?_
      refine rts _ rfl (opD_and (ls rfl (ls rfl (ls rfl (ls rfl (ls rfl lz))))) lz) ?_
      refine rts _ rfl (opD_assign lz) ?_
      refine .nil ?_
      refine wk_yesN rfl (l := [(5, pl (.bool (((x_1 && (decide (1 ≤ p1.Gen))) && (decide (p1.Gen ≤ 4611686018427387904))) && (decide (p1.Gen = p1.Gen) && (decide (p1.Live = false) && (decide (p1.Holder = 0) && (decide (p1.From.Slot = 0) && (decide (p1.From.Gen = 0) && (decide (p1.Scope.Prefix = (⟨#[]⟩ : ByteArray)) && (decide (p1.Scope.Rights = 0) && true))))))))))]) (bs' := [⟨39, [pl (.int .u64 p1.Gen), pl (.bool p1.Live), pl (.int .u64 p1.Holder), pl (.int .i64 p1.From.Slot), pl (.int .u64 p1.From.Gen), pl (.string p1.Scope.Prefix), pl (.int .u8 p1.Scope.Rights)]⟩]) ⟨le_of_eq (eg lz), trivial⟩ (zbc zPb bnd_nil) (zNb rfl) (by simp only [znz] <;> rfl) (bxle_same bxle_nil) rfl (by simp only [znz] <;> rfl) (bl_cons (zbc zPb (zbc zPb (zbc zPb (zbc zPb (zbc zPb (zbc zPb (zbc zPb bnd_nil))))))) bl_nil) ?_
      exact ⟨(((x_1 && (decide (1 ≤ p1.Gen))) && (decide (p1.Gen ≤ 4611686018427387904))) && (decide (p1.Gen = p1.Gen) && (decide (p1.Live = false) && (decide (p1.Holder = 0) && (decide (p1.From.Slot = 0) && (decide (p1.From.Gen = 0) && (decide (p1.Scope.Prefix = (⟨#[]⟩ : ByteArray)) && (decide (p1.Scope.Rights = 0) && true)))))))), ⟨le_of_eq (eg oz), trivial⟩, rfl, some_of hz_2⟩
  · rintro e st ⟨vz_2, hH, rfl, rfl⟩
    refine aw_keep _ hH ?_
    refine aw_keep [(5, _)] ⟨lg oz, trivial⟩ ?_
    refine aw_seq ?_
    refine aw_seq ?_
    refine aw_region (by decide) ?_
    refine rts _ rfl (opD_move oz) ?_
    refine rts _ rfl (opD_not lz) ?_
    refine .nil ?_
    refine aw_keep [(46, _)] ⟨lg lz, trivial⟩ ?_
    refine aw_cond _ oz (fun hc => ?_) (fun hc => ?_)
    · skip
      replace h0 := ifb_t h0 hc
      clear hc
      refine aw_seq ?_
      refine aw_region (by decide) ?_
      refine rts _ rfl (opD_ple (q := pl (errV (some 1))) rfl (opD_makeInterface_pl cc107_C3 (ev_const _ _))) ?_
      refine rts _ rfl (opD_assign lz) ?_
      refine .nil ?_
      refine aw_keep [(4, _)] ⟨lg lz, trivial⟩ ?_
      refine aw_ret ?_
      obtain rfl := some_of h0
      exact done_ext (.inr rfl) ((res_one rfl (it_tmp oz)).le zLr) zPb
    · skip
      replace h0 := ifb_f h0 hc
      clear hc
      refine aw_skip ?_
      refine aw_keep [] trivial ?_
      refine aw_seq ?_
      refine aw_region (by decide) ?_
      refine rts _ rfl (opD_assign (ev_const _ _)) ?_
      refine .nil ?_
      refine aw_keep [(4, _)] ⟨lg lz, trivial⟩ ?_
      refine aw_ret ?_
      obtain rfl := some_of h0
      exact done_ext (.inr rfl) ((res_one rfl (it_tmp oz)).le zLr) zPb

def F_cenc (p0 : Int) (p1 : Cap) : Option ((List Int) × (Option Int)) :=
  bnd (F_cchk p0 p1) fun x_1 => ifb x_1.isSome (some ([], x_1)) (bnd (oNum [] p1.Gen) fun x_2 => ifb (!p1.Live) (bnd (oByte x_2 0) fun x_3 => some (x_3, none)) (bnd (oByte x_2 1) fun x_4 => bnd (oNum x_4 p1.Holder) fun x_5 => bnd (oByte x_5 (IntKind.u8.wrap (p1.From.Slot))) fun x_6 => bnd (oNum x_6 p1.From.Gen) fun x_7 => bnd (oBytes x_7 (bytesOf p1.Scope.Prefix)) fun x_8 => bnd (oByte x_8 p1.Scope.Rights) fun x_9 => some (x_9, none)))
set_option maxRecDepth 100000 in
set_option maxHeartbeats 2000000 in
theorem c_cenc {p0 : Int} {p1 : Cap} {R : (List Int) × (Option Int)} (h0 : F_cenc p0 p1 = some R) : Pure Go.Proofs.Tryz.prog 7 [pl (.int .i64 p0), agg [pl (.int .u64 p1.Gen), pl (.bool p1.Live), pl (.int .u64 p1.Holder), pl (.int .i64 p1.From.Slot), pl (.int .u64 p1.From.Gen), pl (.string p1.Scope.Prefix), pl (.int .u8 p1.Scope.Rights)]] (tup [sl (kI .u8) none none R.1, pl (errV R.2)]) := by
  intro s
  unfold F_cenc at h0
  refine ac_of_aw s.boxes.length s.fr.length Go.Proofs.Tryz.func7 rfl (by simp [Go.Proofs.Tryz.ntmps7]) ?_
  refine aw_ext0 ?_
  refine aw_keep [(0, _), (1, _)] ⟨lg ez, lg (es ez), trivial⟩ ?_
  refine aw_seq ?_
  refine aw_region (by decide) ?_
  refine rts _ rfl (boxAN (n := 0) rfl (os rfl oz) (zbc zPb (zbc zPb (zbc zPb (zbc zPb (zbc zPb (zbc zPb (zbc zPb bnd_nil))))))) (by first | exact List.length_nil | (simp only [List.length_cons, List.length_nil, Nat.zero_add, Nat.reduceAdd] <;> rfl)) (by simp only [znz] <;> rfl)) ?_
  refine rts _ rfl (opD_assign (ev_const _ _)) ?_
  refine rts _ rfl (opD_assign (ev_const _ _)) ?_
  refine .nil ?_
  refine aw_keep [(0, _), (3, _)] ⟨lg (ls rfl (ls rfl (ls rfl oz))), lg (ls rfl (ls rfl lz)), trivial⟩ ?_
  refine aw_seq ?_
  refine aw_seq ?_
  refine aw_region (by decide) ?_
  refine rts _ rfl (opD_move oz) ?_
  refine rts _ rfl (opD_load_aggX (qs := [_, _, _, _, _, _, _]) ag39_C3 sz39_C3 (ls rfl (os rfl oz)) (loc_getN rfl rfl) (zNb rfl) rfl) ?_
  replace h0 := bnd_some h0
  obtain ⟨x_1, hx_1, h0⟩ := h0
  refine rts _ rfl (opD_pure ht17_C3 (c_cchk hx_1) ⟨le_of_eq (ls rfl lz), (le_of_eq lz).trans (agg_le ⟨zLr, zLr, zLr, zLr, zLr, zLr, zLr, trivial⟩), trivial⟩) ?_
  refine rts _ rfl (opD_assign lz) ?_
  refine .nil ?_
  refine aw_keep [(3, _), (6, _)] ⟨lg (ls rfl (ls rfl (ls rfl (ls rfl (os rfl oz))))), lg lz, trivial⟩ ?_
  refine aw_seq ?_
  refine aw_region (by decide) ?_
  refine rts _ rfl (opD_move (os rfl oz)) ?_
  refine rts _ rfl (opD_bin lz (ev_const _ _) (fun w => errV_guard _ w _) (fun w => errV_beq _ w)) ?_
  refine .nil ?_
  refine aw_keep [(3, _), (6, _), (12, _)] ⟨lg (ls rfl (ls rfl oz)), lg (ls rfl (ls rfl (os rfl oz))), lg lz, trivial⟩ ?_
  refine aw_cond _ (os rfl (os rfl oz)) (fun hc => ?_) (fun hc => ?_)
  · skip
    replace h0 := ifb_t h0 hc
    clear hc
    refine aw_seq ?_
    refine aw_region (by decide) ?_
    refine rts _ rfl (opD_move (os rfl oz)) ?_
    refine rts _ rfl (opD_assign (ev_const _ _)) ?_
    refine rts _ rfl (opD_assign (ls rfl lz)) ?_
    refine .nil ?_
    refine aw_keep [(4, _), (5, _)] ⟨lg (ls rfl lz), lg lz, trivial⟩ ?_
    refine aw_ret ?_
    obtain rfl := some_of h0
    exact done_ext (.inr rfl) ((res_list (rs := [_, _]) (ps := [_, _]) rfl rfl ⟨it_tmp oz, it_tmp (os rfl oz), trivial⟩).le (tup_le ⟨(le_nil rfl), zLr, trivial⟩)) (tup_bnd (zbc (sl_b (kb_I _)) (zbc zPb bnd_nil)))
  · skip
    replace h0 := ifb_f h0 hc
    clear hc
    refine aw_skip ?_
    refine aw_keep [(3, _)] ⟨lg oz, trivial⟩ ?_
    refine aw_seq ?_
    refine aw_region (by decide) ?_
    refine rts _ rfl (opD_fieldAddr fo39_0_C3 oz) ?_
    refine rts _ rfl (opD_load_one ag22_C3 lz (loc_getN rfl rfl) rfl) ?_
    replace h0 := bnd_some h0
    obtain ⟨x_2, hx_2, h0⟩ := h0
    refine rts _ rfl (opD_own1 ht34_C3 (c_oNum hx_2) ⟨(le_of_eq (ev_const _ _)).trans (le_nil rfl), le_of_eq lz, trivial⟩ (by first | exact List.length_nil | (simp only [List.length_cons, List.length_nil, Nat.zero_add, Nat.reduceAdd] <;> rfl)) (by simp only [znz] <;> rfl)) ?_
    refine rts _ rfl (opD_assign lz) ?_
    refine .nil ?_
    refine aw_keep [(3, _), (7, _)] ⟨lg (ls rfl (ls rfl (ls rfl (ls rfl oz)))), lg lz, trivial⟩ ?_
    refine aw_seq ?_
    refine aw_seq ?_
    refine aw_region (by decide) ?_
    refine rts _ rfl (opD_fieldAddr fo39_1_C3 oz) ?_
    refine rts _ rfl (opD_load_one ag4_C3 lz (loc_getN rfl rfl) rfl) ?_
    refine rts _ rfl (opD_not lz) ?_
    refine .nil ?_
    refine aw_keep [(3, _), (7, _), (19, _)] ⟨lg (ls rfl (ls rfl (ls rfl oz))), lg (ls rfl (ls rfl (ls rfl (os rfl oz)))), lg lz, trivial⟩ ?_
    refine aw_cond _ (os rfl (os rfl oz)) (fun hc => ?_) (fun hc => ?_)
    · skip
      replace h0 := ifb_t h0 hc
      clear hc
      refine aw_seq ?_
      refine aw_region (by decide) ?_
      refine rts _ rfl (opD_move (os rfl oz)) ?_
      replace h0 := bnd_some h0
      obtain ⟨x_3, hx_3, h0⟩ := h0
      refine rts _ rfl (opD_adopt (j := 0) (kb_I _) (opD_own1 ht35_C3 (c_oByte hx_3) ⟨(le_of_eq lz).trans (sl_any _ _ _ _), le_of_eq (ev_const _ _), trivial⟩ (by first | exact List.length_nil | (simp only [List.length_cons, List.length_nil, Nat.zero_add, Nat.reduceAdd] <;> rfl)) rfl) (by first | exact List.length_nil | (simp only [List.length_cons, List.length_nil, Nat.zero_add, Nat.reduceAdd] <;> rfl)) rfl (len_oByte hx_3) (by simp only [znz] <;> rfl)) ?_
      refine rts _ rfl (opD_assign lz) ?_
      refine rts _ rfl (opD_assign (ev_const _ _)) ?_
      refine .nil ?_
      refine aw_keep [(4, _), (5, _)] ⟨lg (ls rfl lz), lg lz, trivial⟩ ?_
      refine aw_ret ?_
      obtain rfl := some_of h0
      exact done_ext (.inr rfl) ((res_list (rs := [_, _]) (ps := [_, _]) rfl rfl ⟨it_tmp oz, it_tmp (os rfl oz), trivial⟩).le (tup_le ⟨(sl_any _ _ _ _), zLr, trivial⟩)) (tup_bnd (zbc (sl_b (kb_I _)) (zbc zPb bnd_nil)))
    · skip
      replace h0 := ifb_f h0 hc
      clear hc
      refine aw_skip ?_
      refine aw_keep [(3, _), (7, _)] ⟨lg oz, lg (os rfl oz), trivial⟩ ?_
      refine aw_seq ?_
      refine aw_drawn [false, true, false, false, true, false, false, false, false, true, false] [[0], [0, 1], [0, 1], [0, 1], [1, 2], [0, 1, 2], [0, 1, 2], [0, 1, 2], [0, 1, 2], [2, 3], [3]] mixed_C3 (by decide +kernel) ?_
      refine dtp _ rfl (fun s => opD_move (os rfl oz)) ?_
      replace h0 := bnd_some h0
      obtain ⟨x_4, hx_4, h0⟩ := h0
      refine dta _ rfl (opD_adopt (j := 0) (kb_I _) (opD_own1 ht35_C3 (c_oByte hx_4) ⟨(le_of_eq lz).trans (sl_any _ _ _ _), le_of_eq (ev_const _ _), trivial⟩ (by first | exact List.length_nil | (simp only [List.length_cons, List.length_nil, Nat.zero_add, Nat.reduceAdd] <;> rfl)) rfl) (by first | exact List.length_nil | (simp only [List.length_cons, List.length_nil, Nat.zero_add, Nat.reduceAdd] <;> rfl)) rfl (len_oByte hx_4) (by simp only [znz] <;> rfl)) ?_
      refine dtp _ rfl (fun s => opD_fieldAddr fo39_2_C3 (ls rfl (ls rfl oz))) ?_
      refine dtlG1 ag22_C3 lz (loc_getN rfl rfl) rfl rfl ?_
      replace h0 := bnd_some h0
      obtain ⟨x_5, hx_5, h0⟩ := h0
      refine dta _ rfl (opD_adopt (j := 0) (kb_I _) (opD_own1 ht34_C3 (c_oNum hx_5) ⟨(le_of_eq (ls rfl (ls rfl lz))).trans (sl_any _ _ _ _), le_of_eq lz, trivial⟩ (by first | exact List.length_nil | (simp only [List.length_cons, List.length_nil, Nat.zero_add, Nat.reduceAdd] <;> rfl)) rfl) (by first | exact List.length_nil | (simp only [List.length_cons, List.length_nil, Nat.zero_add, Nat.reduceAdd] <;> rfl)) rfl (len_oNum hx_5) (by simp only [znz] <;> rfl)) ?_
      refine dtp _ rfl (fun s => opD_fieldAddr fo39_3_C3 (ls rfl (ls rfl (ls rfl (ls rfl (ls rfl oz)))))) ?_
      refine dtp _ rfl (fun s => opD_fieldAddr fo36_0_C3 lz) ?_
      refine dtlG1 ag3_C3 lz (loc_getN rfl rfl) rfl rfl ?_
      refine dtp _ rfl (fun s => opD_conv_int Go.Proofs.Tryz.underlying3 Go.Proofs.Tryz.underlying5 lz rfl) ?_
      replace h0 := bnd_some h0
      obtain ⟨x_6, hx_6, h0⟩ := h0
      refine dta _ rfl (opD_adopt (j := 0) (kb_I _) (opD_own1 ht35_C3 (c_oByte hx_6) ⟨(le_of_eq (ls rfl (ls rfl (ls rfl (ls rfl lz))))).trans (sl_any _ _ _ _), le_of_eq lz, trivial⟩ (by first | exact List.length_nil | (simp only [List.length_cons, List.length_nil, Nat.zero_add, Nat.reduceAdd] <;> rfl)) rfl) (by first | exact List.length_nil | (simp only [List.length_cons, List.length_nil, Nat.zero_add, Nat.reduceAdd] <;> rfl)) rfl (len_oByte hx_6) (by simp only [znz] <;> rfl)) ?_
      refine dtp _ rfl (fun s => opD_assign lz) ?_
      refine .nil ?_
      dsimp only [List.nil_append, List.cons_append]
      refine ⟨rfl, ⟨trivial, trivial, trivial, ⟨(by first | exact loc_getN rfl rfl | exact ⟨_, loc_getN rfl rfl⟩ ), (by first | exact loc_getN rfl rfl | exact ⟨_, loc_getN rfl rfl⟩ ), trivial⟩, trivial, trivial, trivial, ⟨(by first | exact loc_getN rfl rfl | exact ⟨_, loc_getN rfl rfl⟩ ), (by first | exact loc_getN rfl rfl | exact ⟨_, loc_getN rfl rfl⟩ ), (by first | exact loc_getN rfl rfl | exact ⟨_, loc_getN rfl rfl⟩ ), trivial⟩, trivial, trivial, trivial, trivial⟩, ?_⟩
      refine aw_keep [(3, _), (7, _)] ⟨lg (ls rfl (ls rfl (ls rfl (ls rfl (ls rfl (ls rfl (ls rfl (ls rfl (ls rfl (ls rfl (ls rfl oz))))))))))), lg lz, trivial⟩ ?_
      refine aw_seq ?_
      refine aw_drawn [false, false, false, false, true, false, false, false, false, true, false, false, false, true, false, false] [[0], [0], [0], [0], [0, 1], [0, 1], [0, 1], [0, 1], [0, 1], [1, 2], [0, 1, 2], [0, 1, 2], [0, 1, 2], [2, 3], [3], [3]] mixed_C3 (by decide +kernel) ?_
      refine dtp _ rfl (fun s => opD_move (os rfl oz)) ?_
      refine dtp _ rfl (fun s => opD_fieldAddr fo39_3_C3 (ls rfl oz)) ?_
      refine dtp _ rfl (fun s => opD_fieldAddr fo36_1_C3 lz) ?_
      refine dtlG1 ag22_C3 lz (loc_getN rfl rfl) rfl rfl ?_
      replace h0 := bnd_some h0
      obtain ⟨x_7, hx_7, h0⟩ := h0
      refine dta _ rfl (opD_adopt (j := 0) (kb_I _) (opD_own1 ht34_C3 (c_oNum hx_7) ⟨(le_of_eq (ls rfl (ls rfl (ls rfl lz)))).trans (sl_any _ _ _ _), le_of_eq lz, trivial⟩ (by first | exact List.length_nil | (simp only [List.length_cons, List.length_nil, Nat.zero_add, Nat.reduceAdd] <;> rfl)) rfl) (by first | exact List.length_nil | (simp only [List.length_cons, List.length_nil, Nat.zero_add, Nat.reduceAdd] <;> rfl)) rfl (len_oNum hx_7) (by simp only [znz] <;> rfl)) ?_
      refine dtp _ rfl (fun s => opD_fieldAddr fo39_4_C3 (ls rfl (ls rfl (ls rfl (ls rfl (ls rfl oz)))))) ?_
      refine dtp _ rfl (fun s => opD_fieldAddr fo37_0_C3 lz) ?_
      refine dtlG1 ag9_C3 lz (loc_getN rfl rfl) rfl rfl ?_
      refine dtp _ rfl (fun s => opD_str_bytes Go.Proofs.Tryz.underlying9 Go.Proofs.Tryz.underlying30 Go.Proofs.Tryz.underlying5 lz) ?_
      replace h0 := bnd_some h0
      obtain ⟨x_8, hx_8, h0⟩ := h0
      refine dta _ rfl (opD_adopt (j := 0) (kb_I _) (opD_own1 ht36_C3 (c_oBytes hx_8) ⟨(le_of_eq (ls rfl (ls rfl (ls rfl (ls rfl lz))))).trans (sl_any _ _ _ _), (le_of_eq lz).trans (sl_any _ _ _ _), trivial⟩ (by first | exact List.length_nil | (simp only [List.length_cons, List.length_nil, Nat.zero_add, Nat.reduceAdd] <;> rfl)) rfl) (by first | exact List.length_nil | (simp only [List.length_cons, List.length_nil, Nat.zero_add, Nat.reduceAdd] <;> rfl)) rfl (len_oBytes hx_8) (by simp only [znz] <;> rfl)) ?_
      refine dtp _ rfl (fun s => opD_fieldAddr fo39_4_C3 (ls rfl (ls rfl (ls rfl (ls rfl (ls rfl (ls rfl (ls rfl (ls rfl (ls rfl (ls rfl oz))))))))))) ?_
      refine dtp _ rfl (fun s => opD_fieldAddr fo37_1_C3 lz) ?_
      refine dtlG1 ag5_C3 lz (loc_getN rfl rfl) rfl rfl ?_
      replace h0 := bnd_some h0
      obtain ⟨x_9, hx_9, h0⟩ := h0
      refine dta _ rfl (opD_adopt (j := 0) (kb_I _) (opD_own1 ht35_C3 (c_oByte hx_9) ⟨(le_of_eq (ls rfl (ls rfl (ls rfl lz)))).trans (sl_any _ _ _ _), le_of_eq lz, trivial⟩ (by first | exact List.length_nil | (simp only [List.length_cons, List.length_nil, Nat.zero_add, Nat.reduceAdd] <;> rfl)) rfl) (by first | exact List.length_nil | (simp only [List.length_cons, List.length_nil, Nat.zero_add, Nat.reduceAdd] <;> rfl)) rfl (len_oByte hx_9) (by simp only [znz] <;> rfl)) ?_
      refine dtp _ rfl (fun s => opD_assign lz) ?_
      refine dtp _ rfl (fun s => opD_assign (ev_const _ _)) ?_
      refine .nil ?_
      dsimp only [List.nil_append, List.cons_append]
      refine ⟨rfl, ⟨trivial, trivial, trivial, ⟨(by first | exact loc_getN rfl rfl | exact ⟨_, loc_getN rfl rfl⟩ ), trivial⟩, trivial, trivial, trivial, ⟨(by first | exact loc_getN rfl rfl | exact ⟨_, loc_getN rfl rfl⟩ ), (by first | exact loc_getN rfl rfl | exact ⟨_, loc_getN rfl rfl⟩ ), trivial⟩, trivial, trivial, trivial, trivial, ⟨(by first | exact loc_getN rfl rfl | exact ⟨_, loc_getN rfl rfl⟩ ), (by first | exact loc_getN rfl rfl | exact ⟨_, loc_getN rfl rfl⟩ ), (by first | exact loc_getN rfl rfl | exact ⟨_, loc_getN rfl rfl⟩ ), trivial⟩, trivial, trivial, trivial, trivial⟩, ?_⟩
      refine aw_keep [(4, _), (5, _)] ⟨lg (ls rfl lz), lg lz, trivial⟩ ?_
      refine aw_ret ?_
      obtain rfl := some_of h0
      exact done_ext (.inr rfl) ((res_list (rs := [_, _]) (ps := [_, _]) rfl rfl ⟨it_tmp oz, it_tmp (os rfl oz), trivial⟩).le (tup_le ⟨(sl_any _ _ _ _), zLr, trivial⟩)) (tup_bnd (zbc (sl_b (kb_I _)) (zbc zPb bnd_nil)))

def F_cnm (p0 : Rf) : Option (ByteArray) :=
  bnd (F_Itoa p0.Slot) fun x_1 => grd (x_1.size + (⟨#[46]⟩ : ByteArray).size ≤ 9223372036854775807) <| bnd (F_FmtUint p0.Gen 10) fun x_2 => grd ((x_1 ++ (⟨#[46]⟩ : ByteArray)).size + x_2.size ≤ 9223372036854775807) <| some ((x_1 ++ (⟨#[46]⟩ : ByteArray)) ++ x_2)
set_option maxRecDepth 100000 in
set_option maxHeartbeats 2000000 in
theorem c_cnm {p0 : Rf} {R : ByteArray} {s : St} (h0 : F_cnm p0 = some R) (hst : StC s) : AC Go.Proofs.Tryz.prog 50 [agg [pl (.int .i64 p0.Slot), pl (.int .u64 p0.Gen)]] s (pl (.string R)) s := by
  unfold F_cnm at h0
  refine ac_of_aw s.boxes.length s.fr.length Go.Proofs.Tryz.func50 rfl (by simp [Go.Proofs.Tryz.ntmps50]) ?_
  refine aw_ext0 ?_
  refine aw_keep [(0, _)] ⟨lg ez, trivial⟩ ?_
  refine aw_seq ?_
  refine aw_region (by decide) ?_
  refine rts _ rfl (boxAN (n := 0) rfl oz (zbc zPb (zbc zPb bnd_nil)) (by first | exact List.length_nil | (simp only [List.length_cons, List.length_nil, Nat.zero_add, Nat.reduceAdd] <;> rfl)) (by simp only [znz] <;> rfl)) ?_
  refine rts _ rfl (opD_assign (ev_const _ _)) ?_
  refine .nil ?_
  refine aw_keep [(1, _)] ⟨lg (ls rfl lz), trivial⟩ ?_
  refine aw_seq ?_
  refine aw_flat mixed_C3 (by decide +kernel) ?_
  refine zts _ rfl (opD_fieldAddr fo36_0_C3 oz) ?_
  refine zts _ rfl (opD_load_one ag3_C3 lz (loc_getN rfl rfl) rfl) ?_
  replace h0 := bnd_some h0
  obtain ⟨x_1, hx_1, h0⟩ := h0
  refine zts _ rfl (opD_pure ht85_C3 (c_Itoa hx_1) ⟨le_of_eq lz, trivial⟩) ?_
  replace h0 := grd_some h0
  obtain ⟨hg_3, h0⟩ := h0
  refine zts _ rfl (opD_sadd lz (ev_const _ _) hg_3) ?_
  refine zts _ rfl (opD_fieldAddr fo36_1_C3 (ls rfl (ls rfl (ls rfl (ls rfl oz))))) ?_
  refine zts _ rfl (opD_load_one ag22_C3 lz (loc_getN rfl rfl) rfl) ?_
  replace h0 := bnd_some h0
  obtain ⟨x_2, hx_2, h0⟩ := h0
  refine zts _ rfl (opD_call ht86_C3 (c_FmtUint hx_2 hst) ⟨le_of_eq lz, le_of_eq (ev_const _ _), trivial⟩) ?_
  replace h0 := grd_some h0
  obtain ⟨hg_4, h0⟩ := h0
  refine zts _ rfl (opD_sadd (ls rfl (ls rfl (ls rfl lz))) lz hg_4) ?_
  refine zts _ rfl (opD_assign lz) ?_
  refine .nil ?_
  refine aw_keep [(2, _)] ⟨lg lz, trivial⟩ ?_
  refine aw_ret ?_
  obtain rfl := some_of h0
  exact done_ext (.inr rfl) ((res_one rfl (it_tmp oz)).le zLr) zPb

def F_cname (p0 : Rf) : Option (ByteArray × (Option Int)) :=
  bnd (F_cmay p0) fun x_1 => ifb (!x_1) (some ((⟨#[]⟩ : ByteArray), some 1)) (bnd (F_cnm p0) fun x_2 => some (x_2, none))
set_option maxRecDepth 100000 in
set_option maxHeartbeats 2000000 in
theorem c_cname {p0 : Rf} {R : ByteArray × (Option Int)} {s : St} (h0 : F_cname p0 = some R) (hst : StC s) : AC Go.Proofs.Tryz.prog 12 [agg [pl (.int .i64 p0.Slot), pl (.int .u64 p0.Gen)]] s (tup [pl (.string R.1), pl (errV R.2)]) s := by
  unfold F_cname at h0
  refine ac_of_aw s.boxes.length s.fr.length Go.Proofs.Tryz.func12 rfl (by simp [Go.Proofs.Tryz.ntmps12]) ?_
  refine aw_ext0 ?_
  refine aw_keep [(0, _)] ⟨lg ez, trivial⟩ ?_
  refine aw_seq ?_
  refine aw_region (by decide) ?_
  refine rts _ rfl (boxAN (n := 0) rfl oz (zbc zPb (zbc zPb bnd_nil)) (by first | exact List.length_nil | (simp only [List.length_cons, List.length_nil, Nat.zero_add, Nat.reduceAdd] <;> rfl)) (by simp only [znz] <;> rfl)) ?_
  refine rts _ rfl (opD_assign (ev_const _ _)) ?_
  refine rts _ rfl (opD_assign (ev_const _ _)) ?_
  refine .nil ?_
  refine aw_keep [(1, _)] ⟨lg (ls rfl (ls rfl lz)), trivial⟩ ?_
  refine aw_seq ?_
  refine aw_seq ?_
  refine aw_region (by decide) ?_
  refine rts _ rfl (opD_load_aggX (qs := [_, _]) ag36_C3 sz36_C3 oz (loc_getN rfl rfl) (zNb rfl) rfl) ?_
  replace h0 := bnd_some h0
  obtain ⟨x_1, hx_1, h0⟩ := h0
  refine rts _ rfl (opD_pure ht49_C3 (c_cmay hx_1) ⟨(le_of_eq lz).trans (agg_le ⟨zLr, zLr, trivial⟩), trivial⟩) ?_
  refine rts _ rfl (opD_not lz) ?_
  refine .nil ?_
  refine aw_keep [(1, _), (6, _)] ⟨lg (ls rfl (ls rfl (ls rfl oz))), lg lz, trivial⟩ ?_
  refine aw_cond _ (os rfl oz) (fun hc => ?_) (fun hc => ?_)
  · skip
    replace h0 := ifb_t h0 hc
    clear hc
    refine aw_seq ?_
    refine aw_region (by decide) ?_
    refine rts _ rfl (opD_ple (q := pl (errV (some 1))) rfl (opD_makeInterface_pl cc107_C3 (ev_const _ _))) ?_
    refine rts _ rfl (opD_assign (ev_const _ _)) ?_
    refine rts _ rfl (opD_assign (ls rfl lz)) ?_
    refine .nil ?_
    refine aw_keep [(2, _), (3, _)] ⟨lg (ls rfl lz), lg lz, trivial⟩ ?_
    refine aw_ret ?_
    obtain rfl := some_of h0
    exact done_ext (.inr rfl) ((res_list (rs := [_, _]) (ps := [_, _]) rfl rfl ⟨it_tmp oz, it_tmp (os rfl oz), trivial⟩).le (tup_le ⟨zLr, zLr, trivial⟩)) (tup_bnd (zbc zPb (zbc zPb bnd_nil)))
  · skip
    replace h0 := ifb_f h0 hc
    clear hc
    refine aw_skip ?_
    refine aw_keep [(1, _)] ⟨lg oz, trivial⟩ ?_
    refine aw_seq ?_
    refine aw_region (by decide) ?_
    refine rts _ rfl (opD_load_aggX (qs := [_, _]) ag36_C3 sz36_C3 oz (loc_getN rfl rfl) (zNb rfl) rfl) ?_
    replace h0 := bnd_some h0
    obtain ⟨x_2, hx_2, h0⟩ := h0
    refine rts _ rfl (opD_call ht50_C3 (c_cnm hx_2 hst) ⟨(le_of_eq lz).trans (agg_le ⟨zLr, zLr, trivial⟩), trivial⟩) ?_
    refine rts _ rfl (opD_assign lz) ?_
    refine rts _ rfl (opD_assign (ev_const _ _)) ?_
    refine .nil ?_
    refine aw_keep [(2, _), (3, _)] ⟨lg (ls rfl lz), lg lz, trivial⟩ ?_
    refine aw_ret ?_
    obtain rfl := some_of h0
    exact done_ext (.inr rfl) ((res_list (rs := [_, _]) (ps := [_, _]) rfl rfl ⟨it_tmp oz, it_tmp (os rfl oz), trivial⟩).le (tup_le ⟨zLr, zLr, trivial⟩)) (tup_bnd (zbc zPb (zbc zPb bnd_nil)))

def F_cparse (p0 : ByteArray) : Option (Rf × (Option Int)) :=
  bnd (F_Cut p0 (⟨#[46]⟩ : ByteArray)) fun x_1 => bnd (F_ParseUint x_1.1 10 8) fun x_2 => ifb x_2.2 (some ((⟨0, 0⟩ : Rf), some 3)) (bnd (F_ParseUint x_1.2.1 10 64) fun x_3 => ifb x_3.2 (some ((⟨0, 0⟩ : Rf), some 3)) (bnd (F_cmay (⟨IntKind.i64.wrap (x_2.1), x_3.1⟩ : Rf)) fun x_4 => bnd (gif ((!x_4) == false) (F_cnm (⟨IntKind.i64.wrap (x_2.1), x_3.1⟩ : Rf))) fun x_5 => ifb ((!x_4) || (decide (x_5 ≠ p0))) (some ((⟨0, 0⟩ : Rf), some 3)) (some ((⟨IntKind.i64.wrap (x_2.1), x_3.1⟩ : Rf), none))))
set_option maxRecDepth 100000 in
set_option maxHeartbeats 2000000 in
theorem c_cparse {p0 : ByteArray} {R : Rf × (Option Int)} {s : St} (h0 : F_cparse p0 = some R) (hst : StC s) : AC Go.Proofs.Tryz.prog 14 [pl (.string p0)] s (tup [agg [pl (.int .i64 R.1.Slot), pl (.int .u64 R.1.Gen)], pl (errV R.2)]) s := by
  unfold F_cparse at h0
  refine ac_of_aw s.boxes.length s.fr.length Go.Proofs.Tryz.func14 rfl (by simp [Go.Proofs.Tryz.ntmps14]) ?_
  refine aw_ext0 ?_
  refine aw_keep [(0, _)] ⟨lg ez, trivial⟩ ?_
  refine aw_seq ?_
  refine aw_region (by decide) ?_
  refine rts _ rfl (allocN rfl zt36_C3 (by first | exact List.length_nil | (simp only [List.length_cons, List.length_nil, Nat.zero_add, Nat.reduceAdd] <;> rfl)) (by simp only [znz] <;> rfl)) ?_
  refine rts _ rfl (opD_assign (ev_const _ _)) ?_
  refine .nil ?_
  refine aw_keep [(0, _), (2, _)] ⟨lg (ls rfl (ls rfl oz)), lg (ls rfl lz), trivial⟩ ?_
  refine aw_seq ?_
  refine aw_region (by decide) ?_
  refine rts _ rfl (opD_move oz) ?_
  replace h0 := bnd_some h0
  obtain ⟨x_1, hx_1, h0⟩ := h0
  refine rts _ rfl (opD_pure ht53_C3 (c_Cut hx_1) ⟨le_of_eq lz, le_of_eq (ev_const _ _), trivial⟩) ?_
  refine rts _ rfl (opD_move lz) ?_
  refine rts _ rfl (opD_extract lz rfl) ?_
  refine rts _ rfl (opD_extract (ls rfl lz) rfl) ?_
  refine rts _ rfl (opD_extract (ls rfl (ls rfl lz)) rfl) ?_
  refine rts _ rfl (opD_assign (ls rfl (ls rfl lz))) ?_
  refine rts _ rfl (opD_assign (ls rfl (ls rfl lz))) ?_
  refine rts _ rfl (opD_assign (ls rfl (ls rfl lz))) ?_
  refine .nil ?_
  refine aw_keep [(0, _), (2, _), (4, _), (5, _)] ⟨lg (ls rfl (ls rfl (ls rfl (ls rfl (ls rfl (ls rfl (ls rfl (ls rfl (ls rfl oz))))))))), lg (ls rfl (ls rfl (ls rfl (ls rfl (ls rfl (ls rfl (ls rfl (ls rfl (ls rfl (os rfl oz)))))))))), lg (ls rfl (ls rfl lz)), lg (ls rfl lz), trivial⟩ ?_
  refine aw_seq ?_
  refine aw_region (by decide) ?_
  refine rts _ rfl (opD_move (os rfl (os rfl oz))) ?_
  replace h0 := bnd_some h0
  obtain ⟨x_2, hx_2, h0⟩ := h0
  refine rts _ rfl (opD_call ht54_C3 (c_ParseUint hx_2 hst) ⟨le_of_eq lz, le_of_eq (ev_const _ _), le_of_eq (ev_const _ _), trivial⟩) ?_
  refine rts _ rfl (opD_move lz) ?_
  refine rts _ rfl (opD_extract lz rfl) ?_
  refine rts _ rfl (opD_extract (ls rfl lz) rfl) ?_
  refine rts _ rfl (opD_assign (ls rfl lz)) ?_
  refine rts _ rfl (opD_assign (ls rfl lz)) ?_
  refine .nil ?_
  refine aw_keep [(0, _), (2, _), (5, _), (7, _), (8, _)] ⟨lg (ls rfl (ls rfl (ls rfl (ls rfl (ls rfl (ls rfl (ls rfl oz))))))), lg (ls rfl (ls rfl (ls rfl (ls rfl (ls rfl (ls rfl (ls rfl (os rfl oz)))))))), lg (ls rfl (ls rfl (ls rfl (ls rfl (ls rfl (ls rfl (ls rfl (os rfl (os rfl (os rfl oz)))))))))), lg (ls rfl lz), lg lz, trivial⟩ ?_
  refine aw_seq ?_
  refine aw_seq ?_
  refine aw_region (by decide) ?_
  refine rts _ rfl (opD_move (os rfl (os rfl (os rfl (os rfl oz))))) ?_
  refine rts _ rfl (opD_errA_neq Go.Proofs.Tryz.underlying33 lz (ev_const _ _) (fun t p w => by simp [go_sem]) (fun w => by simp [go_sem]) (fun t p w => by simp [go_sem]) (fun w => by simp [go_sem])) ?_
  refine .nil ?_
  refine aw_keep [(0, _), (2, _), (5, _), (7, _), (23, _)] ⟨lg (ls rfl (ls rfl oz)), lg (ls rfl (ls rfl (os rfl oz))), lg (ls rfl (ls rfl (os rfl (os rfl oz)))), lg (ls rfl (ls rfl (os rfl (os rfl (os rfl oz))))), lg lz, trivial⟩ ?_
  refine aw_cond _ (os rfl (os rfl (os rfl (os rfl oz)))) (fun hc => ?_) (fun hc => ?_)
  · skip
    replace h0 := ifb_t h0 hc
    clear hc
    refine aw_seq ?_
    refine aw_region (by decide) ?_
    refine rts _ rfl (opD_build_struct (rs := [_, _]) Go.Proofs.Tryz.underlying36 pt36_C3 zt36_C3 parts_nil rfl) ?_
    refine rts _ rfl (opD_ple (q := pl (errV (some 3))) rfl (opD_makeInterface_pl cc107_C3 (ev_const _ _))) ?_
    refine rts _ rfl (storeAN rfl sz36_C3 (ls rfl (ls rfl (os rfl oz))) (ls rfl lz) (ones_cons (one_pl rfl) (ones_cons (one_pl rfl) ones_nil)) rfl rfl (zNb rfl) (List.cons_ne_nil _ _) (zbc zPb (zbc zPb bnd_nil)) (by simp only [znz] <;> rfl) (by simp only [znz] <;> rfl)) ?_
    refine rts _ rfl (opD_assign (lx lz)) ?_
    refine .nil ?_
    refine aw_keep [(2, _), (3, _)] ⟨lg (ls rfl (lx (ls rfl (ls rfl (os rfl oz))))), lg lz, trivial⟩ ?_
    refine aw_ret ?_
    obtain rfl := some_of h0
    exact done_ext (.inr rfl) ((res_list (rs := [_, _]) (ps := [_, _]) rfl rfl ⟨it_cellA (B := ⟨36, [_, _]⟩) ag36_C3 sz36_C3 oz (loc_getN rfl rfl) rfl, it_tmp (os rfl oz), trivial⟩).le (tup_le ⟨(agg_le ⟨zLr, zLr, trivial⟩), zLr, trivial⟩)) (tup_bnd (zbc (agg_bnd (zbc zPb (zbc zPb bnd_nil))) (zbc zPb bnd_nil)))
  · skip
    replace h0 := ifb_f h0 hc
    clear hc
    refine aw_skip ?_
    refine aw_keep [(0, _), (2, _), (5, _), (7, _)] ⟨lg oz, lg (os rfl oz), lg (os rfl (os rfl oz)), lg (os rfl (os rfl (os rfl oz))), trivial⟩ ?_
    refine aw_seq ?_
    refine aw_region (by decide) ?_
    refine rts _ rfl (opD_move (os rfl (os rfl oz))) ?_
    replace h0 := bnd_some h0
    obtain ⟨x_3, hx_3, h0⟩ := h0
    refine rts _ rfl (opD_call ht54_C3 (c_ParseUint hx_3 hst) ⟨le_of_eq lz, le_of_eq (ev_const _ _), le_of_eq (ev_const _ _), trivial⟩) ?_
    refine rts _ rfl (opD_move lz) ?_
    refine rts _ rfl (opD_extract lz rfl) ?_
    refine rts _ rfl (opD_extract (ls rfl lz) rfl) ?_
    refine rts _ rfl (opD_assign (ls rfl lz)) ?_
    refine rts _ rfl (opD_assign (ls rfl lz)) ?_
    refine .nil ?_
    refine aw_keep [(0, _), (2, _), (7, _), (8, _), (9, _)] ⟨lg (ls rfl (ls rfl (ls rfl (ls rfl (ls rfl (ls rfl (ls rfl oz))))))), lg (ls rfl (ls rfl (ls rfl (ls rfl (ls rfl (ls rfl (ls rfl (os rfl oz)))))))), lg (ls rfl (ls rfl (ls rfl (ls rfl (ls rfl (ls rfl (ls rfl (os rfl (os rfl (os rfl oz)))))))))), lg lz, lg (ls rfl lz), trivial⟩ ?_
    refine aw_seq ?_
    refine aw_seq ?_
    refine aw_region (by decide) ?_
    refine rts _ rfl (opD_move (os rfl (os rfl (os rfl oz)))) ?_
    refine rts _ rfl (opD_errA_neq Go.Proofs.Tryz.underlying33 lz (ev_const _ _) (fun t p w => by simp [go_sem]) (fun w => by simp [go_sem]) (fun t p w => by simp [go_sem]) (fun w => by simp [go_sem])) ?_
    refine .nil ?_
    refine aw_keep [(0, _), (2, _), (7, _), (9, _), (32, _)] ⟨lg (ls rfl (ls rfl oz)), lg (ls rfl (ls rfl (os rfl oz))), lg (ls rfl (ls rfl (os rfl (os rfl oz)))), lg (ls rfl (ls rfl (os rfl (os rfl (os rfl (os rfl oz)))))), lg lz, trivial⟩ ?_
    refine aw_cond _ (os rfl (os rfl (os rfl (os rfl oz)))) (fun hc => ?_) (fun hc => ?_)
    · skip
      replace h0 := ifb_t h0 hc
      clear hc
      refine aw_seq ?_
      refine aw_region (by decide) ?_
      refine rts _ rfl (opD_build_struct (rs := [_, _]) Go.Proofs.Tryz.underlying36 pt36_C3 zt36_C3 parts_nil rfl) ?_
      refine rts _ rfl (opD_ple (q := pl (errV (some 3))) rfl (opD_makeInterface_pl cc107_C3 (ev_const _ _))) ?_
      refine rts _ rfl (storeAN rfl sz36_C3 (ls rfl (ls rfl (os rfl oz))) (ls rfl lz) (ones_cons (one_pl rfl) (ones_cons (one_pl rfl) ones_nil)) rfl rfl (zNb rfl) (List.cons_ne_nil _ _) (zbc zPb (zbc zPb bnd_nil)) (by simp only [znz] <;> rfl) (by simp only [znz] <;> rfl)) ?_
      refine rts _ rfl (opD_assign (lx lz)) ?_
      refine .nil ?_
      refine aw_keep [(2, _), (3, _)] ⟨lg (ls rfl (lx (ls rfl (ls rfl (os rfl oz))))), lg lz, trivial⟩ ?_
      refine aw_ret ?_
      obtain rfl := some_of h0
      exact done_ext (.inr rfl) ((res_list (rs := [_, _]) (ps := [_, _]) rfl rfl ⟨it_cellA (B := ⟨36, [_, _]⟩) ag36_C3 sz36_C3 oz (loc_getN rfl rfl) rfl, it_tmp (os rfl oz), trivial⟩).le (tup_le ⟨(agg_le ⟨zLr, zLr, trivial⟩), zLr, trivial⟩)) (tup_bnd (zbc (agg_bnd (zbc zPb (zbc zPb bnd_nil))) (zbc zPb bnd_nil)))
    · skip
      replace h0 := ifb_f h0 hc
      clear hc
      refine aw_skip ?_
      refine aw_keep [(0, _), (2, _), (7, _), (9, _)] ⟨lg oz, lg (os rfl oz), lg (os rfl (os rfl oz)), lg (os rfl (os rfl (os rfl oz))), trivial⟩ ?_
      refine aw_seq ?_
      refine aw_region (by decide) ?_
      refine rts _ rfl (opD_move (os rfl (os rfl oz))) ?_
      refine rts _ rfl (opD_conv_int Go.Proofs.Tryz.underlying22 Go.Proofs.Tryz.underlying3 lz rfl) ?_
      refine rts _ rfl (opD_move (ls rfl (ls rfl (os rfl (os rfl (os rfl oz)))))) ?_
      refine rts _ rfl (opD_build_struct (rs := [_, _]) Go.Proofs.Tryz.underlying36 pt36_C3 zt36_C3 (parts_cons (cells1 (ls rfl lz) (one_pl rfl)) (parts_cons (cells1 lz (one_pl rfl)) parts_nil)) rfl) ?_
      refine rts _ rfl (allocN rfl zt36_C3 (by first | exact List.length_nil | (simp only [List.length_cons, List.length_nil, Nat.zero_add, Nat.reduceAdd] <;> rfl)) (by simp only [znz] <;> rfl)) ?_
      refine rts _ rfl (storeAN rfl sz36_C3 lz (ls rfl lz) (ones_cons (one_pl rfl) (ones_cons (one_pl rfl) ones_nil)) rfl rfl (zNb rfl) (List.cons_ne_nil _ _) (zbc zPb (zbc zPb bnd_nil)) (by simp only [znz] <;> rfl) (by simp only [znz] <;> rfl)) ?_
      refine .nil ?_
      refine aw_keep [(0, _), (2, _), (10, _)] ⟨lg (lx (ls rfl (ls rfl (ls rfl (ls rfl (ls rfl oz)))))), lg (lx (ls rfl (ls rfl (ls rfl (ls rfl (ls rfl (os rfl oz))))))), lg (lx lz), trivial⟩ ?_
      refine aw_seq ?_
      refine aw_seq ?_
      refine aw_region (by decide) ?_
      refine rts _ rfl (opD_load_aggX (qs := [_, _]) ag36_C3 sz36_C3 (os rfl (os rfl oz)) (loc_getN rfl rfl) (zNb rfl) rfl) ?_
      replace h0 := bnd_some h0
      obtain ⟨x_4, hx_4, h0⟩ := h0
      refine rts _ rfl (opD_pure ht49_C3 (c_cmay hx_4) ⟨(le_of_eq lz).trans (agg_le ⟨zLr, zLr, trivial⟩), trivial⟩) ?_
      refine rts _ rfl (opD_not lz) ?_
      refine rts _ rfl (opD_move lz) ?_
      refine rtg _ rfl lz (fun hg9_4_1 => opD_load_aggX (qs := [_, _]) ag36_C3 sz36_C3 (ls rfl (ls rfl (ls rfl (ls rfl (os rfl (os rfl oz)))))) (loc_getN rfl rfl) (zNb rfl) rfl) ?_
      replace h0 := bnd_some h0
      obtain ⟨x_5, hx_5, h0⟩ := h0
      refine rtg _ rfl (ls rfl lz) (fun hg9_5_2 => opD_call ht50_C3 (c_cnm (gif_some hx_5 hg9_5_2) hst) ⟨(le_of_eq (lz.trans (pif_pos hg9_5_2))).trans (agg_le ⟨zLr, zLr, trivial⟩), trivial⟩) ?_
      refine rtg _ rfl (ls rfl (ls rfl lz)) (fun hg9_6_3 => opD_move (ls rfl (ls rfl (ls rfl (ls rfl (ls rfl (ls rfl oz))))))) ?_
      refine rtg _ rfl (ls rfl (ls rfl (ls rfl lz))) (fun hg9_7_4 => opD_sneq ((ls rfl lz).trans (pif_pos hg9_7_4)) (lz.trans (pif_pos hg9_7_4))) ?_
      refine rts _ rfl (opD_or (ls rfl (ls rfl (ls rfl (ls rfl lz)))) lz) ?_
      refine .nil ?_
      refine aw_keep [(2, _), (10, _), (47, _)] ⟨lg (ls rfl (ls rfl (ls rfl (ls rfl (ls rfl (ls rfl (ls rfl (ls rfl (ls rfl (os rfl oz)))))))))), lg (ls rfl (ls rfl (ls rfl (ls rfl (ls rfl (ls rfl (ls rfl (ls rfl (ls rfl (os rfl (os rfl oz))))))))))), lg lz, trivial⟩ ?_
      refine aw_cond _ (os rfl (os rfl oz)) (fun hc => ?_) (fun hc => ?_)
      · skip
        replace h0 := ifb_t h0 hc
        clear hc
        refine aw_seq ?_
        refine aw_region (by decide) ?_
        refine rts _ rfl (opD_build_struct (rs := [_, _]) Go.Proofs.Tryz.underlying36 pt36_C3 zt36_C3 parts_nil rfl) ?_
        refine rts _ rfl (opD_ple (q := pl (errV (some 3))) rfl (opD_makeInterface_pl cc107_C3 (ev_const _ _))) ?_
        refine rts _ rfl (storeAN rfl sz36_C3 (ls rfl (ls rfl oz)) (ls rfl lz) (ones_cons (one_pl rfl) (ones_cons (one_pl rfl) ones_nil)) rfl rfl (zNb rfl) (List.cons_ne_nil _ _) (zbc zPb (zbc zPb bnd_nil)) (by simp only [znz] <;> rfl) (by simp only [znz] <;> rfl)) ?_
        refine rts _ rfl (opD_assign (lx lz)) ?_
        refine .nil ?_
        refine aw_keep [(2, _), (3, _)] ⟨lg (ls rfl (lx (ls rfl (ls rfl oz)))), lg lz, trivial⟩ ?_
        refine aw_ret ?_
        obtain rfl := some_of h0
        exact done_ext (.inr rfl) ((res_list (rs := [_, _]) (ps := [_, _]) rfl rfl ⟨it_cellA (B := ⟨36, [_, _]⟩) ag36_C3 sz36_C3 oz (loc_getN rfl rfl) rfl, it_tmp (os rfl oz), trivial⟩).le (tup_le ⟨(agg_le ⟨zLr, zLr, trivial⟩), zLr, trivial⟩)) (tup_bnd (zbc (agg_bnd (zbc zPb (zbc zPb bnd_nil))) (zbc zPb bnd_nil)))
      · skip
        replace h0 := ifb_f h0 hc
        clear hc
        refine aw_skip ?_
        refine aw_keep [(2, _), (10, _)] ⟨lg oz, lg (os rfl oz), trivial⟩ ?_
        refine aw_seq ?_
        refine aw_region (by decide) ?_
        refine rts _ rfl (opD_load_aggX (qs := [_, _]) ag36_C3 sz36_C3 (os rfl oz) (loc_getN rfl rfl) (zNb rfl) rfl) ?_
        refine rts _ rfl (storeAN rfl sz36_C3 (ls rfl oz) lz (ones_cons (one_pl rfl) (ones_cons (one_pl rfl) ones_nil)) rfl rfl (zNb rfl) (List.cons_ne_nil _ _) (zbc zPb (zbc zPb bnd_nil)) (by simp only [znz] <;> rfl) (by simp only [znz] <;> rfl)) ?_
        refine rts _ rfl (opD_assign (ev_const _ _)) ?_
        refine .nil ?_
        refine aw_keep [(2, _), (3, _)] ⟨lg (ls rfl (lx (ls rfl oz))), lg lz, trivial⟩ ?_
        refine aw_ret ?_
        obtain rfl := some_of h0
        exact done_ext (.inr rfl) ((res_list (rs := [_, _]) (ps := [_, _]) rfl rfl ⟨it_cellA (B := ⟨36, [_, _]⟩) ag36_C3 sz36_C3 oz (loc_getN rfl rfl) rfl, it_tmp (os rfl oz), trivial⟩).le (tup_le ⟨(agg_le ⟨zLr, zLr, trivial⟩), zLr, trivial⟩)) (tup_bnd (zbc (agg_bnd (zbc zPb (zbc zPb bnd_nil))) (zbc zPb bnd_nil)))
end Go.Proofs.YtokcgacehdgkcaaGreatDoor.Eng.A

namespace Go.Proofs.YtokcgacehdgkcaaGreatDoor.Eng.A
set_option linter.unusedVariables false
set_option linter.unusedSimpArgs false
open Go.RowKit Go.Proofs.YtokcgacehdgkcaaGreatDoor.Plain Go.Proofs.YtokcgacehdgkcaaGreatDoor.Eng Go.Proofs.YtokcgacehdgkcaaGreatDoor.Eng.Pk Go.Proofs.YtokcgacehdgkcaaGreatDoor.Eng.Rd

theorem zt39_C3B : zeroT Go.Proofs.Tryz.prog 39 = some [.int .u64 0, .bool false, .int .u64 0, .int .i64 0, .int .u64 0, .string ⟨#[]⟩, .int .u8 0] := by kernel_rfl
theorem ht39_C3B : hasText Go.Proofs.Tryz.prog 39 = true := by kernel_rfl
theorem pt39_C3B : placesT Go.Proofs.Tryz.prog 39 5 = some [(0, 1), (1, 1), (2, 1), (3, 2), (5, 2)] := by kernel_rfl
theorem cc107_C3B : Go.Proofs.Tryz.prog.concrete 107 = true := by kernel_rfl
theorem sz39_C3B : sizeT Go.Proofs.Tryz.prog 39 = some 7 := by kernel_rfl
theorem ht40_C3B : hasText Go.Proofs.Tryz.prog 40 = true := by kernel_rfl
theorem ht41_C3B : hasText Go.Proofs.Tryz.prog 41 = true := by kernel_rfl
theorem ht42_C3B : hasText Go.Proofs.Tryz.prog 42 = true := by kernel_rfl
theorem fo39_1_C3B : fieldOff Go.Proofs.Tryz.prog 39 1 = some 1 := by kernel_rfl
theorem sz4_C3B : sizeT Go.Proofs.Tryz.prog 4 = some 1 := by kernel_rfl
theorem ag4_C3B : aggT Go.Proofs.Tryz.prog 4 = some false := by kernel_rfl
theorem fo39_2_C3B : fieldOff Go.Proofs.Tryz.prog 39 2 = some 2 := by kernel_rfl
theorem sz22_C3B : sizeT Go.Proofs.Tryz.prog 22 = some 1 := by kernel_rfl
theorem pt36_C3B : placesT Go.Proofs.Tryz.prog 36 2 = some [(0, 1), (1, 1)] := by kernel_rfl
theorem zt36_C3B : zeroT Go.Proofs.Tryz.prog 36 = some [.int .i64 0, .int .u64 0] := by kernel_rfl
theorem fo39_3_C3B : fieldOff Go.Proofs.Tryz.prog 39 3 = some 3 := by kernel_rfl
theorem sz36_C3B : sizeT Go.Proofs.Tryz.prog 36 = some 2 := by kernel_rfl
theorem ht43_C3B : hasText Go.Proofs.Tryz.prog 43 = true := by kernel_rfl
theorem pt37_C3B : placesT Go.Proofs.Tryz.prog 37 2 = some [(0, 1), (1, 1)] := by kernel_rfl
theorem zt37_C3B : zeroT Go.Proofs.Tryz.prog 37 = some [.string ⟨#[]⟩, .int .u8 0] := by kernel_rfl
theorem fo39_4_C3B : fieldOff Go.Proofs.Tryz.prog 39 4 = some 5 := by kernel_rfl
theorem sz37_C3B : sizeT Go.Proofs.Tryz.prog 37 = some 2 := by kernel_rfl
theorem mixed_C3B : Go.Proofs.Tryz.prog.follows .mixedOrders = true := by kernel_rfl
theorem ht44_C3B : hasText Go.Proofs.Tryz.prog 44 = true := by kernel_rfl
theorem ag39_C3B : aggT Go.Proofs.Tryz.prog 39 = some true := by kernel_rfl
theorem ht17_C3B : hasText Go.Proofs.Tryz.prog 17 = true := by kernel_rfl

open Go.Proofs.YtokcgacehdgkcaaGreatDoor.Eng.Er Go.Proofs.YtokcgacehdgkcaaGreatDoor.Eng.Er2 Go.Proofs.YtokcgacehdgkcaaGreatDoor.Eng.Pb

def F_cdec (p0 : Int) (p1 : (List Int)) : Option (Cap × (Option Int)) :=
  bnd (F_cslot p0) fun x_1 => ifb (!x_1) (some ((⟨0, false, 0, (⟨0, 0⟩ : Rf), (⟨(⟨#[]⟩ : ByteArray), 0⟩ : Scp)⟩ : Cap), some 1)) (bnd (oNew p1) fun x_2 => bnd (oRNum x_2 4611686018427387904) fun x_3 => bnd (oRByte x_3.2) fun x_4 => bnd (ifb (decide (x_4.1 = 1)) (bnd (oRNum x_4.2 4611686018427387904) fun x_6 => bnd (oRByte x_6.2) fun x_7 => bnd (oRNum x_7.2 4611686018427387904) fun x_8 => bnd (oRBytes x_8.2 40) fun x_9 => bnd (oRByte x_9.2) fun x_10 => some (x_10.2, (⟨x_3.1, (decide (x_4.1 = 1)), x_6.1, (⟨IntKind.i64.wrap (x_7.1), x_8.1⟩ : Rf), (⟨(strOf x_9.1), x_10.1⟩ : Scp)⟩ : Cap))) (some (x_4.2, (⟨x_3.1, (decide (x_4.1 = 1)), 0, (⟨0, 0⟩ : Rf), (⟨(⟨#[]⟩ : ByteArray), 0⟩ : Scp)⟩ : Cap)))) fun z_5 => bnd (gif ((decide (1 < x_4.1)) == false) (oRDone z_5.1)) fun x_11 => bnd (gif (((decide (1 < x_4.1)) || x_11.isSome) == false) (F_cchk p0 z_5.2)) fun x_12 => ifb (((decide (1 < x_4.1)) || x_11.isSome) || x_12.isSome) (some ((⟨0, false, 0, (⟨0, 0⟩ : Rf), (⟨(⟨#[]⟩ : ByteArray), 0⟩ : Scp)⟩ : Cap), some 3)) (some (z_5.2, none)))
set_option maxRecDepth 100000 in
set_option maxHeartbeats 2000000 in
theorem c_cdec {p0 : Int} {p1 : (List Int)} {R : Cap × (Option Int)} (h0 : F_cdec p0 p1 = some R) : Pure Go.Proofs.Tryz.prog 10 [pl (.int .i64 p0), sl (kI .u8) none none p1] (tup [agg [pl (.int .u64 R.1.Gen), pl (.bool R.1.Live), pl (.int .u64 R.1.Holder), pl (.int .i64 R.1.From.Slot), pl (.int .u64 R.1.From.Gen), pl (.string R.1.Scope.Prefix), pl (.int .u8 R.1.Scope.Rights)], pl (errV R.2)]) := by
  intro s
  unfold F_cdec at h0
  refine ac_of_aw s.boxes.length s.fr.length Go.Proofs.Tryz.func10 rfl (by simp [Go.Proofs.Tryz.ntmps10]) ?_
  refine aw_ext0 ?_
  refine aw_keep [(0, _), (1, _)] ⟨lg ez, lg (es ez), trivial⟩ ?_
  refine aw_seq ?_
  refine aw_region (by decide) ?_
  refine rts _ rfl (allocN rfl zt39_C3B (by first | exact List.length_nil | (simp only [List.length_cons, List.length_nil, Nat.zero_add, Nat.reduceAdd] <;> rfl)) (by simp only [znz] <;> rfl)) ?_
  refine rts _ rfl (opD_assign (ev_const _ _)) ?_
  refine .nil ?_
  refine aw_keep [(0, _), (1, _), (4, _)] ⟨lg (ls rfl (ls rfl oz)), lg (ls rfl (ls rfl (os rfl oz))), lg (ls rfl lz), trivial⟩ ?_
  refine aw_seq ?_
  refine aw_seq ?_
  refine aw_region (by decide) ?_
  refine rts _ rfl (opD_move oz) ?_
  replace h0 := bnd_some h0
  obtain ⟨x_1, hx_1, h0⟩ := h0
  refine rts _ rfl (opD_pure ht39_C3B (c_cslot hx_1) ⟨le_of_eq lz, trivial⟩) ?_
  refine rts _ rfl (opD_not lz) ?_
  refine .nil ?_
  refine aw_keep [(0, _), (1, _), (4, _), (11, _)] ⟨lg (ls rfl (ls rfl (ls rfl oz))), lg (ls rfl (ls rfl (ls rfl (os rfl oz)))), lg (ls rfl (ls rfl (ls rfl (os rfl (os rfl oz))))), lg lz, trivial⟩ ?_
  refine aw_cond _ (os rfl (os rfl (os rfl oz))) (fun hc => ?_) (fun hc => ?_)
  · skip
    replace h0 := ifb_t h0 hc
    clear hc
    refine aw_seq ?_
    refine aw_region (by decide) ?_
    refine rts _ rfl (opD_build_struct (rs := [_, _, _, _, _, _, _]) Go.Proofs.Tryz.underlying39 pt39_C3B zt39_C3B parts_nil rfl) ?_
    refine rts _ rfl (opD_ple (q := pl (errV (some 1))) rfl (opD_makeInterface_pl cc107_C3B (ev_const _ _))) ?_
    refine rts _ rfl (storeAN rfl sz39_C3B (ls rfl (ls rfl (os rfl (os rfl oz)))) (ls rfl lz) (ones_cons (one_pl rfl) (ones_cons (one_pl rfl) (ones_cons (one_pl rfl) (ones_cons (one_pl rfl) (ones_cons (one_pl rfl) (ones_cons (one_pl rfl) (ones_cons (one_pl rfl) ones_nil))))))) rfl rfl (zNb rfl) (List.cons_ne_nil _ _) (zbc zPb (zbc zPb (zbc zPb (zbc zPb (zbc zPb (zbc zPb (zbc zPb bnd_nil))))))) (by simp only [znz] <;> rfl) (by simp only [znz] <;> rfl)) ?_
    refine rts _ rfl (opD_assign (lx lz)) ?_
    refine .nil ?_
    refine aw_keep [(4, _), (5, _)] ⟨lg (ls rfl (lx (ls rfl (ls rfl (os rfl (os rfl oz)))))), lg lz, trivial⟩ ?_
    refine aw_ret ?_
    obtain rfl := some_of h0
    exact done_ext (.inr rfl) ((res_list (rs := [_, _]) (ps := [_, _]) rfl rfl ⟨it_cellA (B := ⟨39, [_, _, _, _, _, _, _]⟩) ag39_C3B sz39_C3B oz (loc_getN rfl rfl) rfl, it_tmp (os rfl oz), trivial⟩).le (tup_le ⟨(agg_le ⟨zLr, zLr, zLr, zLr, zLr, zLr, zLr, trivial⟩), zLr, trivial⟩)) (tup_bnd (zbc (agg_bnd (zbc zPb (zbc zPb (zbc zPb (zbc zPb (zbc zPb (zbc zPb (zbc zPb bnd_nil)))))))) (zbc zPb bnd_nil)))
  · skip
    replace h0 := ifb_f h0 hc
    clear hc
    refine aw_skip ?_
    refine aw_keep [(0, _), (1, _), (4, _)] ⟨lg oz, lg (os rfl oz), lg (os rfl (os rfl oz)), trivial⟩ ?_
    refine aw_seq ?_
    refine aw_region (by decide) ?_
    refine rts _ rfl (opD_move (os rfl oz)) ?_
    replace h0 := bnd_some h0
    obtain ⟨x_2, hx_2, h0⟩ := h0
    refine rts _ rfl (callNN rfl ht40_C3B (fun s => c_oNew hx_2 s) ⟨le_of_eq lz, trivial⟩ (by first | exact List.length_nil | (simp only [List.length_cons, List.length_nil, Nat.zero_add, Nat.reduceAdd] <;> rfl)) (by simp only [znz] <;> rfl)) ?_
    refine rts _ rfl (opD_assign lz) ?_
    refine .nil ?_
    refine aw_keep [(0, _), (4, _), (6, _)] ⟨lg (ls rfl (ls rfl (ls rfl oz))), lg (ls rfl (ls rfl (ls rfl (os rfl (os rfl oz))))), lg lz, trivial⟩ ?_
    refine aw_seq ?_
    refine aw_region (by decide) ?_
    refine rts _ rfl (opD_move (os rfl (os rfl oz))) ?_
    replace h0 := bnd_some h0
    obtain ⟨x_3, hx_3, h0⟩ := h0
    refine rts _ rfl (callLN rfl ht41_C3B (fun s g h => c_oRNum hx_3 h) rfl ⟨le_of_eq lz, le_of_eq (ev_const _ _), trivial⟩ (by simp only [znz] <;> rfl)) ?_
    refine rts _ rfl (opD_build_struct (rs := [_, _, _, _, _, _, _]) Go.Proofs.Tryz.underlying39 pt39_C3B zt39_C3B (parts_cons (cells1 lz (one_pl rfl)) parts_nil) rfl) ?_
    refine rts _ rfl (allocN rfl zt39_C3B (by first | exact List.length_nil | (simp only [List.length_cons, List.length_nil, Nat.zero_add, Nat.reduceAdd] <;> rfl)) (by simp only [znz] <;> rfl)) ?_
    refine rts _ rfl (storeAN rfl sz39_C3B lz (ls rfl lz) (ones_cons (one_pl rfl) (ones_cons (one_pl rfl) (ones_cons (one_pl rfl) (ones_cons (one_pl rfl) (ones_cons (one_pl rfl) (ones_cons (one_pl rfl) (ones_cons (one_pl rfl) ones_nil))))))) rfl rfl (zNb rfl) (List.cons_ne_nil _ _) (zbc zPb (zbc zPb (zbc zPb (zbc zPb (zbc zPb (zbc zPb (zbc zPb bnd_nil))))))) (by simp only [znz] <;> rfl) (by simp only [znz] <;> rfl)) ?_
    refine .nil ?_
    refine aw_keep [(0, _), (4, _), (6, _), (7, _)] ⟨lg (lx (ls rfl (ls rfl (ls rfl (ls rfl oz))))), lg (lx (ls rfl (ls rfl (ls rfl (ls rfl (os rfl oz)))))), lg (lx (ls rfl (ls rfl (ls rfl (ls rfl (os rfl (os rfl oz))))))), lg (lx lz), trivial⟩ ?_
    refine aw_seq ?_
    refine aw_region (by decide) ?_
    refine rts _ rfl (opD_move (os rfl (os rfl oz))) ?_
    replace h0 := bnd_some h0
    obtain ⟨x_4, hx_4, h0⟩ := h0
    refine rts _ rfl (callLN rfl ht42_C3B (fun s g h => c_oRByte hx_4 h) rfl ⟨le_of_eq lz, trivial⟩ (by simp only [znz] <;> rfl)) ?_
    refine rts _ rfl (opD_assign lz) ?_
    refine .nil ?_
    refine aw_keep [(0, _), (4, _), (6, _), (7, _), (8, _)] ⟨lg (ls rfl (ls rfl (ls rfl oz))), lg (ls rfl (ls rfl (ls rfl (os rfl oz)))), lg (ls rfl (ls rfl (ls rfl (os rfl (os rfl oz))))), lg (ls rfl (ls rfl (ls rfl (os rfl (os rfl (os rfl oz)))))), lg lz, trivial⟩ ?_
    refine aw_seq ?_
    refine aw_seq ?_
    refine aw_region (by decide) ?_
    refine rts _ rfl (opD_move (os rfl (os rfl (os rfl (os rfl oz))))) ?_
    refine rts _ rfl (opD_eql lz (ev_const _ _)) ?_
    refine rts _ rfl (opD_fieldAddr fo39_1_C3B (ls rfl (ls rfl (os rfl (os rfl (os rfl oz)))))) ?_
    refine rts _ rfl (storeON rfl sz4_C3B lz (le_of_eq (ls rfl lz)) (one_pl rfl) rfl (zNb rfl) zPb (by simp only [znz] <;> rfl) (by simp only [znz] <;> rfl)) ?_
    refine .nil ?_
    refine aw_keep [(0, _), (4, _), (6, _), (7, _), (8, _)] ⟨lg (lx (ls rfl (ls rfl (ls rfl oz)))), lg (lx (ls rfl (ls rfl (ls rfl (os rfl oz))))), lg (lx (ls rfl (ls rfl (ls rfl (os rfl (os rfl oz)))))), lg (lx (ls rfl (ls rfl (ls rfl (os rfl (os rfl (os rfl oz))))))), lg (lx (ls rfl (ls rfl (ls rfl (os rfl (os rfl (os rfl (os rfl oz)))))))), trivial⟩ ?_
    refine aw_seq ?_
    refine aw_region (by decide) ?_
    refine rts _ rfl (opD_fieldAddr fo39_1_C3B (os rfl (os rfl (os rfl oz)))) ?_
    refine rts _ rfl (opD_load_one ag4_C3B lz (loc_getN rfl rfl) rfl) ?_
    refine .nil ?_
    refine aw_keep [(0, _), (4, _), (6, _), (7, _), (8, _), (25, _)] ⟨lg (ls rfl (ls rfl oz)), lg (ls rfl (ls rfl (os rfl oz))), lg (ls rfl (ls rfl (os rfl (os rfl oz)))), lg (ls rfl (ls rfl (os rfl (os rfl (os rfl oz))))), lg (ls rfl (ls rfl (os rfl (os rfl (os rfl (os rfl oz)))))), lg lz, trivial⟩ ?_
    replace h0 := bnd_some h0
    obtain ⟨z_5, hz_5, h0⟩ := h0
    refine aw_mid (fun e st => ∃ v : Rdr × Cap, Holds e [(0, pl (.int .i64 p0)), (4, ptr (s.boxes.length + 0) 0), (6, ptr (s.boxes.length + 1) 0), (7, ptr (s.boxes.length + 2) 0), (8, pl (.int .u8 x_4.1))] ∧ st = s.ext [⟨39, [pl (.int .u64 0), pl (.bool false), pl (.int .u64 0), pl (.int .i64 0), pl (.int .u64 0), pl (.string (⟨#[]⟩ : ByteArray)), pl (.int .u8 0)]⟩, ⟨171, [sl (kI .u8) none none v.1.b_, pl (.bool v.1.wrong_)]⟩, ⟨39, [pl (.int .u64 v.2.Gen), pl (.bool v.2.Live), pl (.int .u64 v.2.Holder), pl (.int .i64 v.2.From.Slot), pl (.int .u64 v.2.From.Gen), pl (.string v.2.Scope.Prefix), pl (.int .u8 v.2.Scope.Rights)]⟩] [] ∧ v = z_5) ?_ ?_
    · skip
      refine aw_wkN rfl 3 0 rfl rfl ?_
      refine aw_cond _ (os rfl (os rfl (os rfl (os rfl (os rfl oz))))) (fun hc => ?_) (fun hc => ?_)
      · skip
        replace hz_5 := ifb_t hz_5 hc
        clear hc
        refine aw_seq ?_
        refine aw_region (by decide) ?_
        refine rts _ rfl (opD_move (os rfl (os rfl oz))) ?_
        replace hz_5 := bnd_some hz_5
        obtain ⟨x_6, hx_6, hz_5⟩ := hz_5
        refine rts _ rfl (callLN rfl ht41_C3B (fun s g h => c_oRNum hx_6 h) rfl ⟨le_of_eq lz, le_of_eq (ev_const _ _), trivial⟩ (by simp only [znz] <;> rfl)) ?_
        refine rts _ rfl (opD_fieldAddr fo39_2_C3B (ls rfl (ls rfl (os rfl (os rfl (os rfl oz)))))) ?_
        refine rts _ rfl (storeON rfl sz22_C3B lz (le_of_eq (ls rfl lz)) (one_pl rfl) rfl (zNb rfl) zPb (by simp only [znz] <;> rfl) (by simp only [znz] <;> rfl)) ?_
        refine .nil ?_
        refine aw_keep [(0, _), (4, _), (6, _), (7, _), (8, _)] ⟨lg (lx (ls rfl (ls rfl (ls rfl oz)))), lg (lx (ls rfl (ls rfl (ls rfl (os rfl oz))))), lg (lx (ls rfl (ls rfl (ls rfl (os rfl (os rfl oz)))))), lg (lx (ls rfl (ls rfl (ls rfl (os rfl (os rfl (os rfl oz))))))), lg (lx (ls rfl (ls rfl (ls rfl (os rfl (os rfl (os rfl (os rfl oz)))))))), trivial⟩ ?_
        refine aw_seq ?_
        refine aw_region (by decide) ?_
        refine rts _ rfl (opD_move (os rfl (os rfl oz))) ?_
        replace hz_5 := bnd_some hz_5
        obtain ⟨x_7, hx_7, hz_5⟩ := hz_5
        refine rts _ rfl (callLN rfl ht42_C3B (fun s g h => c_oRByte hx_7 h) rfl ⟨le_of_eq lz, trivial⟩ (by simp only [znz] <;> rfl)) ?_
        refine rts _ rfl (opD_conv_int Go.Proofs.Tryz.underlying5 Go.Proofs.Tryz.underlying3 lz rfl) ?_
        refine rts _ rfl (opD_move (ls rfl (ls rfl (ls rfl (os rfl (os rfl oz)))))) ?_
        replace hz_5 := bnd_some hz_5
        obtain ⟨x_8, hx_8, hz_5⟩ := hz_5
        refine rts _ rfl (callLN rfl ht41_C3B (fun s g h => c_oRNum hx_8 h) rfl ⟨le_of_eq lz, le_of_eq (ev_const _ _), trivial⟩ (by simp only [znz] <;> rfl)) ?_
        refine rts _ rfl (opD_build_struct (rs := [_, _]) Go.Proofs.Tryz.underlying36 pt36_C3B zt36_C3B (parts_cons (cells1 (ls rfl (ls rfl lz)) (one_pl rfl)) (parts_cons (cells1 lz (one_pl rfl)) parts_nil)) rfl) ?_
        refine rts _ rfl (opD_fieldAddr fo39_3_C3B (ls rfl (ls rfl (ls rfl (ls rfl (ls rfl (ls rfl (os rfl (os rfl (os rfl oz)))))))))) ?_
        refine rts _ rfl (storeAN rfl sz36_C3B lz (ls rfl lz) (ones_cons (one_pl rfl) (ones_cons (one_pl rfl) ones_nil)) rfl rfl (zNb rfl) (List.cons_ne_nil _ _) (zbc zPb (zbc zPb bnd_nil)) (by simp only [znz] <;> rfl) (by simp only [znz] <;> rfl)) ?_
        refine .nil ?_
        refine aw_keep [(0, _), (4, _), (6, _), (7, _), (8, _)] ⟨lg (lx (ls rfl (ls rfl (ls rfl (ls rfl (ls rfl (ls rfl (ls rfl oz)))))))), lg (lx (ls rfl (ls rfl (ls rfl (ls rfl (ls rfl (ls rfl (ls rfl (os rfl oz))))))))), lg (lx (ls rfl (ls rfl (ls rfl (ls rfl (ls rfl (ls rfl (ls rfl (os rfl (os rfl oz)))))))))), lg (lx (ls rfl (ls rfl (ls rfl (ls rfl (ls rfl (ls rfl (ls rfl (os rfl (os rfl (os rfl oz))))))))))), lg (lx (ls rfl (ls rfl (ls rfl (ls rfl (ls rfl (ls rfl (ls rfl (os rfl (os rfl (os rfl (os rfl oz)))))))))))), trivial⟩ ?_
        refine aw_drawn [false, true, false, false, true, false, false, true] [[0], [0, 1], [1, 2], [0, 1], [1, 2], [2], [2], [2, 3]] mixed_C3B (by decide +kernel) ?_
        refine dtp _ rfl (fun s => opD_move (os rfl (os rfl oz))) ?_
        replace hz_5 := bnd_some hz_5
        obtain ⟨x_9, hx_9, hz_5⟩ := hz_5
        refine dta _ rfl (callLN rfl ht43_C3B (fun s g h => c_oRBytes hx_9 h) rfl ⟨le_of_eq lz, le_of_eq (ev_const _ _), trivial⟩ (by simp only [znz] <;> rfl)) ?_
        refine dtp _ rfl (fun s => opD_bytes_str Go.Proofs.Tryz.underlying30 Go.Proofs.Tryz.underlying5 Go.Proofs.Tryz.underlying9 lz) ?_
        refine dtp _ rfl (fun s => opD_move (ls rfl (ls rfl (ls rfl (os rfl (os rfl oz)))))) ?_
        replace hz_5 := bnd_some hz_5
        obtain ⟨x_10, hx_10, hz_5⟩ := hz_5
        refine dta _ rfl (callLN rfl ht42_C3B (fun s g h => c_oRByte hx_10 h) rfl ⟨le_of_eq lz, trivial⟩ (by simp only [znz] <;> rfl)) ?_
        refine dtp _ rfl (fun s => opD_build_struct (rs := [_, _]) Go.Proofs.Tryz.underlying37 pt37_C3B zt37_C3B (parts_cons (cells1 (ls rfl (ls rfl lz)) (one_pl rfl)) (parts_cons (cells1 lz (one_pl rfl)) parts_nil)) rfl) ?_
        refine dtp _ rfl (fun s => opD_fieldAddr fo39_4_C3B (ls rfl (ls rfl (ls rfl (ls rfl (ls rfl (ls rfl (os rfl (os rfl (os rfl oz)))))))))) ?_
        refine dta _ rfl (storeAN rfl sz37_C3B lz (ls rfl lz) (ones_cons (one_pl rfl) (ones_cons (one_pl rfl) ones_nil)) rfl rfl (zNb rfl) (List.cons_ne_nil _ _) (zbc zPb (zbc zPb bnd_nil)) (by simp only [znz] <;> rfl) (by simp only [znz] <;> rfl)) ?_
        refine .nil ?_
        dsimp only [List.nil_append, List.cons_append]
        refine ⟨rfl, ⟨trivial, trivial, trivial, trivial, trivial, trivial, trivial, trivial, trivial⟩, ?_⟩
        refine wk_yesN rfl (l := [(0, pl (.int .i64 p0)), (4, ptr (s.boxes.length + 0) 0), (6, ptr (s.boxes.length + 1) 0), (7, ptr (s.boxes.length + 2) 0), (8, pl (.int .u8 x_4.1))]) (bs' := [⟨39, [pl (.int .u64 0), pl (.bool false), pl (.int .u64 0), pl (.int .i64 0), pl (.int .u64 0), pl (.string (⟨#[]⟩ : ByteArray)), pl (.int .u8 0)]⟩, ⟨171, [sl (kI .u8) none none x_10.2.b_, pl (.bool x_10.2.wrong_)]⟩, ⟨39, [pl (.int .u64 x_3.1), pl (.bool (decide (x_4.1 = 1))), pl (.int .u64 x_6.1), pl (.int .i64 (IntKind.i64.wrap (x_7.1))), pl (.int .u64 x_8.1), pl (.string (strOf x_9.1)), pl (.int .u8 x_10.1)]⟩]) ⟨le_of_eq (eg (lx (ls rfl (ls rfl (ls rfl (ls rfl (ls rfl (ls rfl (ls rfl oz))))))))), le_of_eq (eg (lx (ls rfl (ls rfl (ls rfl (ls rfl (ls rfl (ls rfl (ls rfl (os rfl oz)))))))))), le_of_eq (eg (lx (ls rfl (ls rfl (ls rfl (ls rfl (ls rfl (ls rfl (ls rfl (os rfl (os rfl oz))))))))))), le_of_eq (eg (lx (ls rfl (ls rfl (ls rfl (ls rfl (ls rfl (ls rfl (ls rfl (os rfl (os rfl (os rfl oz)))))))))))), le_of_eq (eg (lx (ls rfl (ls rfl (ls rfl (ls rfl (ls rfl (ls rfl (ls rfl (os rfl (os rfl (os rfl (os rfl oz))))))))))))), trivial⟩ (zbc zPb (zbc (ptr_bnd _ (by first | omega | (simp only [List.length_append, List.length_cons, List.length_nil]; omega))) (zbc (ptr_bnd _ (by first | omega | (simp only [List.length_append, List.length_cons, List.length_nil]; omega))) (zbc (ptr_bnd _ (by first | omega | (simp only [List.length_append, List.length_cons, List.length_nil]; omega))) (zbc zPb bnd_nil))))) (zNb rfl) (by simp only [znz] <;> rfl) (bxle_same (bxle_same (bxle_same bxle_nil))) rfl (by simp only [znz] <;> rfl) (bl_cons (zbc zPb (zbc zPb (zbc zPb (zbc zPb (zbc zPb (zbc zPb (zbc zPb bnd_nil))))))) (bl_cons (zbc (sl_b (kb_I _)) (zbc zPb bnd_nil)) (bl_cons (zbc zPb (zbc zPb (zbc zPb (zbc zPb (zbc zPb (zbc zPb (zbc zPb bnd_nil))))))) bl_nil))) ?_
        exact ⟨(x_10.2, (⟨x_3.1, (decide (x_4.1 = 1)), x_6.1, (⟨IntKind.i64.wrap (x_7.1), x_8.1⟩ : Rf), (⟨(strOf x_9.1), x_10.1⟩ : Scp)⟩ : Cap)), ⟨le_of_eq (eg oz), le_of_eq (eg (os rfl oz)), le_of_eq (eg (os rfl (os rfl oz))), le_of_eq (eg (os rfl (os rfl (os rfl oz)))), le_of_eq (eg (os rfl (os rfl (os rfl (os rfl oz))))), trivial⟩, rfl, some_of hz_5⟩
      · skip
        replace hz_5 := ifb_f hz_5 hc
        clear hc
        refine aw_skip ?_
        refine wk_yesN rfl (l := [(0, pl (.int .i64 p0)), (4, ptr (s.boxes.length + 0) 0), (6, ptr (s.boxes.length + 1) 0), (7, ptr (s.boxes.length + 2) 0), (8, pl (.int .u8 x_4.1))]) (bs' := [⟨39, [pl (.int .u64 0), pl (.bool false), pl (.int .u64 0), pl (.int .i64 0), pl (.int .u64 0), pl (.string (⟨#[]⟩ : ByteArray)), pl (.int .u8 0)]⟩, ⟨171, [sl (kI .u8) none none x_4.2.b_, pl (.bool x_4.2.wrong_)]⟩, ⟨39, [pl (.int .u64 x_3.1), pl (.bool (decide (x_4.1 = 1))), pl (.int .u64 0), pl (.int .i64 0), pl (.int .u64 0), pl (.string (⟨#[]⟩ : ByteArray)), pl (.int .u8 0)]⟩]) ⟨le_of_eq (eg oz), le_of_eq (eg (os rfl oz)), le_of_eq (eg (os rfl (os rfl oz))), le_of_eq (eg (os rfl (os rfl (os rfl oz)))), le_of_eq (eg (os rfl (os rfl (os rfl (os rfl oz))))), trivial⟩ (zbc zPb (zbc (ptr_bnd _ (by first | omega | (simp only [List.length_append, List.length_cons, List.length_nil]; omega))) (zbc (ptr_bnd _ (by first | omega | (simp only [List.length_append, List.length_cons, List.length_nil]; omega))) (zbc (ptr_bnd _ (by first | omega | (simp only [List.length_append, List.length_cons, List.length_nil]; omega))) (zbc zPb bnd_nil))))) (zNb rfl) (by simp only [znz] <;> rfl) (bxle_same (bxle_same (bxle_same bxle_nil))) rfl (by simp only [znz] <;> rfl) (bl_cons (zbc zPb (zbc zPb (zbc zPb (zbc zPb (zbc zPb (zbc zPb (zbc zPb bnd_nil))))))) (bl_cons (zbc (sl_b (kb_I _)) (zbc zPb bnd_nil)) (bl_cons (zbc zPb (zbc zPb (zbc zPb (zbc zPb (zbc zPb (zbc zPb (zbc zPb bnd_nil))))))) bl_nil))) ?_
        exact ⟨(x_4.2, (⟨x_3.1, (decide (x_4.1 = 1)), 0, (⟨0, 0⟩ : Rf), (⟨(⟨#[]⟩ : ByteArray), 0⟩ : Scp)⟩ : Cap)), ⟨le_of_eq (eg oz), le_of_eq (eg (os rfl oz)), le_of_eq (eg (os rfl (os rfl oz))), le_of_eq (eg (os rfl (os rfl (os rfl oz)))), le_of_eq (eg (os rfl (os rfl (os rfl (os rfl oz))))), trivial⟩, rfl, some_of hz_5⟩
    · rintro e st ⟨vz_5, hH, rfl, rfl⟩
      refine aw_keep _ hH ?_
      refine aw_keep [(0, _), (4, _), (6, _), (7, _), (8, _)] ⟨lg oz, lg (os rfl oz), lg (os rfl (os rfl oz)), lg (os rfl (os rfl (os rfl oz))), lg (os rfl (os rfl (os rfl (os rfl oz)))), trivial⟩ ?_
      refine aw_seq ?_
      refine aw_seq ?_
      refine aw_region (by decide) ?_
      refine rts _ rfl (opD_move (os rfl (os rfl (os rfl (os rfl oz))))) ?_
      refine rts _ rfl (opD_gtr lz (ev_const _ _)) ?_
      refine rts _ rfl (opD_move lz) ?_
      refine rtg _ rfl lz (fun hg11_3_1 => opD_move (ls rfl (ls rfl (ls rfl (os rfl (os rfl oz)))))) ?_
      replace h0 := bnd_some h0
      obtain ⟨x_11, hx_11, h0⟩ := h0
      refine rtg _ rfl (ls rfl lz) (fun hg11_4_2 => opD_call ht44_C3B (c_oRDone (gif_some hx_11 hg11_4_2) (loc_getN rfl rfl)) ⟨le_of_eq (lz.trans (pif_pos hg11_4_2)), trivial⟩) ?_
      refine rtg _ rfl (ls rfl (ls rfl lz)) (fun hg11_5_3 => opD_bin (lz.trans (pif_pos hg11_5_3)) (ev_const _ _) (fun w => errV_guard _ w _) (fun w => errV_beq _ w)) ?_
      refine rts _ rfl (opD_or (ls rfl (ls rfl (ls rfl lz))) lz) ?_
      refine rts _ rfl (opD_move lz) ?_
      refine rtg _ rfl lz (fun hg11_8_4 => opD_move (ls rfl (ls rfl (ls rfl (ls rfl (ls rfl (ls rfl (ls rfl (ls rfl oz))))))))) ?_
      refine rtg _ rfl (ls rfl lz) (fun hg11_9_5 => opD_load_aggX (qs := [_, _, _, _, _, _, _]) ag39_C3B sz39_C3B (ls rfl (ls rfl (ls rfl (ls rfl (ls rfl (ls rfl (ls rfl (ls rfl (ls rfl (os rfl (os rfl (os rfl oz)))))))))))) (loc_getN rfl rfl) (zNb rfl) rfl) ?_
      replace h0 := bnd_some h0
      obtain ⟨x_12, hx_12, h0⟩ := h0
      refine rtg _ rfl (ls rfl (ls rfl lz)) (fun hg11_10_6 => opD_pure ht17_C3B (c_cchk (gif_some hx_12 hg11_10_6)) ⟨le_of_eq ((ls rfl lz).trans (pif_pos hg11_10_6)), (le_of_eq (lz.trans (pif_pos hg11_10_6))).trans (agg_le ⟨zLr, zLr, zLr, zLr, zLr, zLr, zLr, trivial⟩), trivial⟩) ?_
      refine rtg _ rfl (ls rfl (ls rfl (ls rfl lz))) (fun hg11_11_7 => opD_bin (lz.trans (pif_pos hg11_11_7)) (ev_const _ _) (fun w => errV_guard _ w _) (fun w => errV_beq _ w)) ?_
      refine rts _ rfl (opD_or (ls rfl (ls rfl (ls rfl (ls rfl lz)))) lz) ?_
      refine .nil ?_
      refine aw_keep [(4, _), (7, _), (55, _)] ⟨lg (ls rfl (ls rfl (ls rfl (ls rfl (ls rfl (ls rfl (ls rfl (ls rfl (ls rfl (ls rfl (ls rfl (ls rfl (ls rfl (os rfl oz)))))))))))))), lg (ls rfl (ls rfl (ls rfl (ls rfl (ls rfl (ls rfl (ls rfl (ls rfl (ls rfl (ls rfl (ls rfl (ls rfl (ls rfl (os rfl (os rfl (os rfl oz)))))))))))))))), lg lz, trivial⟩ ?_
      refine aw_cond _ (os rfl (os rfl oz)) (fun hc => ?_) (fun hc => ?_)
      · skip
        replace h0 := ifb_t h0 hc
        clear hc
        refine aw_seq ?_
        refine aw_region (by decide) ?_
        refine rts _ rfl (opD_build_struct (rs := [_, _, _, _, _, _, _]) Go.Proofs.Tryz.underlying39 pt39_C3B zt39_C3B parts_nil rfl) ?_
        refine rts _ rfl (opD_ple (q := pl (errV (some 3))) rfl (opD_makeInterface_pl cc107_C3B (ev_const _ _))) ?_
        refine rts _ rfl (storeAN rfl sz39_C3B (ls rfl (ls rfl oz)) (ls rfl lz) (ones_cons (one_pl rfl) (ones_cons (one_pl rfl) (ones_cons (one_pl rfl) (ones_cons (one_pl rfl) (ones_cons (one_pl rfl) (ones_cons (one_pl rfl) (ones_cons (one_pl rfl) ones_nil))))))) rfl rfl (zNb rfl) (List.cons_ne_nil _ _) (zbc zPb (zbc zPb (zbc zPb (zbc zPb (zbc zPb (zbc zPb (zbc zPb bnd_nil))))))) (by simp only [znz] <;> rfl) (by simp only [znz] <;> rfl)) ?_
        refine rts _ rfl (opD_assign (lx lz)) ?_
        refine .nil ?_
        refine aw_keep [(4, _), (5, _)] ⟨lg (ls rfl (lx (ls rfl (ls rfl oz)))), lg lz, trivial⟩ ?_
        refine aw_ret ?_
        obtain rfl := some_of h0
        exact done_ext (.inr rfl) ((res_list (rs := [_, _]) (ps := [_, _]) rfl rfl ⟨it_cellA (B := ⟨39, [_, _, _, _, _, _, _]⟩) ag39_C3B sz39_C3B oz (loc_getN rfl rfl) rfl, it_tmp (os rfl oz), trivial⟩).le (tup_le ⟨(agg_le ⟨zLr, zLr, zLr, zLr, zLr, zLr, zLr, trivial⟩), zLr, trivial⟩)) (tup_bnd (zbc (agg_bnd (zbc zPb (zbc zPb (zbc zPb (zbc zPb (zbc zPb (zbc zPb (zbc zPb bnd_nil)))))))) (zbc zPb bnd_nil)))
      · skip
        replace h0 := ifb_f h0 hc
        clear hc
        refine aw_skip ?_
        refine aw_keep [(4, _), (7, _)] ⟨lg oz, lg (os rfl oz), trivial⟩ ?_
        refine aw_seq ?_
        refine aw_region (by decide) ?_
        refine rts _ rfl (opD_load_aggX (qs := [_, _, _, _, _, _, _]) ag39_C3B sz39_C3B (os rfl oz) (loc_getN rfl rfl) (zNb rfl) rfl) ?_
        refine rts _ rfl (storeAN rfl sz39_C3B (ls rfl oz) lz (ones_cons (one_pl rfl) (ones_cons (one_pl rfl) (ones_cons (one_pl rfl) (ones_cons (one_pl rfl) (ones_cons (one_pl rfl) (ones_cons (one_pl rfl) (ones_cons (one_pl rfl) ones_nil))))))) rfl rfl (zNb rfl) (List.cons_ne_nil _ _) (zbc zPb (zbc zPb (zbc zPb (zbc zPb (zbc zPb (zbc zPb (zbc zPb bnd_nil))))))) (by simp only [znz] <;> rfl) (by simp only [znz] <;> rfl)) ?_
        refine rts _ rfl (opD_assign (ev_const _ _)) ?_
        refine .nil ?_
        refine aw_keep [(4, _), (5, _)] ⟨lg (ls rfl (lx (ls rfl oz))), lg lz, trivial⟩ ?_
        refine aw_ret ?_
        obtain rfl := some_of h0
        exact done_ext (.inr rfl) ((res_list (rs := [_, _]) (ps := [_, _]) rfl rfl ⟨it_cellA (B := ⟨39, [_, _, _, _, _, _, _]⟩) ag39_C3B sz39_C3B oz (loc_getN rfl rfl) rfl, it_tmp (os rfl oz), trivial⟩).le (tup_le ⟨(agg_le ⟨zLr, zLr, zLr, zLr, zLr, zLr, zLr, trivial⟩), zLr, trivial⟩)) (tup_bnd (zbc (agg_bnd (zbc zPb (zbc zPb (zbc zPb (zbc zPb (zbc zPb (zbc zPb (zbc zPb bnd_nil)))))))) (zbc zPb bnd_nil)))
end Go.Proofs.YtokcgacehdgkcaaGreatDoor.Eng.A
