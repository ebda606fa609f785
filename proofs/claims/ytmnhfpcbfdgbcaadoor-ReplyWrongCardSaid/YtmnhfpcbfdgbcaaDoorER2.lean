/- ER2: what functions do, walked; used by the laws of this seat. -/
import Derived.Test.YtmnhfpcbfdgbcaaDoorER1
namespace Go.Proofs.YtmnhfpcbfdgbcaaDoor.Eng.A
set_option linter.unusedVariables false
set_option linter.unusedSimpArgs false
open Go.RowKit Go.Proofs.YtmnhfpcbfdgbcaaDoor.Plain Go.Proofs.YtmnhfpcbfdgbcaaDoor.Eng Go.Proofs.YtmnhfpcbfdgbcaaDoor.Eng.Pk Go.Proofs.YtmnhfpcbfdgbcaaDoor.Eng.Rd

theorem fo88_0_u3b : fieldOff Tryd.prog 88 0 = some 0 := by kernel_rfl
theorem ag3_u3b : aggT Tryd.prog 3 = some false := by kernel_rfl
theorem fo88_1_u3b : fieldOff Tryd.prog 88 1 = some 1 := by kernel_rfl
theorem ag22_u3b : aggT Tryd.prog 22 = some false := by kernel_rfl
theorem fo88_3_u3b : fieldOff Tryd.prog 88 3 = some 3 := by kernel_rfl
theorem ag9_u3b : aggT Tryd.prog 9 = some false := by kernel_rfl
theorem fo88_4_u3b : fieldOff Tryd.prog 88 4 = some 4 := by kernel_rfl
theorem ag85_u3b : aggT Tryd.prog 85 = some false := by kernel_rfl
theorem fo88_5_u3b : fieldOff Tryd.prog 88 5 = some 5 := by kernel_rfl
theorem ag86_u3b : aggT Tryd.prog 86 = some false := by kernel_rfl
theorem fo88_6_u3b : fieldOff Tryd.prog 88 6 = some 6 := by kernel_rfl
theorem ag54_u3b : aggT Tryd.prog 54 = some false := by kernel_rfl
theorem sz174_u3b : sizeT Tryd.prog 174 = some 2 := by kernel_rfl
theorem fo174_0_u3b : fieldOff Tryd.prog 174 0 = some 0 := by kernel_rfl
theorem fo174_1_u3b : fieldOff Tryd.prog 174 1 = some 1 := by kernel_rfl
theorem sz112_u3b : sizeT Tryd.prog 112 = some 2 := by kernel_rfl
theorem fo112_0_u3b : fieldOff Tryd.prog 112 0 = some 0 := by kernel_rfl
theorem fo112_1_u3b : fieldOff Tryd.prog 112 1 = some 1 := by kernel_rfl
theorem sz60_u3b : sizeT Tryd.prog 60 = some 5 := by kernel_rfl
theorem fo60_0_u3b : fieldOff Tryd.prog 60 0 = some 0 := by kernel_rfl
theorem fo60_1_u3b : fieldOff Tryd.prog 60 1 = some 1 := by kernel_rfl
theorem fo60_4_u3b : fieldOff Tryd.prog 60 4 = some 4 := by kernel_rfl
theorem ag88_u3b : aggT Tryd.prog 88 = some true := by kernel_rfl
theorem sz88_u3b : sizeT Tryd.prog 88 = some 7 := by kernel_rfl
theorem ht59_u3b : hasText Tryd.prog 59 = true := by kernel_rfl
theorem ht29_u3b : hasText Tryd.prog 29 = true := by kernel_rfl
theorem mixed_u3b : Tryd.prog.follows .mixedOrders = true := by kernel_rfl
theorem fo88_2_u3b : fieldOff Tryd.prog 88 2 = some 2 := by kernel_rfl
theorem ag4_u3b : aggT Tryd.prog 4 = some false := by kernel_rfl
theorem sz5_u3b : sizeT Tryd.prog 5 = some 1 := by kernel_rfl
theorem zt5_u3b : zeroT Tryd.prog 5 = some [.int .u8 0] := by kernel_rfl
theorem el5_u3b : elT Tryd.prog 5 = some (1, 1) := by kernel_rfl
theorem ht30_u3b : hasText Tryd.prog 30 = true := by kernel_rfl
theorem ag60_u3b : aggT Tryd.prog 60 = some true := by kernel_rfl
theorem zt60_u3b : zeroT Tryd.prog 60 = some [.int .u64 0, .int .u64 0, .int .u8 0, .int .u16 0, .string ⟨#[]⟩] := by kernel_rfl
theorem fo60_2_u3b : fieldOff Tryd.prog 60 2 = some 2 := by kernel_rfl
theorem ag5_u3b : aggT Tryd.prog 5 = some false := by kernel_rfl
theorem fo60_3_u3b : fieldOff Tryd.prog 60 3 = some 3 := by kernel_rfl
theorem ag58_u3b : aggT Tryd.prog 58 = some false := by kernel_rfl
theorem zt41_u3b : zeroT Tryd.prog 41 = some [.slice none 0 0, .bool false] := by kernel_rfl
theorem fo41_1_u3b : fieldOff Tryd.prog 41 1 = some 1 := by kernel_rfl
theorem ag41_u3b : aggT Tryd.prog 41 = some true := by kernel_rfl
theorem sz41_u3b : sizeT Tryd.prog 41 = some 2 := by kernel_rfl
theorem ht32_u3b : hasText Tryd.prog 32 = true := by kernel_rfl
theorem ht33_u3b : hasText Tryd.prog 33 = true := by kernel_rfl
theorem ht31_u3b : hasText Tryd.prog 31 = true := by kernel_rfl
theorem zt88_u3b : zeroT Tryd.prog 88 = some [.int .i64 0, .int .u64 0, .bool false, .string ⟨#[]⟩, .slice none 0 0, .slice none 0 0, .slice none 0 0] := by kernel_rfl
theorem pt41_u3b : placesT Tryd.prog 41 2 = some [(0, 1), (1, 1)] := by kernel_rfl
theorem ht99_u3b : hasText Tryd.prog 99 = true := by kernel_rfl
theorem sz22_u3b : sizeT Tryd.prog 22 = some 1 := by kernel_rfl
theorem ht100_u3b : hasText Tryd.prog 100 = true := by kernel_rfl
theorem sz3_u3b : sizeT Tryd.prog 3 = some 1 := by kernel_rfl
theorem sz4_u3b : sizeT Tryd.prog 4 = some 1 := by kernel_rfl
theorem ht101_u3b : hasText Tryd.prog 101 = true := by kernel_rfl
theorem sz9_u3b : sizeT Tryd.prog 9 = some 1 := by kernel_rfl
theorem zt174_u3b : zeroT Tryd.prog 174 = some [.string ⟨#[]⟩, .string ⟨#[]⟩] := by kernel_rfl
theorem ag174_u3b : aggT Tryd.prog 174 = some true := by kernel_rfl
theorem el174_u3b : elT Tryd.prog 174 = some (2, 32) := by kernel_rfl
theorem sz85_u3b : sizeT Tryd.prog 85 = some 1 := by kernel_rfl
theorem zt112_u3b : zeroT Tryd.prog 112 = some [.int .i64 0, .int .u64 0] := by kernel_rfl
theorem ag112_u3b : aggT Tryd.prog 112 = some true := by kernel_rfl
theorem el112_u3b : elT Tryd.prog 112 = some (2, 16) := by kernel_rfl
theorem sz86_u3b : sizeT Tryd.prog 86 = some 1 := by kernel_rfl
theorem sz58_u3b : sizeT Tryd.prog 58 = some 1 := by kernel_rfl
theorem el60_u3b : elT Tryd.prog 60 = some (5, 40) := by kernel_rfl
theorem sz54_u3b : sizeT Tryd.prog 54 = some 1 := by kernel_rfl
theorem ht53_u3b : hasText Tryd.prog 53 = true := by kernel_rfl
theorem ht34_u3b : hasText Tryd.prog 34 = true := by kernel_rfl
theorem pt88_u3b : placesT Tryd.prog 88 7 = some [(0, 1), (1, 1), (2, 1), (3, 1), (4, 1), (5, 1), (6, 1)] := by kernel_rfl

def F_rmay_b0 (p0 : Rpl) (t_2 : Int) : Option ((Int) ⊕ ((Bool) ⊕ (Unit))) :=
  ifb (decide (t_2 < (p0.Rows.length : Int))) (ixb p0.Rows t_2 fun x_4 => grd (((decide (40 < (x_4.Key.size : Int))) == false) = true → Below t_2 p0.Rows.length) <| ifb ((decide (40 < (x_4.Key.size : Int))) || (decide (2048 < (((p0.Rows.getD t_2.toNat default).Value).size : Int)))) (some (.inr (.inl false))) (some (.inl (IntKind.i64.wrap (t_2 + 1))))) (some (.inr (.inr ())))
def F_rmay_b1 (p0 : Rpl) (t_6 : Int) : Option ((Int) ⊕ ((Bool) ⊕ (Unit))) :=
  ifb (decide (t_6 < (p0.Refs.length : Int))) (ixb p0.Refs t_6 fun x_8 => grd (((decide (x_8.Slot < 0)) == false) = true → Below t_6 p0.Refs.length) <| grd ((((decide (x_8.Slot < 0)) || (decide (63 < ((p0.Refs.getD t_6.toNat default).Slot)))) == false) = true → Below t_6 p0.Refs.length) <| ifb (((decide (x_8.Slot < 0)) || (decide (63 < ((p0.Refs.getD t_6.toNat default).Slot)))) || (decide (4611686018427387904 < ((p0.Refs.getD t_6.toNat default).Gen)))) (some (.inr (.inl false))) (some (.inl (IntKind.i64.wrap (t_6 + 1))))) (some (.inr (.inr ())))
def F_rmay_b2 (p0 : Rpl) (t_10 : Int) : Option ((Int) ⊕ ((Bool) ⊕ (Unit))) :=
  ifb (decide (t_10 < (p0.Lines.length : Int))) (ixb p0.Lines t_10 fun x_12 => grd (((decide (4611686018427387904 < x_12.Seq)) == false) = true → Below t_10 p0.Lines.length) <| grd ((((decide (4611686018427387904 < x_12.Seq)) || (decide (4611686018427387904 < ((p0.Lines.getD t_10.toNat default).Who)))) == false) = true → Below t_10 p0.Lines.length) <| ifb (((decide (4611686018427387904 < x_12.Seq)) || (decide (4611686018427387904 < ((p0.Lines.getD t_10.toNat default).Who)))) || (decide (40 < (((p0.Lines.getD t_10.toNat default).Key).size : Int)))) (some (.inr (.inl false))) (some (.inl (IntKind.i64.wrap (t_10 + 1))))) (some (.inr (.inr ())))
def F_rmay (fl : Nat) (p0 : Rpl) : Option (Bool) :=
  ifb (((((((decide (p0.Code < 0)) || (decide (65535 < p0.Code))) || (decide (4611686018427387904 < p0.N))) || (decide (2048 < (p0.Value.size : Int)))) || (decide (64 < (p0.Rows.length : Int)))) || (decide (64 < (p0.Refs.length : Int)))) || (decide (32 < (p0.Lines.length : Int)))) (some false) (bnd (lp (F_rmay_b0 p0) fl 0) fun z_1 => ocs z_1 (fun qz_1_0 => some qz_1_0) fun z_1_0 => bnd (lp (F_rmay_b1 p0) fl 0) fun z_5 => ocs z_5 (fun qz_5_0 => some qz_5_0) fun z_5_0 => bnd (lp (F_rmay_b2 p0) fl 0) fun z_9 => ocs z_9 (fun qz_9_0 => some qz_9_0) fun z_9_0 => some true)
set_option maxRecDepth 100000 in
set_option maxHeartbeats 2000000 in
theorem c_rmay {fl : Nat} {p0 : Rpl} {R : Bool} (h0 : F_rmay fl p0 = some R) : Pure Tryd.prog 59 [agg [pl (.int .i64 p0.Code), pl (.int .u64 p0.N), pl (.bool p0.Found), pl (.string p0.Value), sl kEnt none none p0.Rows, sl kRf none none p0.Refs, sl kLin none none p0.Lines]] (pl (.bool R)) := by
  intro s
  unfold F_rmay at h0
  refine ac_of_aw s.boxes.length s.fr.length Tryd.func59 rfl (by simp [Tryd.ntmps59]) ?_
  refine aw_ext0 ?_
  refine aw_keep [(0, _)] ⟨lg ez, trivial⟩ ?_
  refine aw_seq ?_
  refine aw_region (by decide) ?_
  refine rts _ rfl (boxAN rfl oz (zbc zPb (zbc zPb (zbc zPb (zbc zPb (zbc (sl_b kb_Ent) (zbc (sl_b kb_Rf) (zbc (sl_b kb_Lin) bnd_nil))))))) (by first | exact List.length_nil | (simp only [List.length_cons, List.length_nil, Nat.zero_add, Nat.reduceAdd] <;> rfl)) (by simp only [znz] <;> rfl)) ?_
  refine rts _ rfl (opD_assign (ev_const _ _)) ?_
  refine .nil ?_
  refine aw_keep [(1, _)] ⟨lg (ls rfl lz), trivial⟩ ?_
  refine aw_seq ?_
  refine aw_seq ?_
  refine aw_region (by decide) ?_
  refine rts _ rfl (opD_fieldAddr fo88_0_u3b oz) ?_
  refine rts _ rfl (opD_load_one ag3_u3b lz (loc_getN rfl rfl) rfl) ?_
  refine rts _ rfl (opD_lss lz (ev_const _ _)) ?_
  refine rts _ rfl (opD_move lz) ?_
  refine rtg _ rfl lz (fun hg1_4_1 => opD_fieldAddr fo88_0_u3b (ls rfl (ls rfl (ls rfl (ls rfl oz))))) ?_
  refine rtg _ rfl (ls rfl lz) (fun hg1_5_2 => opD_load_one ag3_u3b (lz.trans (pif_pos hg1_5_2)) (loc_getN rfl rfl) rfl) ?_
  refine rtg _ rfl (ls rfl (ls rfl lz)) (fun hg1_6_3 => opD_gtr (lz.trans (pif_pos hg1_6_3)) (ev_const _ _)) ?_
  refine rts _ rfl (opD_or (ls rfl (ls rfl (ls rfl lz))) lz) ?_
  refine rts _ rfl (opD_move lz) ?_
  refine rtg _ rfl lz (fun hg1_9_4 => opD_fieldAddr fo88_1_u3b (ls rfl (ls rfl (ls rfl (ls rfl (ls rfl (ls rfl (ls rfl (ls rfl (ls rfl oz)))))))))) ?_
  refine rtg _ rfl (ls rfl lz) (fun hg1_10_5 => opD_load_one ag22_u3b (lz.trans (pif_pos hg1_10_5)) (loc_getN rfl rfl) rfl) ?_
  refine rtg _ rfl (ls rfl (ls rfl lz)) (fun hg1_11_6 => opD_gtr (lz.trans (pif_pos hg1_11_6)) (ev_const _ _)) ?_
  refine rts _ rfl (opD_or (ls rfl (ls rfl (ls rfl lz))) lz) ?_
  refine rts _ rfl (opD_move lz) ?_
  refine rtg _ rfl lz (fun hg1_14_7 => opD_fieldAddr fo88_3_u3b (ls rfl (ls rfl (ls rfl (ls rfl (ls rfl (ls rfl (ls rfl (ls rfl (ls rfl (ls rfl (ls rfl (ls rfl (ls rfl (ls rfl oz))))))))))))))) ?_
  refine rtg _ rfl (ls rfl lz) (fun hg1_15_8 => opD_load_one ag9_u3b (lz.trans (pif_pos hg1_15_8)) (loc_getN rfl rfl) rfl) ?_
  refine rtg _ rfl (ls rfl (ls rfl lz)) (fun hg1_16_9 => opD_len_str Tryd.underlying9 (lz.trans (pif_pos hg1_16_9))) ?_
  refine rtg _ rfl (ls rfl (ls rfl (ls rfl lz))) (fun hg1_17_10 => opD_gtr (lz.trans (pif_pos hg1_17_10)) (ev_const _ _)) ?_
  refine rts _ rfl (opD_or (ls rfl (ls rfl (ls rfl (ls rfl lz)))) lz) ?_
  refine rts _ rfl (opD_move lz) ?_
  refine rtg _ rfl lz (fun hg1_20_11 => opD_fieldAddr fo88_4_u3b (ls rfl (ls rfl (ls rfl (ls rfl (ls rfl (ls rfl (ls rfl (ls rfl (ls rfl (ls rfl (ls rfl (ls rfl (ls rfl (ls rfl (ls rfl (ls rfl (ls rfl (ls rfl (ls rfl (ls rfl oz))))))))))))))))))))) ?_
  refine rtg _ rfl (ls rfl lz) (fun hg1_21_12 => opD_load_one ag85_u3b (lz.trans (pif_pos hg1_21_12)) (loc_getN rfl rfl) rfl) ?_
  refine rtg _ rfl (ls rfl (ls rfl lz)) (fun hg1_22_13 => opD_len_sl Tryd.underlying85 (lz.trans (pif_pos hg1_22_13))) ?_
  refine rtg _ rfl (ls rfl (ls rfl (ls rfl lz))) (fun hg1_23_14 => opD_gtr (lz.trans (pif_pos hg1_23_14)) (ev_const _ _)) ?_
  refine rts _ rfl (opD_or (ls rfl (ls rfl (ls rfl (ls rfl lz)))) lz) ?_
  refine rts _ rfl (opD_move lz) ?_
  refine rtg _ rfl lz (fun hg1_26_15 => opD_fieldAddr fo88_5_u3b (ls rfl (ls rfl (ls rfl (ls rfl (ls rfl (ls rfl (ls rfl (ls rfl (ls rfl (ls rfl (ls rfl (ls rfl (ls rfl (ls rfl (ls rfl (ls rfl (ls rfl (ls rfl (ls rfl (ls rfl (ls rfl (ls rfl (ls rfl (ls rfl (ls rfl (ls rfl oz))))))))))))))))))))))))))) ?_
  refine rtg _ rfl (ls rfl lz) (fun hg1_27_16 => opD_load_one ag86_u3b (lz.trans (pif_pos hg1_27_16)) (loc_getN rfl rfl) rfl) ?_
  refine rtg _ rfl (ls rfl (ls rfl lz)) (fun hg1_28_17 => opD_len_sl Tryd.underlying86 (lz.trans (pif_pos hg1_28_17))) ?_
  refine rtg _ rfl (ls rfl (ls rfl (ls rfl lz))) (fun hg1_29_18 => opD_gtr (lz.trans (pif_pos hg1_29_18)) (ev_const _ _)) ?_
  refine rts _ rfl (opD_or (ls rfl (ls rfl (ls rfl (ls rfl lz)))) lz) ?_
  refine rts _ rfl (opD_move lz) ?_
  refine rtg _ rfl lz (fun hg1_32_19 => opD_fieldAddr fo88_6_u3b (ls rfl (ls rfl (ls rfl (ls rfl (ls rfl (ls rfl (ls rfl (ls rfl (ls rfl (ls rfl (ls rfl (ls rfl (ls rfl (ls rfl (ls rfl (ls rfl (ls rfl (ls rfl (ls rfl (ls rfl (ls rfl (ls rfl (ls rfl (ls rfl (ls rfl (ls rfl (ls rfl (ls rfl (ls rfl (ls rfl (ls rfl (ls rfl oz))))))))))))))))))))))))))))))))) ?_
  refine rtg _ rfl (ls rfl lz) (fun hg1_33_20 => opD_load_one ag54_u3b (lz.trans (pif_pos hg1_33_20)) (loc_getN rfl rfl) rfl) ?_
  refine rtg _ rfl (ls rfl (ls rfl lz)) (fun hg1_34_21 => opD_len_sl Tryd.underlying54 (lz.trans (pif_pos hg1_34_21))) ?_
  refine rtg _ rfl (ls rfl (ls rfl (ls rfl lz))) (fun hg1_35_22 => opD_gtr (lz.trans (pif_pos hg1_35_22)) (ev_const _ _)) ?_
  refine rts _ rfl (opD_or (ls rfl (ls rfl (ls rfl (ls rfl lz)))) lz) ?_
  refine .nil ?_
  refine aw_keep [(1, _), (42, _)] ⟨lg (ls rfl (ls rfl (ls rfl (ls rfl (ls rfl (ls rfl (ls rfl (ls rfl (ls rfl (ls rfl (ls rfl (ls rfl (ls rfl (ls rfl (ls rfl (ls rfl (ls rfl (ls rfl (ls rfl (ls rfl (ls rfl (ls rfl (ls rfl (ls rfl (ls rfl (ls rfl (ls rfl (ls rfl (ls rfl (ls rfl (ls rfl (ls rfl (ls rfl (ls rfl (ls rfl (ls rfl (ls rfl oz))))))))))))))))))))))))))))))))))))), lg lz, trivial⟩ ?_
  refine aw_cond _ (os rfl oz) (fun hc => ?_) (fun hc => ?_)
  · skip
    replace h0 := ifb_t h0 hc
    clear hc
    refine aw_seq ?_
    refine aw_region (by decide) ?_
    refine rts _ rfl (opD_assign (ev_const _ _)) ?_
    refine .nil ?_
    refine aw_keep [(2, _)] ⟨lg lz, trivial⟩ ?_
    refine aw_ret ?_
    obtain rfl := some_of h0
    exact done_ext (.inr rfl) ((res_one rfl (it_tmp oz)).le zLr) zPb
  · skip
    replace h0 := ifb_f h0 hc
    clear hc
    refine aw_skip ?_
    refine aw_keep [(1, _)] ⟨lg oz, trivial⟩ ?_
    refine aw_seq ?_
    refine aw_seq ?_
    refine aw_region (by decide) ?_
    refine rts _ rfl (opD_assign (ev_const _ _)) ?_
    refine .nil ?_
    refine aw_keep [(1, _), (3, _)] ⟨lg (ls rfl oz), lg lz, trivial⟩ ?_
    replace h0 := bnd_some h0
    obtain ⟨z_1, hz_1, h0⟩ := h0
    refine aw_mid (fun e st => ∃ v : Unit, Holds e [(1, ptr (s.boxes.length + 0) 0)] ∧ st = s.ext [⟨88, [pl (.int .i64 p0.Code), pl (.int .u64 p0.N), pl (.bool p0.Found), pl (.string p0.Value), sl kEnt none none p0.Rows, sl kRf none none p0.Refs, sl kLin none none p0.Lines]⟩] [] ∧ (.inr v) = z_1) ?_ ?_
    · skip
      refine aw_wkN rfl 1 0 rfl rfl ?_
      refine aw_block ?_
      refine aw_loop (fun n e st => ∃ v : Int, Holds e [(1, ptr (s.boxes.length + 0) 0), (3, pl (.int .i64 v))] ∧ st = s.ext [⟨88, [pl (.int .i64 p0.Code), pl (.int .u64 p0.N), pl (.bool p0.Found), pl (.string p0.Value), sl kEnt none none p0.Rows, sl kRf none none p0.Refs, sl kLin none none p0.Lines]⟩] [] ∧ lp (F_rmay_b0 p0) n v = some z_1) fl ⟨0, ⟨le_of_eq (eg oz), le_of_eq (eg (os rfl oz)), trivial⟩, rfl, hz_1⟩ ?_
      rintro n e st ⟨t_2, hH, rfl, hz_1⟩
      replace hz_1 := lp_some hz_1
      obtain ⟨m_z_3, z_3, rfl, hz_3, hz_1⟩ := hz_1
      unfold F_rmay_b0 at hz_3
      refine aw_keep _ hH ?_
      refine aw_wkN rfl 1 0 rfl rfl ?_
      refine aw_seq ?_
      refine aw_seq ?_
      refine aw_region (by decide) ?_
      refine rts _ rfl (opD_move (os rfl oz)) ?_
      refine rts _ rfl (opD_fieldAddr fo88_4_u3b (ls rfl oz)) ?_
      refine rts _ rfl (opD_load_one ag85_u3b lz (loc_getN rfl rfl) rfl) ?_
      refine rts _ rfl (opD_len_sl Tryd.underlying85 lz) ?_
      refine rts _ rfl (opD_lss (ls rfl (ls rfl (ls rfl lz))) lz) ?_
      refine .nil ?_
      refine aw_keep [(1, _), (3, _), (47, _)] ⟨lg (ls rfl (ls rfl (ls rfl (ls rfl (ls rfl oz))))), lg (ls rfl (ls rfl (ls rfl (ls rfl (ls rfl (os rfl oz)))))), lg lz, trivial⟩ ?_
      refine aw_cond _ (os rfl (os rfl oz)) (fun hc => ?_) (fun hc => ?_)
      · skip
        replace hz_3 := ifb_t hz_3 hc
        clear hc
        refine aw_skip ?_
        refine aw_keep [(1, _), (3, _)] ⟨lg oz, lg (os rfl oz), trivial⟩ ?_
        refine aw_seq ?_
        refine aw_block ?_
        refine aw_seq ?_
        refine aw_region (by decide) ?_
        refine rts _ rfl (opD_fieldAddr fo88_4_u3b oz) ?_
        refine rts _ rfl (opD_load_one ag85_u3b lz (loc_getN rfl rfl) rfl) ?_
        refine rts _ rfl (opD_move (ls rfl (ls rfl (os rfl oz)))) ?_
        replace hz_3 := ixb_some hz_3
        obtain ⟨x_4, hx_4, hbx_4, hz_3⟩ := hz_3
        refine rts _ rfl (opD_indexAddr_sl (i := t_2.toNat) Tryd.underlying85 sz174_u3b (ls rfl lz) lz hbx_4.2.2 hbx_4.2.1) ?_
        refine rts _ rfl (opD_fieldAddr_el fo174_0_u3b lz) ?_
        refine rts _ rfl (opD_load_el_one ag9_u3b lz hx_4 rfl) ?_
        refine rts _ rfl (opD_len_str Tryd.underlying9 lz) ?_
        refine rts _ rfl (opD_gtr lz (ev_const _ _)) ?_
        refine rts _ rfl (opD_move lz) ?_
        refine rtg _ rfl lz (fun hg6_9_50 => opD_fieldAddr fo88_4_u3b (ls rfl (ls rfl (ls rfl (ls rfl (ls rfl (ls rfl (ls rfl (ls rfl (ls rfl oz)))))))))) ?_
        refine rtg _ rfl (ls rfl lz) (fun hg6_10_51 => opD_load_one ag85_u3b (lz.trans (pif_pos hg6_10_51)) (loc_getN rfl rfl) rfl) ?_
        refine rtg _ rfl (ls rfl (ls rfl lz)) (fun hg6_11_52 => opD_move (ls rfl (ls rfl (ls rfl (ls rfl (ls rfl (ls rfl (ls rfl (ls rfl (ls rfl (ls rfl (ls rfl (os rfl oz))))))))))))) ?_
        replace hz_3 := grd_some hz_3
        obtain ⟨hg_54, hz_3⟩ := hz_3
        refine rtg _ rfl (ls rfl (ls rfl (ls rfl lz))) (fun hg6_12_53 => opD_indexAddr_sl (i := t_2.toNat) Tryd.underlying85 sz174_u3b ((ls rfl lz).trans (pif_pos hg6_12_53)) (lz.trans (pif_pos hg6_12_53)) (hg_54 hg6_12_53).eq (hg_54 hg6_12_53).2) ?_
        refine rtg _ rfl (ls rfl (ls rfl (ls rfl (ls rfl lz)))) (fun hg6_13_55 => opD_fieldAddr_el fo174_1_u3b (lz.trans (pif_pos hg6_13_55))) ?_
        refine rtg _ rfl (ls rfl (ls rfl (ls rfl (ls rfl (ls rfl lz))))) (fun hg6_14_56 => opD_load_el_one ag9_u3b (lz.trans (pif_pos hg6_14_56)) (at_getD default (hg_54 hg6_14_56).2) rfl) ?_
        refine rtg _ rfl (ls rfl (ls rfl (ls rfl (ls rfl (ls rfl (ls rfl lz)))))) (fun hg6_15_57 => opD_len_str Tryd.underlying9 (lz.trans (pif_pos hg6_15_57))) ?_
        refine rtg _ rfl (ls rfl (ls rfl (ls rfl (ls rfl (ls rfl (ls rfl (ls rfl lz))))))) (fun hg6_16_58 => opD_gtr (lz.trans (pif_pos hg6_16_58)) (ev_const _ _)) ?_
        refine rts _ rfl (opD_or (ls rfl (ls rfl (ls rfl (ls rfl (ls rfl (ls rfl (ls rfl (ls rfl lz)))))))) lz) ?_
        refine .nil ?_
        refine aw_keep [(1, _), (3, _), (67, _)] ⟨lg (ls rfl (ls rfl (ls rfl (ls rfl (ls rfl (ls rfl (ls rfl (ls rfl (ls rfl (ls rfl (ls rfl (ls rfl (ls rfl (ls rfl (ls rfl (ls rfl (ls rfl (ls rfl oz)))))))))))))))))), lg (ls rfl (ls rfl (ls rfl (ls rfl (ls rfl (ls rfl (ls rfl (ls rfl (ls rfl (ls rfl (ls rfl (ls rfl (ls rfl (ls rfl (ls rfl (ls rfl (ls rfl (ls rfl (os rfl oz))))))))))))))))))), lg lz, trivial⟩ ?_
        refine aw_cond _ (os rfl (os rfl oz)) (fun hc => ?_) (fun hc => ?_)
        · skip
          replace hz_3 := ifb_t hz_3 hc
          clear hc
          refine aw_seq ?_
          refine aw_region (by decide) ?_
          refine rts _ rfl (opD_assign (ev_const _ _)) ?_
          refine .nil ?_
          refine aw_keep [(2, _)] ⟨lg lz, trivial⟩ ?_
          refine aw_ret ?_
          obtain rfl := some_of hz_3
          replace hz_1 := ocs_r hz_1
          obtain rfl := some_of hz_1
          replace h0 := ocs_l h0
          refine wk_no ?_
          refine wk_no ?_
          obtain rfl := some_of h0
          exact done_ext (.inr rfl) ((res_one rfl (it_tmp oz)).le zLr) zPb
        · skip
          replace hz_3 := ifb_f hz_3 hc
          clear hc
          refine aw_skip ?_
          refine aw_keep [(1, _), (3, _)] ⟨lg oz, lg (os rfl oz), trivial⟩ ?_
          refine aw_region (by decide) ?_
          refine rts _ rfl (opD_move (os rfl oz)) ?_
          refine rts _ rfl (opD_add lz (ev_const _ _) rfl) ?_
          refine rts _ rfl (opD_assign lz) ?_
          refine .nil ?_
          obtain rfl := some_of hz_3
          replace hz_1 := ocs_l hz_1
          refine wk_yesN rfl (l := [(1, ptr (s.boxes.length + 0) 0), (3, pl (.int .i64 (IntKind.i64.wrap (t_2 + 1))))]) (bs' := [⟨88, [pl (.int .i64 p0.Code), pl (.int .u64 p0.N), pl (.bool p0.Found), pl (.string p0.Value), sl kEnt none none p0.Rows, sl kRf none none p0.Refs, sl kLin none none p0.Lines]⟩]) ⟨le_of_eq (eg (ls rfl (ls rfl (ls rfl oz)))), le_of_eq (eg lz), trivial⟩ (zbc (ptr_bnd _ (by first | omega | (simp only [List.length_append, List.length_cons, List.length_nil]; omega))) (zbc zPb bnd_nil)) (zNb rfl) (by simp only [znz] <;> rfl) (bxle_same bxle_nil) rfl (by simp only [znz] <;> rfl) (bl_cons (zbc zPb (zbc zPb (zbc zPb (zbc zPb (zbc (sl_b kb_Ent) (zbc (sl_b kb_Rf) (zbc (sl_b kb_Lin) bnd_nil))))))) bl_nil) ?_
          exact ⟨m_z_3, Nat.lt_succ_self _, IntKind.i64.wrap (t_2 + 1), ⟨le_of_eq (eg oz), le_of_eq (eg (os rfl oz)), trivial⟩, rfl, hz_1⟩
      · skip
        replace hz_3 := ifb_f hz_3 hc
        clear hc
        refine aw_exit ?_
        obtain rfl := some_of hz_3
        replace hz_1 := ocs_r hz_1
        refine wk_no ?_
        refine wk_yesN rfl (l := [(1, ptr (s.boxes.length + 0) 0)]) (bs' := [⟨88, [pl (.int .i64 p0.Code), pl (.int .u64 p0.N), pl (.bool p0.Found), pl (.string p0.Value), sl kEnt none none p0.Rows, sl kRf none none p0.Refs, sl kLin none none p0.Lines]⟩]) ⟨le_of_eq (eg oz), trivial⟩ (zbc (ptr_bnd _ (by first | omega | (simp only [List.length_append, List.length_cons, List.length_nil]; omega))) bnd_nil) (zNb rfl) (by simp only [znz] <;> rfl) (bxle_same bxle_nil) rfl (by simp only [znz] <;> rfl) (bl_cons (zbc zPb (zbc zPb (zbc zPb (zbc zPb (zbc (sl_b kb_Ent) (zbc (sl_b kb_Rf) (zbc (sl_b kb_Lin) bnd_nil))))))) bl_nil) ?_
        exact ⟨(), ⟨le_of_eq (eg oz), trivial⟩, rfl, some_of hz_1⟩
    · rintro e st ⟨vz_1, hH, rfl, rfl⟩
      refine aw_keep _ hH ?_
      replace h0 := ocs_r h0
      refine aw_keep [(1, _)] ⟨lg oz, trivial⟩ ?_
      refine aw_seq ?_
      refine aw_seq ?_
      refine aw_region (by decide) ?_
      refine rts _ rfl (opD_assign (ev_const _ _)) ?_
      refine .nil ?_
      refine aw_keep [(1, _), (4, _)] ⟨lg (ls rfl oz), lg lz, trivial⟩ ?_
      replace h0 := bnd_some h0
      obtain ⟨z_5, hz_5, h0⟩ := h0
      refine aw_mid (fun e st => ∃ v : Unit, Holds e [(1, ptr (s.boxes.length + 0) 0)] ∧ st = s.ext [⟨88, [pl (.int .i64 p0.Code), pl (.int .u64 p0.N), pl (.bool p0.Found), pl (.string p0.Value), sl kEnt none none p0.Rows, sl kRf none none p0.Refs, sl kLin none none p0.Lines]⟩] [] ∧ (.inr v) = z_5) ?_ ?_
      · skip
        refine aw_wkN rfl 1 0 rfl rfl ?_
        refine aw_block ?_
        refine aw_loop (fun n e st => ∃ v : Int, Holds e [(1, ptr (s.boxes.length + 0) 0), (4, pl (.int .i64 v))] ∧ st = s.ext [⟨88, [pl (.int .i64 p0.Code), pl (.int .u64 p0.N), pl (.bool p0.Found), pl (.string p0.Value), sl kEnt none none p0.Rows, sl kRf none none p0.Refs, sl kLin none none p0.Lines]⟩] [] ∧ lp (F_rmay_b1 p0) n v = some z_5) fl ⟨0, ⟨le_of_eq (eg oz), le_of_eq (eg (os rfl oz)), trivial⟩, rfl, hz_5⟩ ?_
        rintro n e st ⟨t_6, hH, rfl, hz_5⟩
        replace hz_5 := lp_some hz_5
        obtain ⟨m_z_7, z_7, rfl, hz_7, hz_5⟩ := hz_5
        unfold F_rmay_b1 at hz_7
        refine aw_keep _ hH ?_
        refine aw_wkN rfl 1 0 rfl rfl ?_
        refine aw_seq ?_
        refine aw_seq ?_
        refine aw_region (by decide) ?_
        refine rts _ rfl (opD_move (os rfl oz)) ?_
        refine rts _ rfl (opD_fieldAddr fo88_5_u3b (ls rfl oz)) ?_
        refine rts _ rfl (opD_load_one ag86_u3b lz (loc_getN rfl rfl) rfl) ?_
        refine rts _ rfl (opD_len_sl Tryd.underlying86 lz) ?_
        refine rts _ rfl (opD_lss (ls rfl (ls rfl (ls rfl lz))) lz) ?_
        refine .nil ?_
        refine aw_keep [(1, _), (4, _), (72, _)] ⟨lg (ls rfl (ls rfl (ls rfl (ls rfl (ls rfl oz))))), lg (ls rfl (ls rfl (ls rfl (ls rfl (ls rfl (os rfl oz)))))), lg lz, trivial⟩ ?_
        refine aw_cond _ (os rfl (os rfl oz)) (fun hc => ?_) (fun hc => ?_)
        · skip
          replace hz_7 := ifb_t hz_7 hc
          clear hc
          refine aw_skip ?_
          refine aw_keep [(1, _), (4, _)] ⟨lg oz, lg (os rfl oz), trivial⟩ ?_
          refine aw_seq ?_
          refine aw_block ?_
          refine aw_seq ?_
          refine aw_region (by decide) ?_
          refine rts _ rfl (opD_fieldAddr fo88_5_u3b oz) ?_
          refine rts _ rfl (opD_load_one ag86_u3b lz (loc_getN rfl rfl) rfl) ?_
          refine rts _ rfl (opD_move (ls rfl (ls rfl (os rfl oz)))) ?_
          replace hz_7 := ixb_some hz_7
          obtain ⟨x_8, hx_8, hbx_8, hz_7⟩ := hz_7
          refine rts _ rfl (opD_indexAddr_sl (i := t_6.toNat) Tryd.underlying86 sz112_u3b (ls rfl lz) lz hbx_8.2.2 hbx_8.2.1) ?_
          refine rts _ rfl (opD_fieldAddr_el fo112_0_u3b lz) ?_
          refine rts _ rfl (opD_load_el_one ag3_u3b lz hx_8 rfl) ?_
          refine rts _ rfl (opD_lss lz (ev_const _ _)) ?_
          refine rts _ rfl (opD_move lz) ?_
          refine rtg _ rfl lz (fun hg11_8_107 => opD_fieldAddr fo88_5_u3b (ls rfl (ls rfl (ls rfl (ls rfl (ls rfl (ls rfl (ls rfl (ls rfl oz))))))))) ?_
          refine rtg _ rfl (ls rfl lz) (fun hg11_9_108 => opD_load_one ag86_u3b (lz.trans (pif_pos hg11_9_108)) (loc_getN rfl rfl) rfl) ?_
          refine rtg _ rfl (ls rfl (ls rfl lz)) (fun hg11_10_109 => opD_move (ls rfl (ls rfl (ls rfl (ls rfl (ls rfl (ls rfl (ls rfl (ls rfl (ls rfl (ls rfl (os rfl oz)))))))))))) ?_
          replace hz_7 := grd_some hz_7
          obtain ⟨hg_111, hz_7⟩ := hz_7
          refine rtg _ rfl (ls rfl (ls rfl (ls rfl lz))) (fun hg11_11_110 => opD_indexAddr_sl (i := t_6.toNat) Tryd.underlying86 sz112_u3b ((ls rfl lz).trans (pif_pos hg11_11_110)) (lz.trans (pif_pos hg11_11_110)) (hg_111 hg11_11_110).eq (hg_111 hg11_11_110).2) ?_
          refine rtg _ rfl (ls rfl (ls rfl (ls rfl (ls rfl lz)))) (fun hg11_12_112 => opD_fieldAddr_el fo112_0_u3b (lz.trans (pif_pos hg11_12_112))) ?_
          refine rtg _ rfl (ls rfl (ls rfl (ls rfl (ls rfl (ls rfl lz))))) (fun hg11_13_113 => opD_load_el_one ag3_u3b (lz.trans (pif_pos hg11_13_113)) (at_getD default (hg_111 hg11_13_113).2) rfl) ?_
          refine rtg _ rfl (ls rfl (ls rfl (ls rfl (ls rfl (ls rfl (ls rfl lz)))))) (fun hg11_14_114 => opD_gtr (lz.trans (pif_pos hg11_14_114)) (ev_const _ _)) ?_
          refine rts _ rfl (opD_or (ls rfl (ls rfl (ls rfl (ls rfl (ls rfl (ls rfl (ls rfl lz))))))) lz) ?_
          refine rts _ rfl (opD_move lz) ?_
          refine rtg _ rfl lz (fun hg11_17_115 => opD_fieldAddr fo88_5_u3b (ls rfl (ls rfl (ls rfl (ls rfl (ls rfl (ls rfl (ls rfl (ls rfl (ls rfl (ls rfl (ls rfl (ls rfl (ls rfl (ls rfl (ls rfl (ls rfl (ls rfl oz)))))))))))))))))) ?_
          refine rtg _ rfl (ls rfl lz) (fun hg11_18_116 => opD_load_one ag86_u3b (lz.trans (pif_pos hg11_18_116)) (loc_getN rfl rfl) rfl) ?_
          refine rtg _ rfl (ls rfl (ls rfl lz)) (fun hg11_19_117 => opD_move (ls rfl (ls rfl (ls rfl (ls rfl (ls rfl (ls rfl (ls rfl (ls rfl (ls rfl (ls rfl (ls rfl (ls rfl (ls rfl (ls rfl (ls rfl (ls rfl (ls rfl (ls rfl (ls rfl (os rfl oz))))))))))))))))))))) ?_
          replace hz_7 := grd_some hz_7
          obtain ⟨hg_119, hz_7⟩ := hz_7
          refine rtg _ rfl (ls rfl (ls rfl (ls rfl lz))) (fun hg11_20_118 => opD_indexAddr_sl (i := t_6.toNat) Tryd.underlying86 sz112_u3b ((ls rfl lz).trans (pif_pos hg11_20_118)) (lz.trans (pif_pos hg11_20_118)) (hg_119 hg11_20_118).eq (hg_119 hg11_20_118).2) ?_
          refine rtg _ rfl (ls rfl (ls rfl (ls rfl (ls rfl lz)))) (fun hg11_21_120 => opD_fieldAddr_el fo112_1_u3b (lz.trans (pif_pos hg11_21_120))) ?_
          refine rtg _ rfl (ls rfl (ls rfl (ls rfl (ls rfl (ls rfl lz))))) (fun hg11_22_121 => opD_load_el_one ag22_u3b (lz.trans (pif_pos hg11_22_121)) (at_getD default (hg_119 hg11_22_121).2) rfl) ?_
          refine rtg _ rfl (ls rfl (ls rfl (ls rfl (ls rfl (ls rfl (ls rfl lz)))))) (fun hg11_23_122 => opD_gtr (lz.trans (pif_pos hg11_23_122)) (ev_const _ _)) ?_
          refine rts _ rfl (opD_or (ls rfl (ls rfl (ls rfl (ls rfl (ls rfl (ls rfl (ls rfl lz))))))) lz) ?_
          refine .nil ?_
          refine aw_keep [(1, _), (4, _), (99, _)] ⟨lg (ls rfl (ls rfl (ls rfl (ls rfl (ls rfl (ls rfl (ls rfl (ls rfl (ls rfl (ls rfl (ls rfl (ls rfl (ls rfl (ls rfl (ls rfl (ls rfl (ls rfl (ls rfl (ls rfl (ls rfl (ls rfl (ls rfl (ls rfl (ls rfl (ls rfl oz))))))))))))))))))))))))), lg (ls rfl (ls rfl (ls rfl (ls rfl (ls rfl (ls rfl (ls rfl (ls rfl (ls rfl (ls rfl (ls rfl (ls rfl (ls rfl (ls rfl (ls rfl (ls rfl (ls rfl (ls rfl (ls rfl (ls rfl (ls rfl (ls rfl (ls rfl (ls rfl (ls rfl (os rfl oz)))))))))))))))))))))))))), lg lz, trivial⟩ ?_
          refine aw_cond _ (os rfl (os rfl oz)) (fun hc => ?_) (fun hc => ?_)
          · skip
            replace hz_7 := ifb_t hz_7 hc
            clear hc
            refine aw_seq ?_
            refine aw_region (by decide) ?_
            refine rts _ rfl (opD_assign (ev_const _ _)) ?_
            refine .nil ?_
            refine aw_keep [(2, _)] ⟨lg lz, trivial⟩ ?_
            refine aw_ret ?_
            obtain rfl := some_of hz_7
            replace hz_5 := ocs_r hz_5
            obtain rfl := some_of hz_5
            replace h0 := ocs_l h0
            refine wk_no ?_
            refine wk_no ?_
            obtain rfl := some_of h0
            exact done_ext (.inr rfl) ((res_one rfl (it_tmp oz)).le zLr) zPb
          · skip
            replace hz_7 := ifb_f hz_7 hc
            clear hc
            refine aw_skip ?_
            refine aw_keep [(1, _), (4, _)] ⟨lg oz, lg (os rfl oz), trivial⟩ ?_
            refine aw_region (by decide) ?_
            refine rts _ rfl (opD_move (os rfl oz)) ?_
            refine rts _ rfl (opD_add lz (ev_const _ _) rfl) ?_
            refine rts _ rfl (opD_assign lz) ?_
            refine .nil ?_
            obtain rfl := some_of hz_7
            replace hz_5 := ocs_l hz_5
            refine wk_yesN rfl (l := [(1, ptr (s.boxes.length + 0) 0), (4, pl (.int .i64 (IntKind.i64.wrap (t_6 + 1))))]) (bs' := [⟨88, [pl (.int .i64 p0.Code), pl (.int .u64 p0.N), pl (.bool p0.Found), pl (.string p0.Value), sl kEnt none none p0.Rows, sl kRf none none p0.Refs, sl kLin none none p0.Lines]⟩]) ⟨le_of_eq (eg (ls rfl (ls rfl (ls rfl oz)))), le_of_eq (eg lz), trivial⟩ (zbc (ptr_bnd _ (by first | omega | (simp only [List.length_append, List.length_cons, List.length_nil]; omega))) (zbc zPb bnd_nil)) (zNb rfl) (by simp only [znz] <;> rfl) (bxle_same bxle_nil) rfl (by simp only [znz] <;> rfl) (bl_cons (zbc zPb (zbc zPb (zbc zPb (zbc zPb (zbc (sl_b kb_Ent) (zbc (sl_b kb_Rf) (zbc (sl_b kb_Lin) bnd_nil))))))) bl_nil) ?_
            exact ⟨m_z_7, Nat.lt_succ_self _, IntKind.i64.wrap (t_6 + 1), ⟨le_of_eq (eg oz), le_of_eq (eg (os rfl oz)), trivial⟩, rfl, hz_5⟩
        · skip
          replace hz_7 := ifb_f hz_7 hc
          clear hc
          refine aw_exit ?_
          obtain rfl := some_of hz_7
          replace hz_5 := ocs_r hz_5
          refine wk_no ?_
          refine wk_yesN rfl (l := [(1, ptr (s.boxes.length + 0) 0)]) (bs' := [⟨88, [pl (.int .i64 p0.Code), pl (.int .u64 p0.N), pl (.bool p0.Found), pl (.string p0.Value), sl kEnt none none p0.Rows, sl kRf none none p0.Refs, sl kLin none none p0.Lines]⟩]) ⟨le_of_eq (eg oz), trivial⟩ (zbc (ptr_bnd _ (by first | omega | (simp only [List.length_append, List.length_cons, List.length_nil]; omega))) bnd_nil) (zNb rfl) (by simp only [znz] <;> rfl) (bxle_same bxle_nil) rfl (by simp only [znz] <;> rfl) (bl_cons (zbc zPb (zbc zPb (zbc zPb (zbc zPb (zbc (sl_b kb_Ent) (zbc (sl_b kb_Rf) (zbc (sl_b kb_Lin) bnd_nil))))))) bl_nil) ?_
          exact ⟨(), ⟨le_of_eq (eg oz), trivial⟩, rfl, some_of hz_5⟩
      · rintro e st ⟨vz_5, hH, rfl, rfl⟩
        refine aw_keep _ hH ?_
        replace h0 := ocs_r h0
        refine aw_keep [(1, _)] ⟨lg oz, trivial⟩ ?_
        refine aw_seq ?_
        refine aw_seq ?_
        refine aw_region (by decide) ?_
        refine rts _ rfl (opD_assign (ev_const _ _)) ?_
        refine .nil ?_
        refine aw_keep [(1, _), (5, _)] ⟨lg (ls rfl oz), lg lz, trivial⟩ ?_
        replace h0 := bnd_some h0
        obtain ⟨z_9, hz_9, h0⟩ := h0
        refine aw_mid (fun e st => ∃ v : Unit, Holds e [] ∧ st = s.ext [⟨88, [pl (.int .i64 p0.Code), pl (.int .u64 p0.N), pl (.bool p0.Found), pl (.string p0.Value), sl kEnt none none p0.Rows, sl kRf none none p0.Refs, sl kLin none none p0.Lines]⟩] [] ∧ (.inr v) = z_9) ?_ ?_
        · skip
          refine aw_wkN rfl 1 0 rfl rfl ?_
          refine aw_block ?_
          refine aw_loop (fun n e st => ∃ v : Int, Holds e [(1, ptr (s.boxes.length + 0) 0), (5, pl (.int .i64 v))] ∧ st = s.ext [⟨88, [pl (.int .i64 p0.Code), pl (.int .u64 p0.N), pl (.bool p0.Found), pl (.string p0.Value), sl kEnt none none p0.Rows, sl kRf none none p0.Refs, sl kLin none none p0.Lines]⟩] [] ∧ lp (F_rmay_b2 p0) n v = some z_9) fl ⟨0, ⟨le_of_eq (eg oz), le_of_eq (eg (os rfl oz)), trivial⟩, rfl, hz_9⟩ ?_
          rintro n e st ⟨t_10, hH, rfl, hz_9⟩
          replace hz_9 := lp_some hz_9
          obtain ⟨m_z_11, z_11, rfl, hz_11, hz_9⟩ := hz_9
          unfold F_rmay_b2 at hz_11
          refine aw_keep _ hH ?_
          refine aw_wkN rfl 1 0 rfl rfl ?_
          refine aw_seq ?_
          refine aw_seq ?_
          refine aw_region (by decide) ?_
          refine rts _ rfl (opD_move (os rfl oz)) ?_
          refine rts _ rfl (opD_fieldAddr fo88_6_u3b (ls rfl oz)) ?_
          refine rts _ rfl (opD_load_one ag54_u3b lz (loc_getN rfl rfl) rfl) ?_
          refine rts _ rfl (opD_len_sl Tryd.underlying54 lz) ?_
          refine rts _ rfl (opD_lss (ls rfl (ls rfl (ls rfl lz))) lz) ?_
          refine .nil ?_
          refine aw_keep [(1, _), (5, _), (104, _)] ⟨lg (ls rfl (ls rfl (ls rfl (ls rfl (ls rfl oz))))), lg (ls rfl (ls rfl (ls rfl (ls rfl (ls rfl (os rfl oz)))))), lg lz, trivial⟩ ?_
          refine aw_cond _ (os rfl (os rfl oz)) (fun hc => ?_) (fun hc => ?_)
          · skip
            replace hz_11 := ifb_t hz_11 hc
            clear hc
            refine aw_skip ?_
            refine aw_keep [(1, _), (5, _)] ⟨lg oz, lg (os rfl oz), trivial⟩ ?_
            refine aw_seq ?_
            refine aw_block ?_
            refine aw_seq ?_
            refine aw_region (by decide) ?_
            refine rts _ rfl (opD_fieldAddr fo88_6_u3b oz) ?_
            refine rts _ rfl (opD_load_one ag54_u3b lz (loc_getN rfl rfl) rfl) ?_
            refine rts _ rfl (opD_move (ls rfl (ls rfl (os rfl oz)))) ?_
            replace hz_11 := ixb_some hz_11
            obtain ⟨x_12, hx_12, hbx_12, hz_11⟩ := hz_11
            refine rts _ rfl (opD_indexAddr_sl (i := t_10.toNat) Tryd.underlying54 sz60_u3b (ls rfl lz) lz hbx_12.2.2 hbx_12.2.1) ?_
            refine rts _ rfl (opD_fieldAddr_el fo60_0_u3b lz) ?_
            refine rts _ rfl (opD_load_el_one ag22_u3b lz hx_12 rfl) ?_
            refine rts _ rfl (opD_gtr lz (ev_const _ _)) ?_
            refine rts _ rfl (opD_move lz) ?_
            refine rtg _ rfl lz (fun hg16_8_174 => opD_fieldAddr fo88_6_u3b (ls rfl (ls rfl (ls rfl (ls rfl (ls rfl (ls rfl (ls rfl (ls rfl oz))))))))) ?_
            refine rtg _ rfl (ls rfl lz) (fun hg16_9_175 => opD_load_one ag54_u3b (lz.trans (pif_pos hg16_9_175)) (loc_getN rfl rfl) rfl) ?_
            refine rtg _ rfl (ls rfl (ls rfl lz)) (fun hg16_10_176 => opD_move (ls rfl (ls rfl (ls rfl (ls rfl (ls rfl (ls rfl (ls rfl (ls rfl (ls rfl (ls rfl (os rfl oz)))))))))))) ?_
            replace hz_11 := grd_some hz_11
            obtain ⟨hg_178, hz_11⟩ := hz_11
            refine rtg _ rfl (ls rfl (ls rfl (ls rfl lz))) (fun hg16_11_177 => opD_indexAddr_sl (i := t_10.toNat) Tryd.underlying54 sz60_u3b ((ls rfl lz).trans (pif_pos hg16_11_177)) (lz.trans (pif_pos hg16_11_177)) (hg_178 hg16_11_177).eq (hg_178 hg16_11_177).2) ?_
            refine rtg _ rfl (ls rfl (ls rfl (ls rfl (ls rfl lz)))) (fun hg16_12_179 => opD_fieldAddr_el fo60_1_u3b (lz.trans (pif_pos hg16_12_179))) ?_
            refine rtg _ rfl (ls rfl (ls rfl (ls rfl (ls rfl (ls rfl lz))))) (fun hg16_13_180 => opD_load_el_one ag22_u3b (lz.trans (pif_pos hg16_13_180)) (at_getD default (hg_178 hg16_13_180).2) rfl) ?_
            refine rtg _ rfl (ls rfl (ls rfl (ls rfl (ls rfl (ls rfl (ls rfl lz)))))) (fun hg16_14_181 => opD_gtr (lz.trans (pif_pos hg16_14_181)) (ev_const _ _)) ?_
            refine rts _ rfl (opD_or (ls rfl (ls rfl (ls rfl (ls rfl (ls rfl (ls rfl (ls rfl lz))))))) lz) ?_
            refine rts _ rfl (opD_move lz) ?_
            refine rtg _ rfl lz (fun hg16_17_182 => opD_fieldAddr fo88_6_u3b (ls rfl (ls rfl (ls rfl (ls rfl (ls rfl (ls rfl (ls rfl (ls rfl (ls rfl (ls rfl (ls rfl (ls rfl (ls rfl (ls rfl (ls rfl (ls rfl (ls rfl oz)))))))))))))))))) ?_
            refine rtg _ rfl (ls rfl lz) (fun hg16_18_183 => opD_load_one ag54_u3b (lz.trans (pif_pos hg16_18_183)) (loc_getN rfl rfl) rfl) ?_
            refine rtg _ rfl (ls rfl (ls rfl lz)) (fun hg16_19_184 => opD_move (ls rfl (ls rfl (ls rfl (ls rfl (ls rfl (ls rfl (ls rfl (ls rfl (ls rfl (ls rfl (ls rfl (ls rfl (ls rfl (ls rfl (ls rfl (ls rfl (ls rfl (ls rfl (ls rfl (os rfl oz))))))))))))))))))))) ?_
            replace hz_11 := grd_some hz_11
            obtain ⟨hg_186, hz_11⟩ := hz_11
            refine rtg _ rfl (ls rfl (ls rfl (ls rfl lz))) (fun hg16_20_185 => opD_indexAddr_sl (i := t_10.toNat) Tryd.underlying54 sz60_u3b ((ls rfl lz).trans (pif_pos hg16_20_185)) (lz.trans (pif_pos hg16_20_185)) (hg_186 hg16_20_185).eq (hg_186 hg16_20_185).2) ?_
            refine rtg _ rfl (ls rfl (ls rfl (ls rfl (ls rfl lz)))) (fun hg16_21_187 => opD_fieldAddr_el fo60_4_u3b (lz.trans (pif_pos hg16_21_187))) ?_
            refine rtg _ rfl (ls rfl (ls rfl (ls rfl (ls rfl (ls rfl lz))))) (fun hg16_22_188 => opD_load_el_one ag9_u3b (lz.trans (pif_pos hg16_22_188)) (at_getD default (hg_186 hg16_22_188).2) rfl) ?_
            refine rtg _ rfl (ls rfl (ls rfl (ls rfl (ls rfl (ls rfl (ls rfl lz)))))) (fun hg16_23_189 => opD_len_str Tryd.underlying9 (lz.trans (pif_pos hg16_23_189))) ?_
            refine rtg _ rfl (ls rfl (ls rfl (ls rfl (ls rfl (ls rfl (ls rfl (ls rfl lz))))))) (fun hg16_24_190 => opD_gtr (lz.trans (pif_pos hg16_24_190)) (ev_const _ _)) ?_
            refine rts _ rfl (opD_or (ls rfl (ls rfl (ls rfl (ls rfl (ls rfl (ls rfl (ls rfl (ls rfl lz)))))))) lz) ?_
            refine .nil ?_
            refine aw_keep [(1, _), (5, _), (132, _)] ⟨lg (ls rfl (ls rfl (ls rfl (ls rfl (ls rfl (ls rfl (ls rfl (ls rfl (ls rfl (ls rfl (ls rfl (ls rfl (ls rfl (ls rfl (ls rfl (ls rfl (ls rfl (ls rfl (ls rfl (ls rfl (ls rfl (ls rfl (ls rfl (ls rfl (ls rfl (ls rfl oz)))))))))))))))))))))))))), lg (ls rfl (ls rfl (ls rfl (ls rfl (ls rfl (ls rfl (ls rfl (ls rfl (ls rfl (ls rfl (ls rfl (ls rfl (ls rfl (ls rfl (ls rfl (ls rfl (ls rfl (ls rfl (ls rfl (ls rfl (ls rfl (ls rfl (ls rfl (ls rfl (ls rfl (ls rfl (os rfl oz))))))))))))))))))))))))))), lg lz, trivial⟩ ?_
            refine aw_cond _ (os rfl (os rfl oz)) (fun hc => ?_) (fun hc => ?_)
            · skip
              replace hz_11 := ifb_t hz_11 hc
              clear hc
              refine aw_seq ?_
              refine aw_region (by decide) ?_
              refine rts _ rfl (opD_assign (ev_const _ _)) ?_
              refine .nil ?_
              refine aw_keep [(2, _)] ⟨lg lz, trivial⟩ ?_
              refine aw_ret ?_
              obtain rfl := some_of hz_11
              replace hz_9 := ocs_r hz_9
              obtain rfl := some_of hz_9
              replace h0 := ocs_l h0
              refine wk_no ?_
              refine wk_no ?_
              obtain rfl := some_of h0
              exact done_ext (.inr rfl) ((res_one rfl (it_tmp oz)).le zLr) zPb
            · skip
              replace hz_11 := ifb_f hz_11 hc
              clear hc
              refine aw_skip ?_
              refine aw_keep [(1, _), (5, _)] ⟨lg oz, lg (os rfl oz), trivial⟩ ?_
              refine aw_region (by decide) ?_
              refine rts _ rfl (opD_move (os rfl oz)) ?_
              refine rts _ rfl (opD_add lz (ev_const _ _) rfl) ?_
              refine rts _ rfl (opD_assign lz) ?_
              refine .nil ?_
              obtain rfl := some_of hz_11
              replace hz_9 := ocs_l hz_9
              refine wk_yesN rfl (l := [(1, ptr (s.boxes.length + 0) 0), (5, pl (.int .i64 (IntKind.i64.wrap (t_10 + 1))))]) (bs' := [⟨88, [pl (.int .i64 p0.Code), pl (.int .u64 p0.N), pl (.bool p0.Found), pl (.string p0.Value), sl kEnt none none p0.Rows, sl kRf none none p0.Refs, sl kLin none none p0.Lines]⟩]) ⟨le_of_eq (eg (ls rfl (ls rfl (ls rfl oz)))), le_of_eq (eg lz), trivial⟩ (zbc (ptr_bnd _ (by first | omega | (simp only [List.length_append, List.length_cons, List.length_nil]; omega))) (zbc zPb bnd_nil)) (zNb rfl) (by simp only [znz] <;> rfl) (bxle_same bxle_nil) rfl (by simp only [znz] <;> rfl) (bl_cons (zbc zPb (zbc zPb (zbc zPb (zbc zPb (zbc (sl_b kb_Ent) (zbc (sl_b kb_Rf) (zbc (sl_b kb_Lin) bnd_nil))))))) bl_nil) ?_
              exact ⟨m_z_11, Nat.lt_succ_self _, IntKind.i64.wrap (t_10 + 1), ⟨le_of_eq (eg oz), le_of_eq (eg (os rfl oz)), trivial⟩, rfl, hz_9⟩
          · skip
            replace hz_11 := ifb_f hz_11 hc
            clear hc
            refine aw_exit ?_
            obtain rfl := some_of hz_11
            replace hz_9 := ocs_r hz_9
            refine wk_no ?_
            refine wk_yesN rfl (l := []) (bs' := [⟨88, [pl (.int .i64 p0.Code), pl (.int .u64 p0.N), pl (.bool p0.Found), pl (.string p0.Value), sl kEnt none none p0.Rows, sl kRf none none p0.Refs, sl kLin none none p0.Lines]⟩]) trivial bnd_nil (zNb rfl) (by simp only [znz] <;> rfl) (bxle_same bxle_nil) rfl (by simp only [znz] <;> rfl) (bl_cons (zbc zPb (zbc zPb (zbc zPb (zbc zPb (zbc (sl_b kb_Ent) (zbc (sl_b kb_Rf) (zbc (sl_b kb_Lin) bnd_nil))))))) bl_nil) ?_
            exact ⟨(), trivial, rfl, some_of hz_9⟩
        · rintro e st ⟨vz_9, hH, rfl, rfl⟩
          refine aw_keep _ hH ?_
          replace h0 := ocs_r h0
          refine aw_keep [] trivial ?_
          refine aw_seq ?_
          refine aw_region (by decide) ?_
          refine rts _ rfl (opD_assign (ev_const _ _)) ?_
          refine .nil ?_
          refine aw_keep [(2, _)] ⟨lg lz, trivial⟩ ?_
          refine aw_ret ?_
          obtain rfl := some_of h0
          exact done_ext (.inr rfl) ((res_one rfl (it_tmp oz)).le zLr) zPb

def F_renc2_b0 (p0 : Rpl) (t_8 : (List Int) × Int) : Option (((List Int) × Int) ⊕ (((List Int)))) :=
  ifb (decide (t_8.2 < (p0.Rows.length : Int))) (ixb p0.Rows t_8.2 fun x_10 => bnd (oBytes t_8.1 (bytesOf x_10.Key)) fun x_11 => ixb p0.Rows t_8.2 fun x_12 => bnd (oBytes x_11 (bytesOf x_12.Value)) fun x_13 => some (.inl (x_13, IntKind.i64.wrap (t_8.2 + 1)))) (some (.inr t_8.1))
def F_renc2_b1 (p0 : Rpl) (t_16 : (List Int) × Int) : Option (((List Int) × Int) ⊕ (((List Int)))) :=
  ifb (decide (t_16.2 < (p0.Refs.length : Int))) (ixb p0.Refs t_16.2 fun x_18 => grd (Fits 1 (t_16.1.length + ([IntKind.u8.wrap (x_18.Slot)] : (List Int)).length)) <| ixb p0.Refs t_16.2 fun x_19 => bnd (oNum (t_16.1 ++ ([IntKind.u8.wrap (x_18.Slot)] : (List Int))) x_19.Gen) fun x_20 => some (.inl (x_20, IntKind.i64.wrap (t_16.2 + 1)))) (some (.inr t_16.1))
def F_renc2_b2 (p0 : Rpl) (t_23 : (List Int) × Int) : Option (((List Int) × Int) ⊕ (((List Int)))) :=
  ifb (decide (t_23.2 < (p0.Lines.length : Int))) (ixb p0.Lines t_23.2 fun x_25 => bnd (oNum t_23.1 x_25.Seq) fun x_26 => bnd (oNum x_26 x_25.Who) fun x_27 => grd (Fits 1 (x_27.length + ([x_25.What] : (List Int)).length)) <| bnd (oNum (x_27 ++ ([x_25.What] : (List Int))) (IntKind.u64.wrap (x_25.Code))) fun x_28 => bnd (oBytes x_28 (bytesOf x_25.Key)) fun x_29 => some (.inl (x_29, IntKind.i64.wrap (t_23.2 + 1)))) (some (.inr t_23.1))
def F_renc2 (fl : Nat) (p0 : Rpl) : Option ((List Int) × Int) :=
  bnd (F_rmay fl p0) fun x_1 => ifb (!x_1) (some ([], 1)) (bnd (oNum [] (IntKind.u64.wrap (p0.Code))) fun x_2 => bnd (oNum x_2 p0.N) fun x_3 => bnd (ifb p0.Found (grd (Fits 1 (x_3.length + ([1] : (List Int)).length)) <| some (x_3 ++ ([1] : (List Int)))) (grd (Fits 1 (x_3.length + ([0] : (List Int)).length)) <| some (x_3 ++ ([0] : (List Int))))) fun z_4 => bnd (oBytes z_4 (bytesOf p0.Value)) fun x_5 => bnd (oNum x_5 (IntKind.u64.wrap ((p0.Rows.length : Int)))) fun x_6 => bnd (lp (F_renc2_b0 p0) fl (x_6, 0)) fun z_7 => bnd (oNum z_7 (IntKind.u64.wrap ((p0.Refs.length : Int)))) fun x_14 => bnd (lp (F_renc2_b1 p0) fl (x_14, 0)) fun z_15 => bnd (oNum z_15 (IntKind.u64.wrap ((p0.Lines.length : Int)))) fun x_21 => bnd (lp (F_renc2_b2 p0) fl (x_21, 0)) fun z_22 => some (z_22, 0))
set_option maxRecDepth 100000 in
set_option maxHeartbeats 2000000 in
theorem c_renc2 {fl : Nat} {p0 : Rpl} {R : (List Int) × Int} (h0 : F_renc2 fl p0 = some R) : Pure Tryd.prog 53 [agg [pl (.int .i64 p0.Code), pl (.int .u64 p0.N), pl (.bool p0.Found), pl (.string p0.Value), sl kEnt none none p0.Rows, sl kRf none none p0.Refs, sl kLin none none p0.Lines]] (tup [sl (kI .u8) none none R.1, pl (.int .i64 R.2)]) := by
  intro s
  unfold F_renc2 at h0
  refine ac_of_aw s.boxes.length s.fr.length Tryd.func53 rfl (by simp [Tryd.ntmps53]) ?_
  refine aw_ext0 ?_
  refine aw_keep [(0, _)] ⟨lg ez, trivial⟩ ?_
  refine aw_seq ?_
  refine aw_region (by decide) ?_
  refine rts _ rfl (boxAN rfl oz (zbc zPb (zbc zPb (zbc zPb (zbc zPb (zbc (sl_b kb_Ent) (zbc (sl_b kb_Rf) (zbc (sl_b kb_Lin) bnd_nil))))))) (by first | exact List.length_nil | (simp only [List.length_cons, List.length_nil, Nat.zero_add, Nat.reduceAdd] <;> rfl)) (by simp only [znz] <;> rfl)) ?_
  refine rts _ rfl (opD_assign (ev_const _ _)) ?_
  refine rts _ rfl (opD_assign (ev_const _ _)) ?_
  refine .nil ?_
  refine aw_keep [(1, _)] ⟨lg (ls rfl (ls rfl lz)), trivial⟩ ?_
  refine aw_seq ?_
  refine aw_seq ?_
  refine aw_region (by decide) ?_
  refine rts _ rfl (opD_load_aggX (qs := [_, _, _, _, _, _, _]) ag88_u3b sz88_u3b oz (loc_getN rfl rfl) (zNb rfl) rfl) ?_
  replace h0 := bnd_some h0
  obtain ⟨x_1, hx_1, h0⟩ := h0
  refine rts _ rfl (opD_pure ht59_u3b (c_rmay hx_1) ⟨(le_of_eq lz).trans (agg_le ⟨zLr, zLr, zLr, zLr, zLr, zLr, zLr, trivial⟩), trivial⟩) ?_
  refine rts _ rfl (opD_not lz) ?_
  refine .nil ?_
  refine aw_keep [(1, _), (11, _)] ⟨lg (ls rfl (ls rfl (ls rfl oz))), lg lz, trivial⟩ ?_
  refine aw_cond _ (os rfl oz) (fun hc => ?_) (fun hc => ?_)
  · skip
    replace h0 := ifb_t h0 hc
    clear hc
    refine aw_seq ?_
    refine aw_region (by decide) ?_
    refine rts _ rfl (opD_assign (ev_const _ _)) ?_
    refine rts _ rfl (opD_assign (ev_const _ _)) ?_
    refine .nil ?_
    refine aw_keep [(2, _), (3, _)] ⟨lg (ls rfl lz), lg lz, trivial⟩ ?_
    refine aw_ret ?_
    obtain rfl := some_of h0
    exact done_ext (.inr rfl) ((res_list (rs := [_, _]) (ps := [_, _]) rfl rfl ⟨it_tmp oz, it_tmp (os rfl oz), trivial⟩).le (tup_le ⟨(le_nil rfl), zLr, trivial⟩)) (tup_bnd (zbc (sl_b (kb_I _)) (zbc zPb bnd_nil)))
  · skip
    replace h0 := ifb_f h0 hc
    clear hc
    refine aw_skip ?_
    refine aw_keep [(1, _)] ⟨lg oz, trivial⟩ ?_
    refine aw_seq ?_
    refine aw_drawn [false, false, false, true, false, false, true, false] [[0], [0], [0], [0, 1], [0, 1], [0, 1], [1, 2], [2]] mixed_u3b (by decide +kernel) ?_
    refine dtp _ rfl (fun s => opD_fieldAddr fo88_0_u3b oz) ?_
    refine dtlG1 ag3_u3b lz (loc_getN rfl rfl) rfl rfl ?_
    refine dtp _ rfl (fun s => opD_conv_int Tryd.underlying3 Tryd.underlying22 lz rfl) ?_
    replace h0 := bnd_some h0
    obtain ⟨x_2, hx_2, h0⟩ := h0
    refine dta _ rfl (opD_own1 ht29_u3b (c_oRput hx_2) ⟨(le_of_eq (ev_const _ _)).trans (le_nil rfl), le_of_eq lz, trivial⟩ (by first | exact List.length_nil | (simp only [List.length_cons, List.length_nil, Nat.zero_add, Nat.reduceAdd] <;> rfl)) (by simp only [znz] <;> rfl)) ?_
    refine dtp _ rfl (fun s => opD_fieldAddr fo88_1_u3b (ls rfl (ls rfl (ls rfl (ls rfl oz))))) ?_
    refine dtlG1 ag22_u3b lz (loc_getN rfl rfl) rfl rfl ?_
    replace h0 := bnd_some h0
    obtain ⟨x_3, hx_3, h0⟩ := h0
    refine dta _ rfl (opD_adopt (j := 0) (kb_I _) (opD_own1 ht29_u3b (c_oRput hx_3) ⟨(le_of_eq (ls rfl (ls rfl lz))).trans (sl_any _ _ _ _), le_of_eq lz, trivial⟩ (by first | exact List.length_nil | (simp only [List.length_cons, List.length_nil, Nat.zero_add, Nat.reduceAdd] <;> rfl)) rfl) (by first | exact List.length_nil | (simp only [List.length_cons, List.length_nil, Nat.zero_add, Nat.reduceAdd] <;> rfl)) rfl (len_oNum hx_3) (by simp only [znz] <;> rfl)) ?_
    refine dtp _ rfl (fun s => opD_assign lz) ?_
    refine .nil ?_
    dsimp only [List.nil_append, List.cons_append]
    refine ⟨rfl, ⟨trivial, ⟨(by first | exact loc_getN rfl rfl | exact updx_get hlt | exact upd2_g hgh hlt | exact upd2_h hlt2), trivial⟩, trivial, trivial, trivial, ⟨(by first | exact loc_getN rfl rfl | exact updx_get hlt | exact upd2_g hgh hlt | exact upd2_h hlt2), (by first | exact loc_getN rfl rfl | exact updx_get hlt | exact upd2_g hgh hlt | exact upd2_h hlt2), trivial⟩, trivial, trivial, trivial⟩, ?_⟩
    refine aw_keep [(1, _), (4, _)] ⟨lg (ls rfl (ls rfl (ls rfl (ls rfl (ls rfl (ls rfl (ls rfl (ls rfl oz)))))))), lg lz, trivial⟩ ?_
    refine aw_seq ?_
    refine aw_seq ?_
    refine aw_region (by decide) ?_
    refine rts _ rfl (opD_fieldAddr fo88_2_u3b oz) ?_
    refine rts _ rfl (opD_load_one ag4_u3b lz (loc_getN rfl rfl) rfl) ?_
    refine .nil ?_
    refine aw_keep [(1, _), (4, _), (20, _)] ⟨lg (ls rfl (ls rfl oz)), lg (ls rfl (ls rfl (os rfl oz))), lg lz, trivial⟩ ?_
    replace h0 := bnd_some h0
    obtain ⟨z_4, hz_4, h0⟩ := h0
    refine aw_mid (fun e st => ∃ v : (List Int), Holds e [(1, ptr (s.boxes.length + 0) 0), (4, sl (kI .u8) (some (s.fr.length + 0)) none v)] ∧ st = s.ext [⟨88, [pl (.int .i64 p0.Code), pl (.int .u64 p0.N), pl (.bool p0.Found), pl (.string p0.Value), sl kEnt none none p0.Rows, sl kRf none none p0.Refs, sl kLin none none p0.Lines]⟩] [⟨5, 1, v.length⟩] ∧ v = z_4) ?_ ?_
    · skip
      refine aw_wkN rfl 1 1 rfl rfl ?_
      refine aw_cond _ (os rfl (os rfl oz)) (fun hc => ?_) (fun hc => ?_)
      · skip
        replace hz_4 := ifb_t hz_4 hc
        clear hc
        refine aw_region (by decide) ?_
        refine rts _ rfl (opD_move (os rfl oz)) ?_
        refine rts _ rfl (opD_buildOwn (k := kI .u8) ([1] : (List Int)) Tryd.underlying23 sz5_u3b zt5_u3b (by decide) rfl (parts_cons (cells1 (ev_const _ _) (one_pl rfl)) parts_nil) rfl rfl (by first | exact List.length_nil | (simp only [List.length_cons, List.length_nil, Nat.zero_add, Nat.reduceAdd] <;> rfl)) (by simp only [znz] <;> rfl)) ?_
        replace hz_4 := grd_some hz_4
        obtain ⟨hg_3, hz_4⟩ := hz_4
        refine rts _ rfl (opD_appendX Tryd.underlying23 el5_u3b (ls rfl lz) lz rfl hg_3.1 hg_3.2 rfl (by simp only [znz] <;> rfl)) ?_
        refine rts _ rfl (opD_assign lz) ?_
        refine .nil ?_
        refine wk_yesN rfl (l := [(1, ptr (s.boxes.length + 0) 0), (4, sl (kI .u8) (some (s.fr.length + 0)) none (x_3 ++ ([1] : (List Int))))]) (bs' := [⟨88, [pl (.int .i64 p0.Code), pl (.int .u64 p0.N), pl (.bool p0.Found), pl (.string p0.Value), sl kEnt none none p0.Rows, sl kRf none none p0.Refs, sl kLin none none p0.Lines]⟩]) ⟨le_of_eq (eg (ls rfl (ls rfl (ls rfl (ls rfl oz))))), le_of_eq (eg lz), trivial⟩ (zbc (ptr_bnd _ (by first | omega | (simp only [List.length_append, List.length_cons, List.length_nil]; omega))) (zbc (sl_ob (kb_I _) (by first | omega | (simp only [List.length_append, List.length_cons, List.length_nil, ext_fr_length, upd_fr_length]; omega))) bnd_nil)) (zNb rfl) (by simp only [znz] <;> rfl) (bxle_same bxle_nil) rfl (by simp only [znz] <;> rfl) (bl_cons (zbc zPb (zbc zPb (zbc zPb (zbc zPb (zbc (sl_b kb_Ent) (zbc (sl_b kb_Rf) (zbc (sl_b kb_Lin) bnd_nil))))))) bl_nil) ?_
        exact ⟨(x_3 ++ ([1] : (List Int))), ⟨le_of_eq (eg oz), le_of_eq (eg (os rfl oz)), trivial⟩, rfl, some_of hz_4⟩
      · skip
        replace hz_4 := ifb_f hz_4 hc
        clear hc
        refine aw_region (by decide) ?_
        refine rts _ rfl (opD_move (os rfl oz)) ?_
        refine rts _ rfl (opD_buildOwn (k := kI .u8) ([0] : (List Int)) Tryd.underlying23 sz5_u3b zt5_u3b (by decide) rfl (parts_cons (cells1 (ev_const _ _) (one_pl rfl)) parts_nil) rfl rfl (by first | exact List.length_nil | (simp only [List.length_cons, List.length_nil, Nat.zero_add, Nat.reduceAdd] <;> rfl)) (by simp only [znz] <;> rfl)) ?_
        replace hz_4 := grd_some hz_4
        obtain ⟨hg_4, hz_4⟩ := hz_4
        refine rts _ rfl (opD_appendX Tryd.underlying23 el5_u3b (ls rfl lz) lz rfl hg_4.1 hg_4.2 rfl (by simp only [znz] <;> rfl)) ?_
        refine rts _ rfl (opD_assign lz) ?_
        refine .nil ?_
        refine wk_yesN rfl (l := [(1, ptr (s.boxes.length + 0) 0), (4, sl (kI .u8) (some (s.fr.length + 0)) none (x_3 ++ ([0] : (List Int))))]) (bs' := [⟨88, [pl (.int .i64 p0.Code), pl (.int .u64 p0.N), pl (.bool p0.Found), pl (.string p0.Value), sl kEnt none none p0.Rows, sl kRf none none p0.Refs, sl kLin none none p0.Lines]⟩]) ⟨le_of_eq (eg (ls rfl (ls rfl (ls rfl (ls rfl oz))))), le_of_eq (eg lz), trivial⟩ (zbc (ptr_bnd _ (by first | omega | (simp only [List.length_append, List.length_cons, List.length_nil]; omega))) (zbc (sl_ob (kb_I _) (by first | omega | (simp only [List.length_append, List.length_cons, List.length_nil, ext_fr_length, upd_fr_length]; omega))) bnd_nil)) (zNb rfl) (by simp only [znz] <;> rfl) (bxle_same bxle_nil) rfl (by simp only [znz] <;> rfl) (bl_cons (zbc zPb (zbc zPb (zbc zPb (zbc zPb (zbc (sl_b kb_Ent) (zbc (sl_b kb_Rf) (zbc (sl_b kb_Lin) bnd_nil))))))) bl_nil) ?_
        exact ⟨(x_3 ++ ([0] : (List Int))), ⟨le_of_eq (eg oz), le_of_eq (eg (os rfl oz)), trivial⟩, rfl, some_of hz_4⟩
    · rintro e st ⟨vz_4, hH, rfl, rfl⟩
      refine aw_keep _ hH ?_
      refine aw_keep [(1, _), (4, _)] ⟨lg oz, lg (os rfl oz), trivial⟩ ?_
      refine aw_seq ?_
      refine aw_drawn [false, false, false, false, true, false, false, false, false, true, false] [[0], [0], [0], [0], [0, 1], [0, 1], [0, 1], [0, 1], [0, 1], [1, 2], [2]] mixed_u3b (by decide +kernel) ?_
      refine dtp _ rfl (fun s => opD_move (os rfl oz)) ?_
      refine dtp _ rfl (fun s => opD_fieldAddr fo88_3_u3b (ls rfl oz)) ?_
      refine dtlG1 ag9_u3b lz (loc_getN rfl rfl) rfl rfl ?_
      refine dtp _ rfl (fun s => opD_str_bytes Tryd.underlying9 Tryd.underlying23 Tryd.underlying5 lz) ?_
      replace h0 := bnd_some h0
      obtain ⟨x_5, hx_5, h0⟩ := h0
      refine dta _ rfl (opD_adopt (j := 0) (kb_I _) (opD_own1 ht30_u3b (c_oRputs hx_5) ⟨(le_of_eq (ls rfl (ls rfl (ls rfl lz)))).trans (sl_any _ _ _ _), (le_of_eq lz).trans (sl_any _ _ _ _), trivial⟩ (by first | exact List.length_nil | (simp only [List.length_cons, List.length_nil, Nat.zero_add, Nat.reduceAdd] <;> rfl)) rfl) (by first | exact List.length_nil | (simp only [List.length_cons, List.length_nil, Nat.zero_add, Nat.reduceAdd] <;> rfl)) rfl (len_oBytes hx_5) (by simp only [znz] <;> rfl)) ?_
      refine dtp _ rfl (fun s => opD_fieldAddr fo88_4_u3b (ls rfl (ls rfl (ls rfl (ls rfl (ls rfl oz)))))) ?_
      refine dtlG1 ag85_u3b lz (loc_getN rfl rfl) rfl rfl ?_
      refine dtp _ rfl (fun s => opD_len_sl Tryd.underlying85 lz) ?_
      refine dtp _ rfl (fun s => opD_conv_int Tryd.underlying3 Tryd.underlying22 lz rfl) ?_
      replace h0 := bnd_some h0
      obtain ⟨x_6, hx_6, h0⟩ := h0
      refine dta _ rfl (opD_adopt (j := 0) (kb_I _) (opD_own1 ht29_u3b (c_oRput hx_6) ⟨(le_of_eq (ls rfl (ls rfl (ls rfl (ls rfl lz))))).trans (sl_any _ _ _ _), le_of_eq lz, trivial⟩ (by first | exact List.length_nil | (simp only [List.length_cons, List.length_nil, Nat.zero_add, Nat.reduceAdd] <;> rfl)) rfl) (by first | exact List.length_nil | (simp only [List.length_cons, List.length_nil, Nat.zero_add, Nat.reduceAdd] <;> rfl)) rfl (len_oNum hx_6) (by simp only [znz] <;> rfl)) ?_
      refine dtp _ rfl (fun s => opD_assign lz) ?_
      refine .nil ?_
      dsimp only [List.nil_append, List.cons_append]
      refine ⟨rfl, ⟨trivial, trivial, ⟨(by first | exact loc_getN rfl rfl | exact updx_get hlt | exact upd2_g hgh hlt | exact upd2_h hlt2), trivial⟩, trivial, trivial, trivial, ⟨(by first | exact loc_getN rfl rfl | exact updx_get hlt | exact upd2_g hgh hlt | exact upd2_h hlt2), (by first | exact loc_getN rfl rfl | exact updx_get hlt | exact upd2_g hgh hlt | exact upd2_h hlt2), trivial⟩, trivial, trivial, trivial, trivial, trivial⟩, ?_⟩
      refine aw_keep [(1, _), (4, _)] ⟨lg (ls rfl (ls rfl (ls rfl (ls rfl (ls rfl (ls rfl (ls rfl (ls rfl (ls rfl (ls rfl (ls rfl oz))))))))))), lg lz, trivial⟩ ?_
      refine aw_seq ?_
      refine aw_seq ?_
      refine aw_region (by decide) ?_
      refine rts _ rfl (opD_assign (ev_const _ _)) ?_
      refine .nil ?_
      refine aw_keep [(1, _), (4, _), (5, _)] ⟨lg (ls rfl oz), lg (ls rfl (os rfl oz)), lg lz, trivial⟩ ?_
      replace h0 := bnd_some h0
      obtain ⟨z_7, hz_7, h0⟩ := h0
      refine aw_mid (fun e st => ∃ v : (List Int), Holds e [(1, ptr (s.boxes.length + 0) 0), (4, sl (kI .u8) (some (s.fr.length + 0)) none v)] ∧ st = s.ext [⟨88, [pl (.int .i64 p0.Code), pl (.int .u64 p0.N), pl (.bool p0.Found), pl (.string p0.Value), sl kEnt none none p0.Rows, sl kRf none none p0.Refs, sl kLin none none p0.Lines]⟩] [⟨5, 1, v.length⟩] ∧ v = z_7) ?_ ?_
      · skip
        refine aw_wkN rfl 1 1 rfl rfl ?_
        refine aw_block ?_
        refine aw_loop (fun n e st => ∃ v : (List Int) × Int, Holds e [(1, ptr (s.boxes.length + 0) 0), (4, sl (kI .u8) (some (s.fr.length + 0)) none v.1), (5, pl (.int .i64 v.2))] ∧ st = s.ext [⟨88, [pl (.int .i64 p0.Code), pl (.int .u64 p0.N), pl (.bool p0.Found), pl (.string p0.Value), sl kEnt none none p0.Rows, sl kRf none none p0.Refs, sl kLin none none p0.Lines]⟩] [⟨5, 1, v.1.length⟩] ∧ lp (F_renc2_b0 p0) n v = some z_7) fl ⟨(x_6, 0), ⟨le_of_eq (eg oz), le_of_eq (eg (os rfl oz)), le_of_eq (eg (os rfl (os rfl oz))), trivial⟩, rfl, hz_7⟩ ?_
        rintro n e st ⟨t_8, hH, rfl, hz_7⟩
        replace hz_7 := lp_some hz_7
        obtain ⟨m_z_9, z_9, rfl, hz_9, hz_7⟩ := hz_7
        unfold F_renc2_b0 at hz_9
        refine aw_keep _ hH ?_
        refine aw_wkN rfl 1 1 rfl rfl ?_
        refine aw_seq ?_
        refine aw_seq ?_
        refine aw_region (by decide) ?_
        refine rts _ rfl (opD_move (os rfl (os rfl oz))) ?_
        refine rts _ rfl (opD_fieldAddr fo88_4_u3b (ls rfl oz)) ?_
        refine rts _ rfl (opD_load_one ag85_u3b lz (loc_getN rfl rfl) rfl) ?_
        refine rts _ rfl (opD_len_sl Tryd.underlying85 lz) ?_
        refine rts _ rfl (opD_lss (ls rfl (ls rfl (ls rfl lz))) lz) ?_
        refine .nil ?_
        refine aw_keep [(1, _), (4, _), (5, _), (41, _)] ⟨lg (ls rfl (ls rfl (ls rfl (ls rfl (ls rfl oz))))), lg (ls rfl (ls rfl (ls rfl (ls rfl (ls rfl (os rfl oz)))))), lg (ls rfl (ls rfl (ls rfl (ls rfl (ls rfl (os rfl (os rfl oz))))))), lg lz, trivial⟩ ?_
        refine aw_cond _ (os rfl (os rfl (os rfl oz))) (fun hc => ?_) (fun hc => ?_)
        · skip
          replace hz_9 := ifb_t hz_9 hc
          clear hc
          refine aw_skip ?_
          refine aw_keep [(1, _), (4, _), (5, _)] ⟨lg oz, lg (os rfl oz), lg (os rfl (os rfl oz)), trivial⟩ ?_
          refine aw_seq ?_
          refine aw_block ?_
          refine aw_drawn [false, false, false, false, false, false, false, false, true, false, false, false, false, false, false, false, true, false] [[0], [0], [0], [0], [0], [0], [0], [0], [0, 1], [0, 1], [0, 1], [0, 1], [0, 1], [0, 1], [0, 1], [0, 1], [1, 2], [2]] mixed_u3b (by decide +kernel) ?_
          refine dtp _ rfl (fun s => opD_move (os rfl oz)) ?_
          refine dtp _ rfl (fun s => opD_fieldAddr fo88_4_u3b (ls rfl oz)) ?_
          refine dtlG1 ag85_u3b lz (loc_getN rfl rfl) rfl rfl ?_
          refine dtp _ rfl (fun s => opD_move (ls rfl (ls rfl (ls rfl (os rfl (os rfl oz)))))) ?_
          replace hz_9 := ixb_some hz_9
          obtain ⟨x_10, hx_10, hbx_10, hz_9⟩ := hz_9
          refine dtp _ rfl (fun s => opD_indexAddr_sl (i := t_8.2.toNat) Tryd.underlying85 sz174_u3b (ls rfl lz) lz hbx_10.2.2 hbx_10.2.1) ?_
          refine dtp _ rfl (fun s => opD_fieldAddr_el fo174_0_u3b lz) ?_
          refine dtp _ rfl (fun s => opD_load_el_one ag9_u3b lz hx_10 rfl) ?_
          refine dtp _ rfl (fun s => opD_str_bytes Tryd.underlying9 Tryd.underlying23 Tryd.underlying5 lz) ?_
          replace hz_9 := bnd_some hz_9
          obtain ⟨x_11, hx_11, hz_9⟩ := hz_9
          refine dta _ rfl (opD_adopt (j := 0) (kb_I _) (opD_own1 ht30_u3b (c_oRputs hx_11) ⟨(le_of_eq (ls rfl (ls rfl (ls rfl (ls rfl (ls rfl (ls rfl (ls rfl lz)))))))).trans (sl_any _ _ _ _), (le_of_eq lz).trans (sl_any _ _ _ _), trivial⟩ (by first | exact List.length_nil | (simp only [List.length_cons, List.length_nil, Nat.zero_add, Nat.reduceAdd] <;> rfl)) rfl) (by first | exact List.length_nil | (simp only [List.length_cons, List.length_nil, Nat.zero_add, Nat.reduceAdd] <;> rfl)) rfl (len_oBytes hx_11) (by simp only [znz] <;> rfl)) ?_
          refine dtp _ rfl (fun s => opD_fieldAddr fo88_4_u3b (ls rfl (ls rfl (ls rfl (ls rfl (ls rfl (ls rfl (ls rfl (ls rfl (ls rfl oz)))))))))) ?_
          refine dtlG1 ag85_u3b lz (loc_getN rfl rfl) rfl rfl ?_
          refine dtp _ rfl (fun s => opD_move (ls rfl (ls rfl (ls rfl (ls rfl (ls rfl (ls rfl (ls rfl (ls rfl (ls rfl (ls rfl (ls rfl (os rfl (os rfl oz)))))))))))))) ?_
          replace hz_9 := ixb_some hz_9
          obtain ⟨x_12, hx_12, hbx_12, hz_9⟩ := hz_9
          refine dtp _ rfl (fun s => opD_indexAddr_sl (i := t_8.2.toNat) Tryd.underlying85 sz174_u3b (ls rfl lz) lz hbx_12.2.2 hbx_12.2.1) ?_
          refine dtp _ rfl (fun s => opD_fieldAddr_el fo174_1_u3b lz) ?_
          refine dtp _ rfl (fun s => opD_load_el_one ag9_u3b lz hx_12 rfl) ?_
          refine dtp _ rfl (fun s => opD_str_bytes Tryd.underlying9 Tryd.underlying23 Tryd.underlying5 lz) ?_
          replace hz_9 := bnd_some hz_9
          obtain ⟨x_13, hx_13, hz_9⟩ := hz_9
          refine dta _ rfl (opD_adopt (j := 0) (kb_I _) (opD_own1 ht30_u3b (c_oRputs hx_13) ⟨(le_of_eq (ls rfl (ls rfl (ls rfl (ls rfl (ls rfl (ls rfl (ls rfl lz)))))))).trans (sl_any _ _ _ _), (le_of_eq lz).trans (sl_any _ _ _ _), trivial⟩ (by first | exact List.length_nil | (simp only [List.length_cons, List.length_nil, Nat.zero_add, Nat.reduceAdd] <;> rfl)) rfl) (by first | exact List.length_nil | (simp only [List.length_cons, List.length_nil, Nat.zero_add, Nat.reduceAdd] <;> rfl)) rfl (len_oBytes hx_13) (by simp only [znz] <;> rfl)) ?_
          refine dtp _ rfl (fun s => opD_assign lz) ?_
          refine .nil ?_
          dsimp only [List.nil_append, List.cons_append]
          refine ⟨rfl, ⟨trivial, trivial, ⟨(by first | exact loc_getN rfl rfl | exact updx_get hlt | exact upd2_g hgh hlt | exact upd2_h hlt2), trivial⟩, trivial, trivial, trivial, trivial, trivial, trivial, trivial, ⟨(by first | exact loc_getN rfl rfl | exact updx_get hlt | exact upd2_g hgh hlt | exact upd2_h hlt2), (by first | exact loc_getN rfl rfl | exact updx_get hlt | exact upd2_g hgh hlt | exact upd2_h hlt2), trivial⟩, trivial, trivial, trivial, trivial, trivial, trivial, trivial, trivial⟩, ?_⟩
          refine aw_keep [(1, _), (4, _), (5, _)] ⟨lg (ls rfl (ls rfl (ls rfl (ls rfl (ls rfl (ls rfl (ls rfl (ls rfl (ls rfl (ls rfl (ls rfl (ls rfl (ls rfl (ls rfl (ls rfl (ls rfl (ls rfl (ls rfl oz)))))))))))))))))), lg lz, lg (ls rfl (ls rfl (ls rfl (ls rfl (ls rfl (ls rfl (ls rfl (ls rfl (ls rfl (ls rfl (ls rfl (ls rfl (ls rfl (ls rfl (ls rfl (ls rfl (ls rfl (ls rfl (os rfl (os rfl oz)))))))))))))))))))), trivial⟩ ?_
          refine aw_region (by decide) ?_
          refine rts _ rfl (opD_move (os rfl (os rfl oz))) ?_
          refine rts _ rfl (opD_add lz (ev_const _ _) rfl) ?_
          refine rts _ rfl (opD_assign lz) ?_
          refine .nil ?_
          obtain rfl := some_of hz_9
          replace hz_7 := ocs_l hz_7
          refine wk_yesN rfl (l := [(1, ptr (s.boxes.length + 0) 0), (4, sl (kI .u8) (some (s.fr.length + 0)) none x_13), (5, pl (.int .i64 (IntKind.i64.wrap (t_8.2 + 1))))]) (bs' := [⟨88, [pl (.int .i64 p0.Code), pl (.int .u64 p0.N), pl (.bool p0.Found), pl (.string p0.Value), sl kEnt none none p0.Rows, sl kRf none none p0.Refs, sl kLin none none p0.Lines]⟩]) ⟨le_of_eq (eg (ls rfl (ls rfl (ls rfl oz)))), le_of_eq (eg (ls rfl (ls rfl (ls rfl (os rfl oz))))), le_of_eq (eg lz), trivial⟩ (zbc (ptr_bnd _ (by first | omega | (simp only [List.length_append, List.length_cons, List.length_nil]; omega))) (zbc (sl_ob (kb_I _) (by first | omega | (simp only [List.length_append, List.length_cons, List.length_nil, ext_fr_length, upd_fr_length]; omega))) (zbc zPb bnd_nil))) (zNb rfl) (by simp only [znz] <;> rfl) (bxle_same bxle_nil) rfl (by simp only [znz] <;> rfl) (bl_cons (zbc zPb (zbc zPb (zbc zPb (zbc zPb (zbc (sl_b kb_Ent) (zbc (sl_b kb_Rf) (zbc (sl_b kb_Lin) bnd_nil))))))) bl_nil) ?_
          exact ⟨m_z_9, Nat.lt_succ_self _, (x_13, IntKind.i64.wrap (t_8.2 + 1)), ⟨le_of_eq (eg oz), le_of_eq (eg (os rfl oz)), le_of_eq (eg (os rfl (os rfl oz))), trivial⟩, rfl, hz_7⟩
        · skip
          replace hz_9 := ifb_f hz_9 hc
          clear hc
          refine aw_exit ?_
          obtain rfl := some_of hz_9
          replace hz_7 := ocs_r hz_7
          refine wk_no ?_
          refine wk_yesN rfl (l := [(1, ptr (s.boxes.length + 0) 0), (4, sl (kI .u8) (some (s.fr.length + 0)) none t_8.1)]) (bs' := [⟨88, [pl (.int .i64 p0.Code), pl (.int .u64 p0.N), pl (.bool p0.Found), pl (.string p0.Value), sl kEnt none none p0.Rows, sl kRf none none p0.Refs, sl kLin none none p0.Lines]⟩]) ⟨le_of_eq (eg oz), le_of_eq (eg (os rfl oz)), trivial⟩ (zbc (ptr_bnd _ (by first | omega | (simp only [List.length_append, List.length_cons, List.length_nil]; omega))) (zbc (sl_ob (kb_I _) (by first | omega | (simp only [List.length_append, List.length_cons, List.length_nil, ext_fr_length, upd_fr_length]; omega))) bnd_nil)) (zNb rfl) (by simp only [znz] <;> rfl) (bxle_same bxle_nil) rfl (by simp only [znz] <;> rfl) (bl_cons (zbc zPb (zbc zPb (zbc zPb (zbc zPb (zbc (sl_b kb_Ent) (zbc (sl_b kb_Rf) (zbc (sl_b kb_Lin) bnd_nil))))))) bl_nil) ?_
          exact ⟨t_8.1, ⟨le_of_eq (eg oz), le_of_eq (eg (os rfl oz)), trivial⟩, rfl, some_of hz_7⟩
      · rintro e st ⟨vz_7, hH, rfl, rfl⟩
        refine aw_keep _ hH ?_
        refine aw_keep [(1, _), (4, _)] ⟨lg oz, lg (os rfl oz), trivial⟩ ?_
        refine aw_seq ?_
        refine aw_region (by decide) ?_
        refine rts _ rfl (opD_move (os rfl oz)) ?_
        refine rts _ rfl (opD_fieldAddr fo88_5_u3b (ls rfl oz)) ?_
        refine rts _ rfl (opD_load_one ag86_u3b lz (loc_getN rfl rfl) rfl) ?_
        refine rts _ rfl (opD_len_sl Tryd.underlying86 lz) ?_
        refine rts _ rfl (opD_conv_int Tryd.underlying3 Tryd.underlying22 lz rfl) ?_
        replace h0 := bnd_some h0
        obtain ⟨x_14, hx_14, h0⟩ := h0
        refine rts _ rfl (opD_adopt (j := 0) (kb_I _) (opD_own1 ht29_u3b (c_oRput hx_14) ⟨(le_of_eq (ls rfl (ls rfl (ls rfl (ls rfl lz))))).trans (sl_any _ _ _ _), le_of_eq lz, trivial⟩ (by first | exact List.length_nil | (simp only [List.length_cons, List.length_nil, Nat.zero_add, Nat.reduceAdd] <;> rfl)) rfl) (by first | exact List.length_nil | (simp only [List.length_cons, List.length_nil, Nat.zero_add, Nat.reduceAdd] <;> rfl)) rfl (len_oNum hx_14) (by simp only [znz] <;> rfl)) ?_
        refine rts _ rfl (opD_assign lz) ?_
        refine .nil ?_
        refine aw_keep [(1, _), (4, _)] ⟨lg (ls rfl (ls rfl (ls rfl (ls rfl (ls rfl (ls rfl (ls rfl oz))))))), lg lz, trivial⟩ ?_
        refine aw_seq ?_
        refine aw_seq ?_
        refine aw_region (by decide) ?_
        refine rts _ rfl (opD_assign (ev_const _ _)) ?_
        refine .nil ?_
        refine aw_keep [(1, _), (4, _), (6, _)] ⟨lg (ls rfl oz), lg (ls rfl (os rfl oz)), lg lz, trivial⟩ ?_
        replace h0 := bnd_some h0
        obtain ⟨z_15, hz_15, h0⟩ := h0
        refine aw_mid (fun e st => ∃ v : (List Int), Holds e [(1, ptr (s.boxes.length + 0) 0), (4, sl (kI .u8) (some (s.fr.length + 0)) none v)] ∧ st = s.ext [⟨88, [pl (.int .i64 p0.Code), pl (.int .u64 p0.N), pl (.bool p0.Found), pl (.string p0.Value), sl kEnt none none p0.Rows, sl kRf none none p0.Refs, sl kLin none none p0.Lines]⟩] [⟨5, 1, v.length⟩] ∧ v = z_15) ?_ ?_
        · skip
          refine aw_wkN rfl 1 1 rfl rfl ?_
          refine aw_block ?_
          refine aw_loop (fun n e st => ∃ v : (List Int) × Int, Holds e [(1, ptr (s.boxes.length + 0) 0), (4, sl (kI .u8) (some (s.fr.length + 0)) none v.1), (6, pl (.int .i64 v.2))] ∧ st = s.ext [⟨88, [pl (.int .i64 p0.Code), pl (.int .u64 p0.N), pl (.bool p0.Found), pl (.string p0.Value), sl kEnt none none p0.Rows, sl kRf none none p0.Refs, sl kLin none none p0.Lines]⟩] [⟨5, 1, v.1.length⟩] ∧ lp (F_renc2_b1 p0) n v = some z_15) fl ⟨(x_14, 0), ⟨le_of_eq (eg oz), le_of_eq (eg (os rfl oz)), le_of_eq (eg (os rfl (os rfl oz))), trivial⟩, rfl, hz_15⟩ ?_
          rintro n e st ⟨t_16, hH, rfl, hz_15⟩
          replace hz_15 := lp_some hz_15
          obtain ⟨m_z_17, z_17, rfl, hz_17, hz_15⟩ := hz_15
          unfold F_renc2_b1 at hz_17
          refine aw_keep _ hH ?_
          refine aw_wkN rfl 1 1 rfl rfl ?_
          refine aw_seq ?_
          refine aw_seq ?_
          refine aw_region (by decide) ?_
          refine rts _ rfl (opD_move (os rfl (os rfl oz))) ?_
          refine rts _ rfl (opD_fieldAddr fo88_5_u3b (ls rfl oz)) ?_
          refine rts _ rfl (opD_load_one ag86_u3b lz (loc_getN rfl rfl) rfl) ?_
          refine rts _ rfl (opD_len_sl Tryd.underlying86 lz) ?_
          refine rts _ rfl (opD_lss (ls rfl (ls rfl (ls rfl lz))) lz) ?_
          refine .nil ?_
          refine aw_keep [(1, _), (4, _), (6, _), (71, _)] ⟨lg (ls rfl (ls rfl (ls rfl (ls rfl (ls rfl oz))))), lg (ls rfl (ls rfl (ls rfl (ls rfl (ls rfl (os rfl oz)))))), lg (ls rfl (ls rfl (ls rfl (ls rfl (ls rfl (os rfl (os rfl oz))))))), lg lz, trivial⟩ ?_
          refine aw_cond _ (os rfl (os rfl (os rfl oz))) (fun hc => ?_) (fun hc => ?_)
          · skip
            replace hz_17 := ifb_t hz_17 hc
            clear hc
            refine aw_skip ?_
            refine aw_keep [(1, _), (4, _), (6, _)] ⟨lg oz, lg (os rfl oz), lg (os rfl (os rfl oz)), trivial⟩ ?_
            refine aw_seq ?_
            refine aw_block ?_
            refine aw_drawn [false, false, false, false, false, false, false, false, false, true, false, false, false, false, false, false, true, false] [[0], [0], [0], [0], [0], [0], [0], [0], [0], [0, 1], [0, 1], [0, 1], [0, 1], [0, 1], [0, 1], [0, 1], [1, 2], [2]] mixed_u3b (by decide +kernel) ?_
            refine dtp _ rfl (fun s => opD_move (os rfl oz)) ?_
            refine dtp _ rfl (fun s => opD_fieldAddr fo88_5_u3b (ls rfl oz)) ?_
            refine dtlG1 ag86_u3b lz (loc_getN rfl rfl) rfl rfl ?_
            refine dtp _ rfl (fun s => opD_move (ls rfl (ls rfl (ls rfl (os rfl (os rfl oz)))))) ?_
            replace hz_17 := ixb_some hz_17
            obtain ⟨x_18, hx_18, hbx_18, hz_17⟩ := hz_17
            refine dtp _ rfl (fun s => opD_indexAddr_sl (i := t_16.2.toNat) Tryd.underlying86 sz112_u3b (ls rfl lz) lz hbx_18.2.2 hbx_18.2.1) ?_
            refine dtp _ rfl (fun s => opD_fieldAddr_el fo112_0_u3b lz) ?_
            refine dtp _ rfl (fun s => opD_load_el_one ag3_u3b lz hx_18 rfl) ?_
            refine dtp _ rfl (fun s => opD_conv_int Tryd.underlying3 Tryd.underlying5 lz rfl) ?_
            refine dtp _ rfl (fun s => opD_buildSlice (k := kI .u8) ([IntKind.u8.wrap (x_18.Slot)] : (List Int)) Tryd.underlying23 sz5_u3b zt5_u3b (by decide) rfl (parts_cons (cells1 lz (one_pl rfl)) parts_nil) rfl rfl) ?_
            replace hz_17 := grd_some hz_17
            obtain ⟨hg_12, hz_17⟩ := hz_17
            refine dta _ rfl (opD_appendX Tryd.underlying23 el5_u3b (ls rfl (ls rfl (ls rfl (ls rfl (ls rfl (ls rfl (ls rfl (ls rfl lz)))))))) lz rfl hg_12.1 hg_12.2 rfl (by simp only [znz] <;> rfl)) ?_
            refine dtp _ rfl (fun s => opD_fieldAddr fo88_5_u3b (ls rfl (ls rfl (ls rfl (ls rfl (ls rfl (ls rfl (ls rfl (ls rfl (ls rfl (ls rfl oz))))))))))) ?_
            refine dtlG1 ag86_u3b lz (loc_getN rfl rfl) rfl rfl ?_
            refine dtp _ rfl (fun s => opD_move (ls rfl (ls rfl (ls rfl (ls rfl (ls rfl (ls rfl (ls rfl (ls rfl (ls rfl (ls rfl (ls rfl (ls rfl (os rfl (os rfl oz))))))))))))))) ?_
            replace hz_17 := ixb_some hz_17
            obtain ⟨x_19, hx_19, hbx_19, hz_17⟩ := hz_17
            refine dtp _ rfl (fun s => opD_indexAddr_sl (i := t_16.2.toNat) Tryd.underlying86 sz112_u3b (ls rfl lz) lz hbx_19.2.2 hbx_19.2.1) ?_
            refine dtp _ rfl (fun s => opD_fieldAddr_el fo112_1_u3b lz) ?_
            refine dtp _ rfl (fun s => opD_load_el_one ag22_u3b lz hx_19 rfl) ?_
            replace hz_17 := bnd_some hz_17
            obtain ⟨x_20, hx_20, hz_17⟩ := hz_17
            refine dta _ rfl (opD_adopt (j := 0) (kb_I _) (opD_own1 ht29_u3b (c_oRput hx_20) ⟨(le_of_eq (ls rfl (ls rfl (ls rfl (ls rfl (ls rfl (ls rfl lz))))))).trans (sl_any _ _ _ _), le_of_eq lz, trivial⟩ (by first | exact List.length_nil | (simp only [List.length_cons, List.length_nil, Nat.zero_add, Nat.reduceAdd] <;> rfl)) rfl) (by first | exact List.length_nil | (simp only [List.length_cons, List.length_nil, Nat.zero_add, Nat.reduceAdd] <;> rfl)) rfl (len_oNum hx_20) (by simp only [znz] <;> rfl)) ?_
            refine dtp _ rfl (fun s => opD_assign lz) ?_
            refine .nil ?_
            dsimp only [List.nil_append, List.cons_append]
            refine ⟨rfl, ⟨trivial, trivial, ⟨(by first | exact loc_getN rfl rfl | exact updx_get hlt | exact upd2_g hgh hlt | exact upd2_h hlt2), trivial⟩, trivial, trivial, trivial, trivial, trivial, trivial, trivial, trivial, ⟨(by first | exact loc_getN rfl rfl | exact updx_get hlt | exact upd2_g hgh hlt | exact upd2_h hlt2), (by first | exact loc_getN rfl rfl | exact updx_get hlt | exact upd2_g hgh hlt | exact upd2_h hlt2), trivial⟩, trivial, trivial, trivial, trivial, trivial, trivial, trivial⟩, ?_⟩
            refine aw_keep [(1, _), (4, _), (6, _)] ⟨lg (ls rfl (ls rfl (ls rfl (ls rfl (ls rfl (ls rfl (ls rfl (ls rfl (ls rfl (ls rfl (ls rfl (ls rfl (ls rfl (ls rfl (ls rfl (ls rfl (ls rfl (ls rfl oz)))))))))))))))))), lg lz, lg (ls rfl (ls rfl (ls rfl (ls rfl (ls rfl (ls rfl (ls rfl (ls rfl (ls rfl (ls rfl (ls rfl (ls rfl (ls rfl (ls rfl (ls rfl (ls rfl (ls rfl (ls rfl (os rfl (os rfl oz)))))))))))))))))))), trivial⟩ ?_
            refine aw_region (by decide) ?_
            refine rts _ rfl (opD_move (os rfl (os rfl oz))) ?_
            refine rts _ rfl (opD_add lz (ev_const _ _) rfl) ?_
            refine rts _ rfl (opD_assign lz) ?_
            refine .nil ?_
            obtain rfl := some_of hz_17
            replace hz_15 := ocs_l hz_15
            refine wk_yesN rfl (l := [(1, ptr (s.boxes.length + 0) 0), (4, sl (kI .u8) (some (s.fr.length + 0)) none x_20), (6, pl (.int .i64 (IntKind.i64.wrap (t_16.2 + 1))))]) (bs' := [⟨88, [pl (.int .i64 p0.Code), pl (.int .u64 p0.N), pl (.bool p0.Found), pl (.string p0.Value), sl kEnt none none p0.Rows, sl kRf none none p0.Refs, sl kLin none none p0.Lines]⟩]) ⟨le_of_eq (eg (ls rfl (ls rfl (ls rfl oz)))), le_of_eq (eg (ls rfl (ls rfl (ls rfl (os rfl oz))))), le_of_eq (eg lz), trivial⟩ (zbc (ptr_bnd _ (by first | omega | (simp only [List.length_append, List.length_cons, List.length_nil]; omega))) (zbc (sl_ob (kb_I _) (by first | omega | (simp only [List.length_append, List.length_cons, List.length_nil, ext_fr_length, upd_fr_length]; omega))) (zbc zPb bnd_nil))) (zNb rfl) (by simp only [znz] <;> rfl) (bxle_same bxle_nil) rfl (by simp only [znz] <;> rfl) (bl_cons (zbc zPb (zbc zPb (zbc zPb (zbc zPb (zbc (sl_b kb_Ent) (zbc (sl_b kb_Rf) (zbc (sl_b kb_Lin) bnd_nil))))))) bl_nil) ?_
            exact ⟨m_z_17, Nat.lt_succ_self _, (x_20, IntKind.i64.wrap (t_16.2 + 1)), ⟨le_of_eq (eg oz), le_of_eq (eg (os rfl oz)), le_of_eq (eg (os rfl (os rfl oz))), trivial⟩, rfl, hz_15⟩
          · skip
            replace hz_17 := ifb_f hz_17 hc
            clear hc
            refine aw_exit ?_
            obtain rfl := some_of hz_17
            replace hz_15 := ocs_r hz_15
            refine wk_no ?_
            refine wk_yesN rfl (l := [(1, ptr (s.boxes.length + 0) 0), (4, sl (kI .u8) (some (s.fr.length + 0)) none t_16.1)]) (bs' := [⟨88, [pl (.int .i64 p0.Code), pl (.int .u64 p0.N), pl (.bool p0.Found), pl (.string p0.Value), sl kEnt none none p0.Rows, sl kRf none none p0.Refs, sl kLin none none p0.Lines]⟩]) ⟨le_of_eq (eg oz), le_of_eq (eg (os rfl oz)), trivial⟩ (zbc (ptr_bnd _ (by first | omega | (simp only [List.length_append, List.length_cons, List.length_nil]; omega))) (zbc (sl_ob (kb_I _) (by first | omega | (simp only [List.length_append, List.length_cons, List.length_nil, ext_fr_length, upd_fr_length]; omega))) bnd_nil)) (zNb rfl) (by simp only [znz] <;> rfl) (bxle_same bxle_nil) rfl (by simp only [znz] <;> rfl) (bl_cons (zbc zPb (zbc zPb (zbc zPb (zbc zPb (zbc (sl_b kb_Ent) (zbc (sl_b kb_Rf) (zbc (sl_b kb_Lin) bnd_nil))))))) bl_nil) ?_
            exact ⟨t_16.1, ⟨le_of_eq (eg oz), le_of_eq (eg (os rfl oz)), trivial⟩, rfl, some_of hz_15⟩
        · rintro e st ⟨vz_15, hH, rfl, rfl⟩
          refine aw_keep _ hH ?_
          refine aw_keep [(1, _), (4, _)] ⟨lg oz, lg (os rfl oz), trivial⟩ ?_
          refine aw_seq ?_
          refine aw_region (by decide) ?_
          refine rts _ rfl (opD_move (os rfl oz)) ?_
          refine rts _ rfl (opD_fieldAddr fo88_6_u3b (ls rfl oz)) ?_
          refine rts _ rfl (opD_load_one ag54_u3b lz (loc_getN rfl rfl) rfl) ?_
          refine rts _ rfl (opD_len_sl Tryd.underlying54 lz) ?_
          refine rts _ rfl (opD_conv_int Tryd.underlying3 Tryd.underlying22 lz rfl) ?_
          replace h0 := bnd_some h0
          obtain ⟨x_21, hx_21, h0⟩ := h0
          refine rts _ rfl (opD_adopt (j := 0) (kb_I _) (opD_own1 ht29_u3b (c_oRput hx_21) ⟨(le_of_eq (ls rfl (ls rfl (ls rfl (ls rfl lz))))).trans (sl_any _ _ _ _), le_of_eq lz, trivial⟩ (by first | exact List.length_nil | (simp only [List.length_cons, List.length_nil, Nat.zero_add, Nat.reduceAdd] <;> rfl)) rfl) (by first | exact List.length_nil | (simp only [List.length_cons, List.length_nil, Nat.zero_add, Nat.reduceAdd] <;> rfl)) rfl (len_oNum hx_21) (by simp only [znz] <;> rfl)) ?_
          refine rts _ rfl (opD_assign lz) ?_
          refine .nil ?_
          refine aw_keep [(1, _), (4, _)] ⟨lg (ls rfl (ls rfl (ls rfl (ls rfl (ls rfl (ls rfl (ls rfl oz))))))), lg lz, trivial⟩ ?_
          refine aw_seq ?_
          refine aw_seq ?_
          refine aw_region (by decide) ?_
          refine rts _ rfl (opD_assign (ev_const _ _)) ?_
          refine .nil ?_
          refine aw_keep [(1, _), (4, _), (7, _)] ⟨lg (ls rfl oz), lg (ls rfl (os rfl oz)), lg lz, trivial⟩ ?_
          replace h0 := bnd_some h0
          obtain ⟨z_22, hz_22, h0⟩ := h0
          refine aw_mid (fun e st => ∃ v : (List Int), Holds e [(4, sl (kI .u8) (some (s.fr.length + 0)) none v)] ∧ st = s.ext [⟨88, [pl (.int .i64 p0.Code), pl (.int .u64 p0.N), pl (.bool p0.Found), pl (.string p0.Value), sl kEnt none none p0.Rows, sl kRf none none p0.Refs, sl kLin none none p0.Lines]⟩] [⟨5, 1, v.length⟩] ∧ v = z_22) ?_ ?_
          · skip
            refine aw_wkN rfl 1 1 rfl rfl ?_
            refine aw_block ?_
            refine aw_loop (fun n e st => ∃ v : (List Int) × Int, Holds e [(1, ptr (s.boxes.length + 0) 0), (4, sl (kI .u8) (some (s.fr.length + 0)) none v.1), (7, pl (.int .i64 v.2))] ∧ st = s.ext [⟨88, [pl (.int .i64 p0.Code), pl (.int .u64 p0.N), pl (.bool p0.Found), pl (.string p0.Value), sl kEnt none none p0.Rows, sl kRf none none p0.Refs, sl kLin none none p0.Lines]⟩] [⟨5, 1, v.1.length⟩] ∧ lp (F_renc2_b2 p0) n v = some z_22) fl ⟨(x_21, 0), ⟨le_of_eq (eg oz), le_of_eq (eg (os rfl oz)), le_of_eq (eg (os rfl (os rfl oz))), trivial⟩, rfl, hz_22⟩ ?_
            rintro n e st ⟨t_23, hH, rfl, hz_22⟩
            replace hz_22 := lp_some hz_22
            obtain ⟨m_z_24, z_24, rfl, hz_24, hz_22⟩ := hz_22
            unfold F_renc2_b2 at hz_24
            refine aw_keep _ hH ?_
            refine aw_wkN rfl 1 1 rfl rfl ?_
            refine aw_seq ?_
            refine aw_seq ?_
            refine aw_region (by decide) ?_
            refine rts _ rfl (opD_move (os rfl (os rfl oz))) ?_
            refine rts _ rfl (opD_fieldAddr fo88_6_u3b (ls rfl oz)) ?_
            refine rts _ rfl (opD_load_one ag54_u3b lz (loc_getN rfl rfl) rfl) ?_
            refine rts _ rfl (opD_len_sl Tryd.underlying54 lz) ?_
            refine rts _ rfl (opD_lss (ls rfl (ls rfl (ls rfl lz))) lz) ?_
            refine .nil ?_
            refine aw_keep [(1, _), (4, _), (7, _), (101, _)] ⟨lg (ls rfl (ls rfl (ls rfl (ls rfl (ls rfl oz))))), lg (ls rfl (ls rfl (ls rfl (ls rfl (ls rfl (os rfl oz)))))), lg (ls rfl (ls rfl (ls rfl (ls rfl (ls rfl (os rfl (os rfl oz))))))), lg lz, trivial⟩ ?_
            refine aw_cond _ (os rfl (os rfl (os rfl oz))) (fun hc => ?_) (fun hc => ?_)
            · skip
              replace hz_24 := ifb_t hz_24 hc
              clear hc
              refine aw_skip ?_
              refine aw_keep [(1, _), (4, _), (7, _)] ⟨lg oz, lg (os rfl oz), lg (os rfl (os rfl oz)), trivial⟩ ?_
              refine aw_seq ?_
              refine aw_block ?_
              refine aw_seq ?_
              refine aw_region (by decide) ?_
              refine rts _ rfl (opD_fieldAddr fo88_6_u3b oz) ?_
              refine rts _ rfl (opD_load_one ag54_u3b lz (loc_getN rfl rfl) rfl) ?_
              refine rts _ rfl (opD_move (ls rfl (ls rfl (os rfl (os rfl oz))))) ?_
              replace hz_24 := ixb_some hz_24
              obtain ⟨x_25, hx_25, hbx_25, hz_24⟩ := hz_24
              refine rts _ rfl (opD_indexAddr_sl (i := t_23.2.toNat) Tryd.underlying54 sz60_u3b (ls rfl lz) lz hbx_25.2.2 hbx_25.2.1) ?_
              refine rts _ rfl (opD_load_el_aggX (qs := [_, _, _, _, _]) ag60_u3b sz60_u3b lz hx_25 (zNb rfl) rfl) ?_
              refine rts _ rfl (allocN rfl zt60_u3b (by first | exact List.length_nil | (simp only [List.length_cons, List.length_nil, Nat.zero_add, Nat.reduceAdd] <;> rfl)) (by simp only [znz] <;> rfl)) ?_
              refine rts _ rfl (storeAN rfl sz60_u3b lz (ls rfl lz) (ones_cons (one_pl rfl) (ones_cons (one_pl rfl) (ones_cons (one_pl rfl) (ones_cons (one_pl rfl) (ones_cons (one_pl rfl) ones_nil))))) rfl rfl (zNb rfl) (List.cons_ne_nil _ _) (zbc zPb (zbc zPb (zbc zPb (zbc zPb (zbc zPb bnd_nil))))) (by simp only [znz] <;> rfl) (by simp only [znz] <;> rfl)) ?_
              refine .nil ?_
              refine aw_keep [(1, _), (4, _), (7, _), (8, _)] ⟨lg (lx (ls rfl (ls rfl (ls rfl (ls rfl (ls rfl (ls rfl oz))))))), lg (lx (ls rfl (ls rfl (ls rfl (ls rfl (ls rfl (ls rfl (os rfl oz)))))))), lg (lx (ls rfl (ls rfl (ls rfl (ls rfl (ls rfl (ls rfl (os rfl (os rfl oz))))))))), lg (lx lz), trivial⟩ ?_
              refine aw_seq ?_
              refine aw_drawn [false, false, false, true, false, false, true, false, false, false, true, false] [[0], [0], [0], [0, 1], [0, 1], [0, 1], [1, 2], [0, 1, 2], [0, 1, 2], [0, 1, 2], [2, 3], [3]] mixed_u3b (by decide +kernel) ?_
              refine dtp _ rfl (fun s => opD_move (os rfl oz)) ?_
              refine dtp _ rfl (fun s => opD_fieldAddr fo60_0_u3b (ls rfl (os rfl (os rfl (os rfl oz))))) ?_
              refine dtlG1 ag22_u3b lz (loc_getN rfl rfl) rfl rfl ?_
              replace hz_24 := bnd_some hz_24
              obtain ⟨x_26, hx_26, hz_24⟩ := hz_24
              refine dta _ rfl (opD_adopt (j := 0) (kb_I _) (opD_own1 ht29_u3b (c_oRput hx_26) ⟨(le_of_eq (ls rfl (ls rfl lz))).trans (sl_any _ _ _ _), le_of_eq lz, trivial⟩ (by first | exact List.length_nil | (simp only [List.length_cons, List.length_nil, Nat.zero_add, Nat.reduceAdd] <;> rfl)) rfl) (by first | exact List.length_nil | (simp only [List.length_cons, List.length_nil, Nat.zero_add, Nat.reduceAdd] <;> rfl)) rfl (len_oNum hx_26) (by simp only [znz] <;> rfl)) ?_
              refine dtp _ rfl (fun s => opD_fieldAddr fo60_1_u3b (ls rfl (ls rfl (ls rfl (ls rfl (os rfl (os rfl (os rfl oz)))))))) ?_
              refine dtlG1 ag22_u3b lz (loc_getN rfl rfl) rfl rfl ?_
              replace hz_24 := bnd_some hz_24
              obtain ⟨x_27, hx_27, hz_24⟩ := hz_24
              refine dta _ rfl (opD_adopt (j := 0) (kb_I _) (opD_own1 ht29_u3b (c_oRput hx_27) ⟨(le_of_eq (ls rfl (ls rfl lz))).trans (sl_any _ _ _ _), le_of_eq lz, trivial⟩ (by first | exact List.length_nil | (simp only [List.length_cons, List.length_nil, Nat.zero_add, Nat.reduceAdd] <;> rfl)) rfl) (by first | exact List.length_nil | (simp only [List.length_cons, List.length_nil, Nat.zero_add, Nat.reduceAdd] <;> rfl)) rfl (len_oNum hx_27) (by simp only [znz] <;> rfl)) ?_
              refine dtp _ rfl (fun s => opD_fieldAddr fo60_2_u3b (ls rfl (ls rfl (ls rfl (ls rfl (ls rfl (ls rfl (ls rfl (os rfl (os rfl (os rfl oz))))))))))) ?_
              refine dtlG1 ag5_u3b lz (loc_getN rfl rfl) rfl rfl ?_
              refine dtp _ rfl (fun s => opD_buildSlice (k := kI .u8) ([x_25.What] : (List Int)) Tryd.underlying23 sz5_u3b zt5_u3b (by decide) rfl (parts_cons (cells1 lz (one_pl rfl)) parts_nil) rfl rfl) ?_
              replace hz_24 := grd_some hz_24
              obtain ⟨hg_20, hz_24⟩ := hz_24
              refine dta _ rfl (opD_appendX Tryd.underlying23 el5_u3b (ls rfl (ls rfl (ls rfl lz))) lz rfl hg_20.1 hg_20.2 rfl (by simp only [znz] <;> rfl)) ?_
              refine dtp _ rfl (fun s => opD_assign lz) ?_
              refine .nil ?_
              dsimp only [List.nil_append, List.cons_append]
              refine ⟨rfl, ⟨trivial, trivial, ⟨(by first | exact loc_getN rfl rfl | exact updx_get hlt | exact upd2_g hgh hlt | exact upd2_h hlt2), trivial⟩, trivial, trivial, ⟨(by first | exact loc_getN rfl rfl | exact updx_get hlt | exact upd2_g hgh hlt | exact upd2_h hlt2), (by first | exact loc_getN rfl rfl | exact updx_get hlt | exact upd2_g hgh hlt | exact upd2_h hlt2), trivial⟩, trivial, trivial, ⟨(by first | exact loc_getN rfl rfl | exact updx_get hlt | exact upd2_g hgh hlt | exact upd2_h hlt2), (by first | exact loc_getN rfl rfl | exact updx_get hlt | exact upd2_g hgh hlt | exact upd2_h hlt2), (by first | exact loc_getN rfl rfl | exact updx_get hlt | exact upd2_g hgh hlt | exact upd2_h hlt2), trivial⟩, trivial, trivial, trivial, trivial⟩, ?_⟩
              refine aw_keep [(1, _), (4, _), (7, _), (8, _)] ⟨lg (ls rfl (ls rfl (ls rfl (ls rfl (ls rfl (ls rfl (ls rfl (ls rfl (ls rfl (ls rfl (ls rfl (ls rfl oz)))))))))))), lg lz, lg (ls rfl (ls rfl (ls rfl (ls rfl (ls rfl (ls rfl (ls rfl (ls rfl (ls rfl (ls rfl (ls rfl (ls rfl (os rfl (os rfl oz)))))))))))))), lg (ls rfl (ls rfl (ls rfl (ls rfl (ls rfl (ls rfl (ls rfl (ls rfl (ls rfl (ls rfl (ls rfl (ls rfl (os rfl (os rfl (os rfl oz))))))))))))))), trivial⟩ ?_
              refine aw_drawn [false, false, false, false, true, false, false, false, true, false] [[0], [0], [0], [0], [0, 1], [0, 1], [0, 1], [0, 1], [1, 2], [2]] mixed_u3b (by decide +kernel) ?_
              refine dtp _ rfl (fun s => opD_move (os rfl oz)) ?_
              refine dtp _ rfl (fun s => opD_fieldAddr fo60_3_u3b (ls rfl (os rfl (os rfl (os rfl oz))))) ?_
              refine dtlG1 ag58_u3b lz (loc_getN rfl rfl) rfl rfl ?_
              refine dtp _ rfl (fun s => opD_conv_int Tryd.underlying58 Tryd.underlying22 lz rfl) ?_
              replace hz_24 := bnd_some hz_24
              obtain ⟨x_28, hx_28, hz_24⟩ := hz_24
              refine dta _ rfl (opD_adopt (j := 0) (kb_I _) (opD_own1 ht29_u3b (c_oRput hx_28) ⟨(le_of_eq (ls rfl (ls rfl (ls rfl lz)))).trans (sl_any _ _ _ _), le_of_eq lz, trivial⟩ (by first | exact List.length_nil | (simp only [List.length_cons, List.length_nil, Nat.zero_add, Nat.reduceAdd] <;> rfl)) rfl) (by first | exact List.length_nil | (simp only [List.length_cons, List.length_nil, Nat.zero_add, Nat.reduceAdd] <;> rfl)) rfl (len_oNum hx_28) (by simp only [znz] <;> rfl)) ?_
              refine dtp _ rfl (fun s => opD_fieldAddr fo60_4_u3b (ls rfl (ls rfl (ls rfl (ls rfl (ls rfl (os rfl (os rfl (os rfl oz))))))))) ?_
              refine dtlG1 ag9_u3b lz (loc_getN rfl rfl) rfl rfl ?_
              refine dtp _ rfl (fun s => opD_str_bytes Tryd.underlying9 Tryd.underlying23 Tryd.underlying5 lz) ?_
              replace hz_24 := bnd_some hz_24
              obtain ⟨x_29, hx_29, hz_24⟩ := hz_24
              refine dta _ rfl (opD_adopt (j := 0) (kb_I _) (opD_own1 ht30_u3b (c_oRputs hx_29) ⟨(le_of_eq (ls rfl (ls rfl (ls rfl lz)))).trans (sl_any _ _ _ _), (le_of_eq lz).trans (sl_any _ _ _ _), trivial⟩ (by first | exact List.length_nil | (simp only [List.length_cons, List.length_nil, Nat.zero_add, Nat.reduceAdd] <;> rfl)) rfl) (by first | exact List.length_nil | (simp only [List.length_cons, List.length_nil, Nat.zero_add, Nat.reduceAdd] <;> rfl)) rfl (len_oBytes hx_29) (by simp only [znz] <;> rfl)) ?_
              refine dtp _ rfl (fun s => opD_assign lz) ?_
              refine .nil ?_
              dsimp only [List.nil_append, List.cons_append]
              refine ⟨rfl, ⟨trivial, trivial, ⟨(by first | exact loc_getN rfl rfl | exact updx_get hlt | exact upd2_g hgh hlt | exact upd2_h hlt2), trivial⟩, trivial, trivial, trivial, ⟨(by first | exact loc_getN rfl rfl | exact updx_get hlt | exact upd2_g hgh hlt | exact upd2_h hlt2), (by first | exact loc_getN rfl rfl | exact updx_get hlt | exact upd2_g hgh hlt | exact upd2_h hlt2), trivial⟩, trivial, trivial, trivial, trivial⟩, ?_⟩
              refine aw_keep [(1, _), (4, _), (7, _)] ⟨lg (ls rfl (ls rfl (ls rfl (ls rfl (ls rfl (ls rfl (ls rfl (ls rfl (ls rfl (ls rfl oz)))))))))), lg lz, lg (ls rfl (ls rfl (ls rfl (ls rfl (ls rfl (ls rfl (ls rfl (ls rfl (ls rfl (ls rfl (os rfl (os rfl oz)))))))))))), trivial⟩ ?_
              refine aw_region (by decide) ?_
              refine rts _ rfl (opD_move (os rfl (os rfl oz))) ?_
              refine rts _ rfl (opD_add lz (ev_const _ _) rfl) ?_
              refine rts _ rfl (opD_assign lz) ?_
              refine .nil ?_
              obtain rfl := some_of hz_24
              replace hz_22 := ocs_l hz_22
              refine wk_yesN rfl (l := [(1, ptr (s.boxes.length + 0) 0), (4, sl (kI .u8) (some (s.fr.length + 0)) none x_29), (7, pl (.int .i64 (IntKind.i64.wrap (t_23.2 + 1))))]) (bs' := [⟨88, [pl (.int .i64 p0.Code), pl (.int .u64 p0.N), pl (.bool p0.Found), pl (.string p0.Value), sl kEnt none none p0.Rows, sl kRf none none p0.Refs, sl kLin none none p0.Lines]⟩]) ⟨le_of_eq (eg (ls rfl (ls rfl (ls rfl oz)))), le_of_eq (eg (ls rfl (ls rfl (ls rfl (os rfl oz))))), le_of_eq (eg lz), trivial⟩ (zbc (ptr_bnd _ (by first | omega | (simp only [List.length_append, List.length_cons, List.length_nil]; omega))) (zbc (sl_ob (kb_I _) (by first | omega | (simp only [List.length_append, List.length_cons, List.length_nil, ext_fr_length, upd_fr_length]; omega))) (zbc zPb bnd_nil))) (zNb rfl) (by simp only [znz] <;> rfl) (bxle_same bxle_nil) rfl (by simp only [znz] <;> rfl) (bl_cons (zbc zPb (zbc zPb (zbc zPb (zbc zPb (zbc (sl_b kb_Ent) (zbc (sl_b kb_Rf) (zbc (sl_b kb_Lin) bnd_nil))))))) bl_nil) ?_
              exact ⟨m_z_24, Nat.lt_succ_self _, (x_29, IntKind.i64.wrap (t_23.2 + 1)), ⟨le_of_eq (eg oz), le_of_eq (eg (os rfl oz)), le_of_eq (eg (os rfl (os rfl oz))), trivial⟩, rfl, hz_22⟩
            · skip
              replace hz_24 := ifb_f hz_24 hc
              clear hc
              refine aw_exit ?_
              obtain rfl := some_of hz_24
              replace hz_22 := ocs_r hz_22
              refine wk_no ?_
              refine wk_yesN rfl (l := [(4, sl (kI .u8) (some (s.fr.length + 0)) none t_23.1)]) (bs' := [⟨88, [pl (.int .i64 p0.Code), pl (.int .u64 p0.N), pl (.bool p0.Found), pl (.string p0.Value), sl kEnt none none p0.Rows, sl kRf none none p0.Refs, sl kLin none none p0.Lines]⟩]) ⟨le_of_eq (eg (os rfl oz)), trivial⟩ (zbc (sl_ob (kb_I _) (by first | omega | (simp only [List.length_append, List.length_cons, List.length_nil, ext_fr_length, upd_fr_length]; omega))) bnd_nil) (zNb rfl) (by simp only [znz] <;> rfl) (bxle_same bxle_nil) rfl (by simp only [znz] <;> rfl) (bl_cons (zbc zPb (zbc zPb (zbc zPb (zbc zPb (zbc (sl_b kb_Ent) (zbc (sl_b kb_Rf) (zbc (sl_b kb_Lin) bnd_nil))))))) bl_nil) ?_
              exact ⟨t_23.1, ⟨le_of_eq (eg oz), trivial⟩, rfl, some_of hz_22⟩
          · rintro e st ⟨vz_22, hH, rfl, rfl⟩
            refine aw_keep _ hH ?_
            refine aw_keep [(4, _)] ⟨lg oz, trivial⟩ ?_
            refine aw_seq ?_
            refine aw_region (by decide) ?_
            refine rts _ rfl (opD_move oz) ?_
            refine rts _ rfl (opD_assign lz) ?_
            refine rts _ rfl (opD_assign (ev_const _ _)) ?_
            refine .nil ?_
            refine aw_keep [(2, _), (3, _)] ⟨lg (ls rfl lz), lg lz, trivial⟩ ?_
            refine aw_ret ?_
            obtain rfl := some_of h0
            exact done_ext (.inr rfl) ((res_list (rs := [_, _]) (ps := [_, _]) rfl rfl ⟨it_tmp oz, it_tmp (os rfl oz), trivial⟩).le (tup_le ⟨(sl_any _ _ _ _), zLr, trivial⟩)) (tup_bnd (zbc (sl_b (kb_I _)) (zbc zPb bnd_nil)))

def F_rnum2 (p0 : Rdr) (p1 : Int) : Option (Rdr × Int) :=
  ifb p0.wrong_ (some (p0, 0)) (bnd (oDNum p0 p1) fun x_1 => some (x_1.1, x_1.2))
set_option maxRecDepth 100000 in
set_option maxHeartbeats 2000000 in
theorem c_rnum2 {p0 : Rdr} {p1 : Int} {R : Rdr × Int} (h0 : F_rnum2 p0 p1 = some R) : Pure Tryd.prog 99 [agg [sl (kI .u8) none none p0.b_, pl (.bool p0.wrong_)], pl (.int .u64 p1)] (tup [agg [sl (kI .u8) none none R.1.b_, pl (.bool R.1.wrong_)], pl (.int .u64 R.2)]) := by
  intro s
  unfold F_rnum2 at h0
  refine ac_of_aw s.boxes.length s.fr.length Tryd.func99 rfl (by simp [Tryd.ntmps99]) ?_
  refine aw_ext0 ?_
  refine aw_keep [(0, _), (1, _)] ⟨lg ez, lg (es ez), trivial⟩ ?_
  refine aw_seq ?_
  refine aw_region (by decide) ?_
  refine rts _ rfl (boxAN rfl oz (zbc (sl_b (kb_I _)) (zbc zPb bnd_nil)) (by first | exact List.length_nil | (simp only [List.length_cons, List.length_nil, Nat.zero_add, Nat.reduceAdd] <;> rfl)) (by simp only [znz] <;> rfl)) ?_
  refine rts _ rfl (allocN rfl zt41_u3b (by first | exact List.length_nil | (simp only [List.length_cons, List.length_nil, Nat.zero_add, Nat.reduceAdd] <;> rfl)) (by simp only [znz] <;> rfl)) ?_
  refine rts _ rfl (opD_assign (ev_const _ _)) ?_
  refine .nil ?_
  refine aw_keep [(1, _), (2, _), (4, _)] ⟨lg (ls rfl (ls rfl (ls rfl (os rfl oz)))), lg (ls rfl (ls rfl lz)), lg (ls rfl lz), trivial⟩ ?_
  refine aw_seq ?_
  refine aw_seq ?_
  refine aw_region (by decide) ?_
  refine rts _ rfl (opD_fieldAddr fo41_1_u3b (os rfl oz)) ?_
  refine rts _ rfl (opD_load_one ag4_u3b lz (loc_getN rfl rfl) rfl) ?_
  refine .nil ?_
  refine aw_keep [(1, _), (2, _), (4, _), (7, _)] ⟨lg (ls rfl (ls rfl oz)), lg (ls rfl (ls rfl (os rfl oz))), lg (ls rfl (ls rfl (os rfl (os rfl oz)))), lg lz, trivial⟩ ?_
  refine aw_cond _ (os rfl (os rfl (os rfl oz))) (fun hc => ?_) (fun hc => ?_)
  · skip
    replace h0 := ifb_t h0 hc
    clear hc
    refine aw_seq ?_
    refine aw_region (by decide) ?_
    refine rts _ rfl (opD_load_aggX (qs := [_, _]) ag41_u3b sz41_u3b (os rfl oz) (loc_getN rfl rfl) (zNb rfl) rfl) ?_
    refine rts _ rfl (storeAN rfl sz41_u3b (ls rfl (os rfl (os rfl oz))) lz (ones_cons (one_sl _ _ _ _) (ones_cons (one_pl rfl) ones_nil)) rfl rfl (zNb rfl) (List.cons_ne_nil _ _) (zbc (sl_b (kb_I _)) (zbc zPb bnd_nil)) (by simp only [znz] <;> rfl) (by simp only [znz] <;> rfl)) ?_
    refine rts _ rfl (opD_assign (ev_const _ _)) ?_
    refine .nil ?_
    refine aw_keep [(4, _), (5, _)] ⟨lg (ls rfl (lx (ls rfl (os rfl (os rfl oz))))), lg lz, trivial⟩ ?_
    refine aw_ret ?_
    obtain rfl := some_of h0
    exact done_ext (.inr rfl) ((res_list (rs := [_, _]) (ps := [_, _]) rfl rfl ⟨it_cellA (B := ⟨41, [_, _]⟩) ag41_u3b sz41_u3b oz (loc_getN rfl rfl) rfl, it_tmp (os rfl oz), trivial⟩).le (tup_le ⟨(agg_le ⟨zLr, zLr, trivial⟩), zLr, trivial⟩)) (tup_bnd (zbc (agg_bnd (zbc (sl_b (kb_I _)) (zbc zPb bnd_nil))) (zbc zPb bnd_nil)))
  · skip
    replace h0 := ifb_f h0 hc
    clear hc
    refine aw_skip ?_
    refine aw_keep [(1, _), (2, _), (4, _)] ⟨lg oz, lg (os rfl oz), lg (os rfl (os rfl oz)), trivial⟩ ?_
    refine aw_seq ?_
    refine aw_region (by decide) ?_
    refine rts _ rfl (opD_load_aggX (qs := [_, _]) ag41_u3b sz41_u3b (os rfl oz) (loc_getN rfl rfl) (zNb rfl) rfl) ?_
    refine rts _ rfl (opD_move (ls rfl oz)) ?_
    replace h0 := bnd_some h0
    obtain ⟨x_1, hx_1, h0⟩ := h0
    refine rts _ rfl (opD_pure ht32_u3b (c_oDNum hx_1) ⟨(le_of_eq (ls rfl lz)).trans (agg_le ⟨zLr, zLr, trivial⟩), le_of_eq lz, trivial⟩) ?_
    refine rts _ rfl (opD_extract lz rfl) ?_
    refine rts _ rfl (opD_extract (ls rfl lz) rfl) ?_
    refine rts _ rfl (storeAN rfl sz41_u3b (ls rfl (ls rfl (ls rfl (ls rfl (ls rfl (os rfl (os rfl oz))))))) (ls rfl lz) (ones_cons (one_sl _ _ _ _) (ones_cons (one_pl rfl) ones_nil)) rfl rfl (zNb rfl) (List.cons_ne_nil _ _) (zbc (sl_b (kb_I _)) (zbc zPb bnd_nil)) (by simp only [znz] <;> rfl) (by simp only [znz] <;> rfl)) ?_
    refine rts _ rfl (opD_assign (lx lz)) ?_
    refine .nil ?_
    refine aw_keep [(4, _), (5, _)] ⟨lg (ls rfl (lx (ls rfl (ls rfl (ls rfl (ls rfl (ls rfl (os rfl (os rfl oz))))))))), lg lz, trivial⟩ ?_
    refine aw_ret ?_
    obtain rfl := some_of h0
    exact done_ext (.inr rfl) ((res_list (rs := [_, _]) (ps := [_, _]) rfl rfl ⟨it_cellA (B := ⟨41, [_, _]⟩) ag41_u3b sz41_u3b oz (loc_getN rfl rfl) rfl, it_tmp (os rfl oz), trivial⟩).le (tup_le ⟨(agg_le ⟨zLr, zLr, trivial⟩), zLr, trivial⟩)) (tup_bnd (zbc (agg_bnd (zbc (sl_b (kb_I _)) (zbc zPb bnd_nil))) (zbc zPb bnd_nil)))

def F_rtext2 (p0 : Rdr) : Option (Rdr × ByteArray) :=
  ifb p0.wrong_ (some (p0, ⟨#[]⟩)) (bnd (oDBytes p0 2048) fun x_1 => some (x_1.1, (strOf x_1.2)))
set_option maxRecDepth 100000 in
set_option maxHeartbeats 2000000 in
theorem c_rtext2 {p0 : Rdr} {R : Rdr × ByteArray} (h0 : F_rtext2 p0 = some R) : Pure Tryd.prog 101 [agg [sl (kI .u8) none none p0.b_, pl (.bool p0.wrong_)]] (tup [agg [sl (kI .u8) none none R.1.b_, pl (.bool R.1.wrong_)], pl (.string R.2)]) := by
  intro s
  unfold F_rtext2 at h0
  refine ac_of_aw s.boxes.length s.fr.length Tryd.func101 rfl (by simp [Tryd.ntmps101]) ?_
  refine aw_ext0 ?_
  refine aw_keep [(0, _)] ⟨lg ez, trivial⟩ ?_
  refine aw_seq ?_
  refine aw_region (by decide) ?_
  refine rts _ rfl (boxAN rfl oz (zbc (sl_b (kb_I _)) (zbc zPb bnd_nil)) (by first | exact List.length_nil | (simp only [List.length_cons, List.length_nil, Nat.zero_add, Nat.reduceAdd] <;> rfl)) (by simp only [znz] <;> rfl)) ?_
  refine rts _ rfl (allocN rfl zt41_u3b (by first | exact List.length_nil | (simp only [List.length_cons, List.length_nil, Nat.zero_add, Nat.reduceAdd] <;> rfl)) (by simp only [znz] <;> rfl)) ?_
  refine rts _ rfl (opD_assign (ev_const _ _)) ?_
  refine .nil ?_
  refine aw_keep [(1, _), (2, _)] ⟨lg (ls rfl (ls rfl lz)), lg (ls rfl lz), trivial⟩ ?_
  refine aw_seq ?_
  refine aw_seq ?_
  refine aw_region (by decide) ?_
  refine rts _ rfl (opD_fieldAddr fo41_1_u3b oz) ?_
  refine rts _ rfl (opD_load_one ag4_u3b lz (loc_getN rfl rfl) rfl) ?_
  refine .nil ?_
  refine aw_keep [(1, _), (2, _), (6, _)] ⟨lg (ls rfl (ls rfl oz)), lg (ls rfl (ls rfl (os rfl oz))), lg lz, trivial⟩ ?_
  refine aw_cond _ (os rfl (os rfl oz)) (fun hc => ?_) (fun hc => ?_)
  · skip
    replace h0 := ifb_t h0 hc
    clear hc
    refine aw_seq ?_
    refine aw_region (by decide) ?_
    refine rts _ rfl (opD_load_aggX (qs := [_, _]) ag41_u3b sz41_u3b oz (loc_getN rfl rfl) (zNb rfl) rfl) ?_
    refine rts _ rfl (storeAN rfl sz41_u3b (ls rfl (os rfl oz)) lz (ones_cons (one_sl _ _ _ _) (ones_cons (one_pl rfl) ones_nil)) rfl rfl (zNb rfl) (List.cons_ne_nil _ _) (zbc (sl_b (kb_I _)) (zbc zPb bnd_nil)) (by simp only [znz] <;> rfl) (by simp only [znz] <;> rfl)) ?_
    refine rts _ rfl (opD_assign (ev_const _ _)) ?_
    refine .nil ?_
    refine aw_keep [(2, _), (3, _)] ⟨lg (ls rfl (lx (ls rfl (os rfl oz)))), lg lz, trivial⟩ ?_
    refine aw_ret ?_
    obtain rfl := some_of h0
    exact done_ext (.inr rfl) ((res_list (rs := [_, _]) (ps := [_, _]) rfl rfl ⟨it_cellA (B := ⟨41, [_, _]⟩) ag41_u3b sz41_u3b oz (loc_getN rfl rfl) rfl, it_tmp (os rfl oz), trivial⟩).le (tup_le ⟨(agg_le ⟨zLr, zLr, trivial⟩), zLr, trivial⟩)) (tup_bnd (zbc (agg_bnd (zbc (sl_b (kb_I _)) (zbc zPb bnd_nil))) (zbc zPb bnd_nil)))
  · skip
    replace h0 := ifb_f h0 hc
    clear hc
    refine aw_skip ?_
    refine aw_keep [(1, _), (2, _)] ⟨lg oz, lg (os rfl oz), trivial⟩ ?_
    refine aw_seq ?_
    refine aw_region (by decide) ?_
    refine rts _ rfl (opD_load_aggX (qs := [_, _]) ag41_u3b sz41_u3b oz (loc_getN rfl rfl) (zNb rfl) rfl) ?_
    replace h0 := bnd_some h0
    obtain ⟨x_1, hx_1, h0⟩ := h0
    refine rts _ rfl (opD_pure ht33_u3b (c_oDBytes hx_1) ⟨(le_of_eq lz).trans (agg_le ⟨zLr, zLr, trivial⟩), le_of_eq (ev_const _ _), trivial⟩) ?_
    refine rts _ rfl (opD_move lz) ?_
    refine rts _ rfl (opD_extract lz rfl) ?_
    refine rts _ rfl (opD_extract (ls rfl lz) rfl) ?_
    refine rts _ rfl (storeAN rfl sz41_u3b (ls rfl (ls rfl (ls rfl (ls rfl (ls rfl oz))))) (ls rfl lz) (ones_cons (one_sl _ _ _ _) (ones_cons (one_pl rfl) ones_nil)) rfl rfl (zNb rfl) (List.cons_ne_nil _ _) (zbc (sl_b (kb_I _)) (zbc zPb bnd_nil)) (by simp only [znz] <;> rfl) (by simp only [znz] <;> rfl)) ?_
    refine rts _ rfl (opD_assign (lx lz)) ?_
    refine .nil ?_
    refine aw_keep [(1, _), (2, _), (4, _)] ⟨lg (ls rfl (lx (ls rfl (ls rfl (ls rfl (ls rfl (ls rfl oz))))))), lg (ls rfl (lx (ls rfl (ls rfl (ls rfl (ls rfl (ls rfl (os rfl oz)))))))), lg lz, trivial⟩ ?_
    refine aw_seq ?_
    refine aw_drawn [false, false, false, true, false] [[0], [0, 1], [0, 1], [0, 1], [1]] mixed_u3b (by decide +kernel) ?_
    refine dtlGA (qs := [_, _]) ag41_u3b sz41_u3b oz (loc_getN rfl rfl) (zNb rfl) rfl rfl ?_
    refine dtp _ rfl (fun s => opD_move (ls rfl (os rfl (os rfl oz)))) ?_
    refine dtp _ rfl (fun s => opD_bytes_str Tryd.underlying23 Tryd.underlying5 Tryd.underlying9 lz) ?_
    refine dta _ rfl (storeAN rfl sz41_u3b (ls rfl (ls rfl (ls rfl (os rfl oz)))) (ls rfl (ls rfl lz)) (ones_cons (one_sl _ _ _ _) (ones_cons (one_pl rfl) ones_nil)) rfl rfl (zNb rfl) (List.cons_ne_nil _ _) (zbc (sl_b (kb_I _)) (zbc zPb bnd_nil)) (by simp only [znz] <;> rfl) (by simp only [znz] <;> rfl)) ?_
    refine dtp _ rfl (fun s => opD_assign (lx lz)) ?_
    refine .nil ?_
    dsimp only [List.nil_append, List.cons_append]
    refine ⟨rfl, ⟨⟨(by first | exact loc_getN rfl rfl | exact updx_get hlt | exact upd2_g hgh hlt | exact upd2_h hlt2), trivial⟩, trivial, trivial, trivial, trivial, trivial⟩, ?_⟩
    refine aw_keep [(2, _), (3, _)] ⟨lg (ls rfl (lx (ls rfl (ls rfl (ls rfl (os rfl oz)))))), lg lz, trivial⟩ ?_
    refine aw_ret ?_
    obtain rfl := some_of h0
    exact done_ext (.inr rfl) ((res_list (rs := [_, _]) (ps := [_, _]) rfl rfl ⟨it_cellA (B := ⟨41, [_, _]⟩) ag41_u3b sz41_u3b oz (loc_getN rfl rfl) rfl, it_tmp (os rfl oz), trivial⟩).le (tup_le ⟨(agg_le ⟨zLr, zLr, trivial⟩), zLr, trivial⟩)) (tup_bnd (zbc (agg_bnd (zbc (sl_b (kb_I _)) (zbc zPb bnd_nil))) (zbc zPb bnd_nil)))

def F_rone2 (p0 : Rdr) : Option (Rdr × Int) :=
  ifb p0.wrong_ (some (p0, 0)) (bnd (oDByte p0) fun x_1 => some (x_1.1, x_1.2))
set_option maxRecDepth 100000 in
set_option maxHeartbeats 2000000 in
theorem c_rone2 {p0 : Rdr} {R : Rdr × Int} (h0 : F_rone2 p0 = some R) : Pure Tryd.prog 100 [agg [sl (kI .u8) none none p0.b_, pl (.bool p0.wrong_)]] (tup [agg [sl (kI .u8) none none R.1.b_, pl (.bool R.1.wrong_)], pl (.int .u8 R.2)]) := by
  intro s
  unfold F_rone2 at h0
  refine ac_of_aw s.boxes.length s.fr.length Tryd.func100 rfl (by simp [Tryd.ntmps100]) ?_
  refine aw_ext0 ?_
  refine aw_keep [(0, _)] ⟨lg ez, trivial⟩ ?_
  refine aw_seq ?_
  refine aw_region (by decide) ?_
  refine rts _ rfl (boxAN rfl oz (zbc (sl_b (kb_I _)) (zbc zPb bnd_nil)) (by first | exact List.length_nil | (simp only [List.length_cons, List.length_nil, Nat.zero_add, Nat.reduceAdd] <;> rfl)) (by simp only [znz] <;> rfl)) ?_
  refine rts _ rfl (allocN rfl zt41_u3b (by first | exact List.length_nil | (simp only [List.length_cons, List.length_nil, Nat.zero_add, Nat.reduceAdd] <;> rfl)) (by simp only [znz] <;> rfl)) ?_
  refine rts _ rfl (opD_assign (ev_const _ _)) ?_
  refine .nil ?_
  refine aw_keep [(1, _), (2, _)] ⟨lg (ls rfl (ls rfl lz)), lg (ls rfl lz), trivial⟩ ?_
  refine aw_seq ?_
  refine aw_seq ?_
  refine aw_region (by decide) ?_
  refine rts _ rfl (opD_fieldAddr fo41_1_u3b oz) ?_
  refine rts _ rfl (opD_load_one ag4_u3b lz (loc_getN rfl rfl) rfl) ?_
  refine .nil ?_
  refine aw_keep [(1, _), (2, _), (5, _)] ⟨lg (ls rfl (ls rfl oz)), lg (ls rfl (ls rfl (os rfl oz))), lg lz, trivial⟩ ?_
  refine aw_cond _ (os rfl (os rfl oz)) (fun hc => ?_) (fun hc => ?_)
  · skip
    replace h0 := ifb_t h0 hc
    clear hc
    refine aw_seq ?_
    refine aw_region (by decide) ?_
    refine rts _ rfl (opD_load_aggX (qs := [_, _]) ag41_u3b sz41_u3b oz (loc_getN rfl rfl) (zNb rfl) rfl) ?_
    refine rts _ rfl (storeAN rfl sz41_u3b (ls rfl (os rfl oz)) lz (ones_cons (one_sl _ _ _ _) (ones_cons (one_pl rfl) ones_nil)) rfl rfl (zNb rfl) (List.cons_ne_nil _ _) (zbc (sl_b (kb_I _)) (zbc zPb bnd_nil)) (by simp only [znz] <;> rfl) (by simp only [znz] <;> rfl)) ?_
    refine rts _ rfl (opD_assign (ev_const _ _)) ?_
    refine .nil ?_
    refine aw_keep [(2, _), (3, _)] ⟨lg (ls rfl (lx (ls rfl (os rfl oz)))), lg lz, trivial⟩ ?_
    refine aw_ret ?_
    obtain rfl := some_of h0
    exact done_ext (.inr rfl) ((res_list (rs := [_, _]) (ps := [_, _]) rfl rfl ⟨it_cellA (B := ⟨41, [_, _]⟩) ag41_u3b sz41_u3b oz (loc_getN rfl rfl) rfl, it_tmp (os rfl oz), trivial⟩).le (tup_le ⟨(agg_le ⟨zLr, zLr, trivial⟩), zLr, trivial⟩)) (tup_bnd (zbc (agg_bnd (zbc (sl_b (kb_I _)) (zbc zPb bnd_nil))) (zbc zPb bnd_nil)))
  · skip
    replace h0 := ifb_f h0 hc
    clear hc
    refine aw_skip ?_
    refine aw_keep [(1, _), (2, _)] ⟨lg oz, lg (os rfl oz), trivial⟩ ?_
    refine aw_seq ?_
    refine aw_region (by decide) ?_
    refine rts _ rfl (opD_load_aggX (qs := [_, _]) ag41_u3b sz41_u3b oz (loc_getN rfl rfl) (zNb rfl) rfl) ?_
    replace h0 := bnd_some h0
    obtain ⟨x_1, hx_1, h0⟩ := h0
    refine rts _ rfl (opD_pure ht31_u3b (c_oDByte hx_1) ⟨(le_of_eq lz).trans (agg_le ⟨zLr, zLr, trivial⟩), trivial⟩) ?_
    refine rts _ rfl (opD_extract lz rfl) ?_
    refine rts _ rfl (opD_extract (ls rfl lz) rfl) ?_
    refine rts _ rfl (storeAN rfl sz41_u3b (ls rfl (ls rfl (ls rfl (ls rfl (os rfl oz))))) (ls rfl lz) (ones_cons (one_sl _ _ _ _) (ones_cons (one_pl rfl) ones_nil)) rfl rfl (zNb rfl) (List.cons_ne_nil _ _) (zbc (sl_b (kb_I _)) (zbc zPb bnd_nil)) (by simp only [znz] <;> rfl) (by simp only [znz] <;> rfl)) ?_
    refine rts _ rfl (opD_assign (lx lz)) ?_
    refine .nil ?_
    refine aw_keep [(2, _), (3, _)] ⟨lg (ls rfl (lx (ls rfl (ls rfl (ls rfl (ls rfl (os rfl oz))))))), lg lz, trivial⟩ ?_
    refine aw_ret ?_
    obtain rfl := some_of h0
    exact done_ext (.inr rfl) ((res_list (rs := [_, _]) (ps := [_, _]) rfl rfl ⟨it_cellA (B := ⟨41, [_, _]⟩) ag41_u3b sz41_u3b oz (loc_getN rfl rfl) rfl, it_tmp (os rfl oz), trivial⟩).le (tup_le ⟨(agg_le ⟨zLr, zLr, trivial⟩), zLr, trivial⟩)) (tup_bnd (zbc (agg_bnd (zbc (sl_b (kb_I _)) (zbc zPb bnd_nil))) (zbc zPb bnd_nil)))

def F_rdec2_b0 (x_5 : (Rdr × Int)) (t_7 : Int × (List Ent) × Rdr) : Option ((Int × (List Ent) × Rdr) ⊕ (((List Ent) × Rdr))) :=
  ifb (decide (t_7.1 < x_5.2)) (bnd (F_rtext2 t_7.2.2) fun x_9 => bnd (F_rtext2 x_9.1) fun x_10 => grd (Fits 32 (t_7.2.1.length + ([(⟨x_9.2, x_10.2⟩ : Ent)] : (List Ent)).length)) <| some (.inl (IntKind.u64.wrap (t_7.1 + 1), (t_7.2.1 ++ ([(⟨x_9.2, x_10.2⟩ : Ent)] : (List Ent))), x_10.1))) (some (.inr (t_7.2.1, t_7.2.2)))
def F_rdec2_b1 (x_11 : (Rdr × Int)) (t_13 : Int × (List Rf) × Rdr) : Option ((Int × (List Rf) × Rdr) ⊕ (((List Rf) × Rdr))) :=
  ifb (decide (t_13.1 < x_11.2)) (bnd (F_rone2 t_13.2.2) fun x_15 => bnd (F_rnum2 x_15.1 4611686018427387904) fun x_16 => grd (Fits 16 (t_13.2.1.length + ([(⟨IntKind.i64.wrap (x_15.2), x_16.2⟩ : Rf)] : (List Rf)).length)) <| some (.inl (IntKind.u64.wrap (t_13.1 + 1), (t_13.2.1 ++ ([(⟨IntKind.i64.wrap (x_15.2), x_16.2⟩ : Rf)] : (List Rf))), x_16.1))) (some (.inr (t_13.2.1, t_13.2.2)))
def F_rdec2_b2 (x_17 : (Rdr × Int)) (t_19 : Int × (List Lin) × Rdr) : Option ((Int × (List Lin) × Rdr) ⊕ (((List Lin) × Rdr))) :=
  ifb (decide (t_19.1 < x_17.2)) (bnd (F_rnum2 t_19.2.2 4611686018427387904) fun x_21 => bnd (F_rnum2 x_21.1 4611686018427387904) fun x_22 => bnd (F_rone2 x_22.1) fun x_23 => bnd (F_rnum2 x_23.1 65535) fun x_24 => bnd (F_rtext2 x_24.1) fun x_25 => grd (Fits 40 (t_19.2.1.length + ([(⟨x_21.2, x_22.2, x_23.2, IntKind.u16.wrap (x_24.2), x_25.2⟩ : Lin)] : (List Lin)).length)) <| some (.inl (IntKind.u64.wrap (t_19.1 + 1), (t_19.2.1 ++ ([(⟨x_21.2, x_22.2, x_23.2, IntKind.u16.wrap (x_24.2), x_25.2⟩ : Lin)] : (List Lin))), x_25.1))) (some (.inr (t_19.2.1, t_19.2.2)))
def F_rdec2 (fl : Nat) (p0 : (List Int)) : Option (Rpl × Int) :=
  bnd (F_rnum2 (⟨p0, false⟩ : Rdr) 65535) fun x_1 => bnd (F_rnum2 x_1.1 4611686018427387904) fun x_2 => bnd (F_rone2 x_2.1) fun x_3 => bnd (F_rtext2 x_3.1) fun x_4 => bnd (F_rnum2 x_4.1 64) fun x_5 => bnd (lp (F_rdec2_b0 x_5) fl (0, ([] : (List Ent)), x_5.1)) fun z_6 => bnd (F_rnum2 z_6.2 64) fun x_11 => bnd (lp (F_rdec2_b1 x_11) fl (0, ([] : (List Rf)), x_11.1)) fun z_12 => bnd (F_rnum2 z_12.2 32) fun x_17 => bnd (lp (F_rdec2_b2 x_17) fl (0, ([] : (List Lin)), x_17.1)) fun z_18 => bnd (F_renc2 fl (⟨IntKind.i64.wrap (x_1.2), x_2.2, (decide (x_3.2 = 1)), x_4.2, z_6.1, z_12.1, z_18.1⟩ : Rpl)) fun x_26 => bnd (oDDone z_18.2) fun x_27 => ifb (((!x_27) || (decide (x_26.2 ≠ 0))) || (decide ((strOf x_26.1) ≠ (strOf p0)))) (some ((⟨0, 0, false, ⟨#[]⟩, [], [], []⟩ : Rpl), 3)) (some ((⟨IntKind.i64.wrap (x_1.2), x_2.2, (decide (x_3.2 = 1)), x_4.2, z_6.1, z_12.1, z_18.1⟩ : Rpl), 0))
set_option maxRecDepth 100000 in
set_option maxHeartbeats 2000000 in
theorem c_rdec2 {fl : Nat} {p0 : (List Int)} {R : Rpl × Int} (h0 : F_rdec2 fl p0 = some R) : Pure Tryd.prog 55 [sl (kI .u8) none none p0] (tup [agg [pl (.int .i64 R.1.Code), pl (.int .u64 R.1.N), pl (.bool R.1.Found), pl (.string R.1.Value), sl kEnt none none R.1.Rows, sl kRf none none R.1.Refs, sl kLin none none R.1.Lines], pl (.int .i64 R.2)]) := by
  intro s
  unfold F_rdec2 at h0
  refine ac_of_aw s.boxes.length s.fr.length Tryd.func55 rfl (by simp [Tryd.ntmps55]) ?_
  refine aw_ext0 ?_
  refine aw_keep [(0, _)] ⟨lg ez, trivial⟩ ?_
  refine aw_seq ?_
  refine aw_region (by decide) ?_
  refine rts _ rfl (allocN rfl zt88_u3b (by first | exact List.length_nil | (simp only [List.length_cons, List.length_nil, Nat.zero_add, Nat.reduceAdd] <;> rfl)) (by simp only [znz] <;> rfl)) ?_
  refine rts _ rfl (opD_assign (ev_const _ _)) ?_
  refine .nil ?_
  refine aw_keep [(0, _), (2, _)] ⟨lg (ls rfl (ls rfl oz)), lg (ls rfl lz), trivial⟩ ?_
  refine aw_seq ?_
  refine aw_region (by decide) ?_
  refine rts _ rfl (allocN rfl zt88_u3b (by first | exact List.length_nil | (simp only [List.length_cons, List.length_nil, Nat.zero_add, Nat.reduceAdd] <;> rfl)) (by simp only [znz] <;> rfl)) ?_
  refine .nil ?_
  refine aw_keep [(0, _), (2, _), (4, _)] ⟨lg (ls rfl oz), lg (ls rfl (os rfl oz)), lg lz, trivial⟩ ?_
  refine aw_seq ?_
  refine aw_region (by decide) ?_
  refine rts _ rfl (opD_move oz) ?_
  refine rts _ rfl (opD_build_struct (rs := [_, _]) Tryd.underlying41 pt41_u3b zt41_u3b (parts_cons (cells1 lz (one_sl _ _ _ _)) parts_nil) rfl) ?_
  replace h0 := bnd_some h0
  obtain ⟨x_1, hx_1, h0⟩ := h0
  refine rts _ rfl (opD_pure ht99_u3b (c_rnum2 hx_1) ⟨(le_of_eq lz).trans (agg_le ⟨zLr, zLr, trivial⟩), le_of_eq (ev_const _ _), trivial⟩) ?_
  refine rts _ rfl (opD_move lz) ?_
  refine rts _ rfl (opD_extract lz rfl) ?_
  refine rts _ rfl (opD_extract (ls rfl lz) rfl) ?_
  refine rts _ rfl (allocN rfl zt41_u3b (by first | exact List.length_nil | (simp only [List.length_cons, List.length_nil, Nat.zero_add, Nat.reduceAdd] <;> rfl)) (by simp only [znz] <;> rfl)) ?_
  refine rts _ rfl (storeAN rfl sz41_u3b lz (ls rfl (ls rfl lz)) (ones_cons (one_sl _ _ _ _) (ones_cons (one_pl rfl) ones_nil)) rfl rfl (zNb rfl) (List.cons_ne_nil _ _) (zbc (sl_b (kb_I _)) (zbc zPb bnd_nil)) (by simp only [znz] <;> rfl) (by simp only [znz] <;> rfl)) ?_
  refine rts _ rfl (opD_assign (lx (ls rfl lz))) ?_
  refine .nil ?_
  refine aw_keep [(0, _), (2, _), (4, _), (5, _), (6, _)] ⟨lg (ls rfl (lx (ls rfl (ls rfl (ls rfl (ls rfl (ls rfl (ls rfl (ls rfl oz))))))))), lg (ls rfl (lx (ls rfl (ls rfl (ls rfl (ls rfl (ls rfl (ls rfl (ls rfl (os rfl oz)))))))))), lg (ls rfl (lx (ls rfl (ls rfl (ls rfl (ls rfl (ls rfl (ls rfl (ls rfl (os rfl (os rfl oz))))))))))), lg (ls rfl (lx lz)), lg lz, trivial⟩ ?_
  refine aw_seq ?_
  refine aw_region (by decide) ?_
  refine rts _ rfl (opD_load_aggX (qs := [_, _]) ag41_u3b sz41_u3b (os rfl (os rfl (os rfl oz))) (loc_getN rfl rfl) (zNb rfl) rfl) ?_
  replace h0 := bnd_some h0
  obtain ⟨x_2, hx_2, h0⟩ := h0
  refine rts _ rfl (opD_pure ht99_u3b (c_rnum2 hx_2) ⟨(le_of_eq lz).trans (agg_le ⟨zLr, zLr, trivial⟩), le_of_eq (ev_const _ _), trivial⟩) ?_
  refine rts _ rfl (opD_move lz) ?_
  refine rts _ rfl (opD_extract lz rfl) ?_
  refine rts _ rfl (opD_extract (ls rfl lz) rfl) ?_
  refine rts _ rfl (storeAN rfl sz41_u3b (ls rfl (ls rfl (ls rfl (ls rfl (ls rfl (os rfl (os rfl (os rfl oz)))))))) (ls rfl lz) (ones_cons (one_sl _ _ _ _) (ones_cons (one_pl rfl) ones_nil)) rfl rfl (zNb rfl) (List.cons_ne_nil _ _) (zbc (sl_b (kb_I _)) (zbc zPb bnd_nil)) (by simp only [znz] <;> rfl) (by simp only [znz] <;> rfl)) ?_
  refine rts _ rfl (opD_fieldAddr fo88_1_u3b (lx (ls rfl (ls rfl (ls rfl (ls rfl (ls rfl (os rfl (os rfl oz))))))))) ?_
  refine rts _ rfl (storeON rfl sz22_u3b lz (le_of_eq (ls rfl (lx lz))) (one_pl rfl) rfl (zNb rfl) zPb (by simp only [znz] <;> rfl) (by simp only [znz] <;> rfl)) ?_
  refine .nil ?_
  refine aw_keep [(0, _), (2, _), (4, _), (5, _), (6, _)] ⟨lg (lx (ls rfl (lx (ls rfl (ls rfl (ls rfl (ls rfl (ls rfl oz)))))))), lg (lx (ls rfl (lx (ls rfl (ls rfl (ls rfl (ls rfl (ls rfl (os rfl oz))))))))), lg (lx (ls rfl (lx (ls rfl (ls rfl (ls rfl (ls rfl (ls rfl (os rfl (os rfl oz)))))))))), lg (lx (ls rfl (lx (ls rfl (ls rfl (ls rfl (ls rfl (ls rfl (os rfl (os rfl (os rfl oz))))))))))), lg (lx (ls rfl (lx (ls rfl (ls rfl (ls rfl (ls rfl (ls rfl (os rfl (os rfl (os rfl (os rfl oz)))))))))))), trivial⟩ ?_
  refine aw_seq ?_
  refine aw_region (by decide) ?_
  refine rts _ rfl (opD_load_aggX (qs := [_, _]) ag41_u3b sz41_u3b (os rfl (os rfl (os rfl oz))) (loc_getN rfl rfl) (zNb rfl) rfl) ?_
  replace h0 := bnd_some h0
  obtain ⟨x_3, hx_3, h0⟩ := h0
  refine rts _ rfl (opD_pure ht100_u3b (c_rone2 hx_3) ⟨(le_of_eq lz).trans (agg_le ⟨zLr, zLr, trivial⟩), trivial⟩) ?_
  refine rts _ rfl (opD_move lz) ?_
  refine rts _ rfl (opD_extract lz rfl) ?_
  refine rts _ rfl (opD_extract (ls rfl lz) rfl) ?_
  refine rts _ rfl (storeAN rfl sz41_u3b (ls rfl (ls rfl (ls rfl (ls rfl (ls rfl (os rfl (os rfl (os rfl oz)))))))) (ls rfl lz) (ones_cons (one_sl _ _ _ _) (ones_cons (one_pl rfl) ones_nil)) rfl rfl (zNb rfl) (List.cons_ne_nil _ _) (zbc (sl_b (kb_I _)) (zbc zPb bnd_nil)) (by simp only [znz] <;> rfl) (by simp only [znz] <;> rfl)) ?_
  refine rts _ rfl (opD_assign (lx lz)) ?_
  refine .nil ?_
  refine aw_keep [(0, _), (2, _), (4, _), (5, _), (6, _), (7, _)] ⟨lg (ls rfl (lx (ls rfl (ls rfl (ls rfl (ls rfl (ls rfl oz))))))), lg (ls rfl (lx (ls rfl (ls rfl (ls rfl (ls rfl (ls rfl (os rfl oz)))))))), lg (ls rfl (lx (ls rfl (ls rfl (ls rfl (ls rfl (ls rfl (os rfl (os rfl oz))))))))), lg (ls rfl (lx (ls rfl (ls rfl (ls rfl (ls rfl (ls rfl (os rfl (os rfl (os rfl oz)))))))))), lg (ls rfl (lx (ls rfl (ls rfl (ls rfl (ls rfl (ls rfl (os rfl (os rfl (os rfl (os rfl oz))))))))))), lg lz, trivial⟩ ?_
  refine aw_seq ?_
  refine aw_region (by decide) ?_
  refine rts _ rfl (opD_move (os rfl (os rfl (os rfl (os rfl oz))))) ?_
  refine rts _ rfl (opD_conv_int Tryd.underlying22 Tryd.underlying3 lz rfl) ?_
  refine rts _ rfl (opD_move (ls rfl (ls rfl (os rfl (os rfl (os rfl (os rfl (os rfl oz)))))))) ?_
  refine rts _ rfl (opD_eql lz (ev_const _ _)) ?_
  refine rts _ rfl (opD_fieldAddr fo88_0_u3b (ls rfl (ls rfl (ls rfl (ls rfl (os rfl (os rfl oz))))))) ?_
  refine rts _ rfl (storeON rfl sz3_u3b lz (le_of_eq (ls rfl (ls rfl (ls rfl lz)))) (one_pl rfl) rfl (zNb rfl) zPb (by simp only [znz] <;> rfl) (by simp only [znz] <;> rfl)) ?_
  refine rts _ rfl (opD_fieldAddr fo88_2_u3b (lx (ls rfl (ls rfl (ls rfl (ls rfl (ls rfl (os rfl (os rfl oz))))))))) ?_
  refine rts _ rfl (storeON rfl sz4_u3b lz (le_of_eq (ls rfl (lx (ls rfl lz)))) (one_pl rfl) rfl (zNb rfl) zPb (by simp only [znz] <;> rfl) (by simp only [znz] <;> rfl)) ?_
  refine .nil ?_
  refine aw_keep [(0, _), (2, _), (4, _), (5, _)] ⟨lg (lx (ls rfl (lx (ls rfl (ls rfl (ls rfl (ls rfl (ls rfl oz)))))))), lg (lx (ls rfl (lx (ls rfl (ls rfl (ls rfl (ls rfl (ls rfl (os rfl oz))))))))), lg (lx (ls rfl (lx (ls rfl (ls rfl (ls rfl (ls rfl (ls rfl (os rfl (os rfl oz)))))))))), lg (lx (ls rfl (lx (ls rfl (ls rfl (ls rfl (ls rfl (ls rfl (os rfl (os rfl (os rfl oz))))))))))), trivial⟩ ?_
  refine aw_seq ?_
  refine aw_region (by decide) ?_
  refine rts _ rfl (opD_load_aggX (qs := [_, _]) ag41_u3b sz41_u3b (os rfl (os rfl (os rfl oz))) (loc_getN rfl rfl) (zNb rfl) rfl) ?_
  replace h0 := bnd_some h0
  obtain ⟨x_4, hx_4, h0⟩ := h0
  refine rts _ rfl (opD_pure ht101_u3b (c_rtext2 hx_4) ⟨(le_of_eq lz).trans (agg_le ⟨zLr, zLr, trivial⟩), trivial⟩) ?_
  refine rts _ rfl (opD_move lz) ?_
  refine rts _ rfl (opD_extract lz rfl) ?_
  refine rts _ rfl (opD_extract (ls rfl lz) rfl) ?_
  refine rts _ rfl (storeAN rfl sz41_u3b (ls rfl (ls rfl (ls rfl (ls rfl (ls rfl (os rfl (os rfl (os rfl oz)))))))) (ls rfl lz) (ones_cons (one_sl _ _ _ _) (ones_cons (one_pl rfl) ones_nil)) rfl rfl (zNb rfl) (List.cons_ne_nil _ _) (zbc (sl_b (kb_I _)) (zbc zPb bnd_nil)) (by simp only [znz] <;> rfl) (by simp only [znz] <;> rfl)) ?_
  refine rts _ rfl (opD_fieldAddr fo88_3_u3b (lx (ls rfl (ls rfl (ls rfl (ls rfl (ls rfl (os rfl (os rfl oz))))))))) ?_
  refine rts _ rfl (storeON rfl sz9_u3b lz (le_of_eq (ls rfl (lx lz))) (one_pl rfl) rfl (zNb rfl) zPb (by simp only [znz] <;> rfl) (by simp only [znz] <;> rfl)) ?_
  refine .nil ?_
  refine aw_keep [(0, _), (2, _), (4, _), (5, _)] ⟨lg (lx (ls rfl (lx (ls rfl (ls rfl (ls rfl (ls rfl (ls rfl oz)))))))), lg (lx (ls rfl (lx (ls rfl (ls rfl (ls rfl (ls rfl (ls rfl (os rfl oz))))))))), lg (lx (ls rfl (lx (ls rfl (ls rfl (ls rfl (ls rfl (ls rfl (os rfl (os rfl oz)))))))))), lg (lx (ls rfl (lx (ls rfl (ls rfl (ls rfl (ls rfl (ls rfl (os rfl (os rfl (os rfl oz))))))))))), trivial⟩ ?_
  refine aw_seq ?_
  refine aw_region (by decide) ?_
  refine rts _ rfl (opD_load_aggX (qs := [_, _]) ag41_u3b sz41_u3b (os rfl (os rfl (os rfl oz))) (loc_getN rfl rfl) (zNb rfl) rfl) ?_
  replace h0 := bnd_some h0
  obtain ⟨x_5, hx_5, h0⟩ := h0
  refine rts _ rfl (opD_pure ht99_u3b (c_rnum2 hx_5) ⟨(le_of_eq lz).trans (agg_le ⟨zLr, zLr, trivial⟩), le_of_eq (ev_const _ _), trivial⟩) ?_
  refine rts _ rfl (opD_move lz) ?_
  refine rts _ rfl (opD_extract lz rfl) ?_
  refine rts _ rfl (opD_extract (ls rfl lz) rfl) ?_
  refine rts _ rfl (storeAN rfl sz41_u3b (ls rfl (ls rfl (ls rfl (ls rfl (ls rfl (os rfl (os rfl (os rfl oz)))))))) (ls rfl lz) (ones_cons (one_sl _ _ _ _) (ones_cons (one_pl rfl) ones_nil)) rfl rfl (zNb rfl) (List.cons_ne_nil _ _) (zbc (sl_b (kb_I _)) (zbc zPb bnd_nil)) (by simp only [znz] <;> rfl) (by simp only [znz] <;> rfl)) ?_
  refine rts _ rfl (opD_assign (lx lz)) ?_
  refine .nil ?_
  refine aw_keep [(0, _), (2, _), (4, _), (5, _), (8, _)] ⟨lg (ls rfl (lx (ls rfl (ls rfl (ls rfl (ls rfl (ls rfl oz))))))), lg (ls rfl (lx (ls rfl (ls rfl (ls rfl (ls rfl (ls rfl (os rfl oz)))))))), lg (ls rfl (lx (ls rfl (ls rfl (ls rfl (ls rfl (ls rfl (os rfl (os rfl oz))))))))), lg (ls rfl (lx (ls rfl (ls rfl (ls rfl (ls rfl (ls rfl (os rfl (os rfl (os rfl oz)))))))))), lg lz, trivial⟩ ?_
  refine aw_seq ?_
  refine aw_seq ?_
  refine aw_region (by decide) ?_
  refine rts _ rfl (opD_assign (ev_const _ _)) ?_
  refine .nil ?_
  refine aw_keep [(0, _), (2, _), (4, _), (5, _), (8, _), (9, _)] ⟨lg (ls rfl oz), lg (ls rfl (os rfl oz)), lg (ls rfl (os rfl (os rfl oz))), lg (ls rfl (os rfl (os rfl (os rfl oz)))), lg (ls rfl (os rfl (os rfl (os rfl (os rfl oz))))), lg lz, trivial⟩ ?_
  replace h0 := bnd_some h0
  obtain ⟨z_6, hz_6, h0⟩ := h0
  refine aw_mid (fun e st => ∃ v : (List Ent) × Rdr, Holds e [(0, sl (kI .u8) none none p0), (2, ptr (s.boxes.length + 0) 0), (4, ptr (s.boxes.length + 1) 0), (5, ptr (s.boxes.length + 2) 0)] ∧ st = s.ext [⟨88, [pl (.int .i64 0), pl (.int .u64 0), pl (.bool false), pl (.string ⟨#[]⟩), pl (.slice none 0 0), pl (.slice none 0 0), pl (.slice none 0 0)]⟩, ⟨88, [pl (.int .i64 (IntKind.i64.wrap (x_1.2))), pl (.int .u64 x_2.2), pl (.bool (decide (x_3.2 = 1))), pl (.string x_4.2), sl kEnt none none v.1, pl (.slice none 0 0), pl (.slice none 0 0)]⟩, ⟨41, [sl (kI .u8) none none v.2.b_, pl (.bool v.2.wrong_)]⟩] [] ∧ v = z_6) ?_ ?_
  · skip
    refine aw_wkN rfl 3 0 rfl rfl ?_
    refine aw_block ?_
    refine aw_fr ⟨174, 2, 0⟩ ?_
    refine aw_wkBN rfl (bs' := [⟨88, [pl (.int .i64 0), pl (.int .u64 0), pl (.bool false), pl (.string ⟨#[]⟩), pl (.slice none 0 0), pl (.slice none 0 0), pl (.slice none 0 0)]⟩, ⟨88, [pl (.int .i64 (IntKind.i64.wrap (x_1.2))), pl (.int .u64 x_2.2), pl (.bool (decide (x_3.2 = 1))), pl (.string x_4.2), sl kEnt (some (s.fr.length + 0)) none [], pl (.slice none 0 0), pl (.slice none 0 0)]⟩, ⟨41, [sl (kI .u8) none none x_5.1.b_, pl (.bool x_5.1.wrong_)]⟩]) (bxle_same (bxle_cons (B := ⟨88, [_, _, _, _, _, _, _]⟩) (@Eq.refl TypeId 88) (lel_cons zLr (lel_cons zLr (lel_cons zLr (lel_cons zLr (lel_cons (nil_own rfl) (lel_cons zLr (lel_cons zLr lel_nil))))))) (bxle_same bxle_nil))) (bl_cons (zbc zPb (zbc zPb (zbc zPb (zbc zPb (zbc zPb (zbc zPb (zbc zPb bnd_nil))))))) (bl_cons (zbc zPb (zbc zPb (zbc zPb (zbc zPb (zbc (sl_ob kb_Ent (by first | omega | (simp only [List.length_append, List.length_cons, List.length_nil, ext_fr_length, upd_fr_length]; omega))) (zbc zPb (zbc zPb bnd_nil))))))) (bl_cons (zbc (sl_b (kb_I _)) (zbc zPb bnd_nil)) bl_nil))) ?_
    refine aw_loop (fun n e st => ∃ v : Int × (List Ent) × Rdr, Holds e [(0, sl (kI .u8) none none p0), (2, ptr (s.boxes.length + 0) 0), (4, ptr (s.boxes.length + 1) 0), (5, ptr (s.boxes.length + 2) 0), (8, pl (.int .u64 x_5.2)), (9, pl (.int .u64 v.1))] ∧ st = s.ext [⟨88, [pl (.int .i64 0), pl (.int .u64 0), pl (.bool false), pl (.string ⟨#[]⟩), pl (.slice none 0 0), pl (.slice none 0 0), pl (.slice none 0 0)]⟩, ⟨88, [pl (.int .i64 (IntKind.i64.wrap (x_1.2))), pl (.int .u64 x_2.2), pl (.bool (decide (x_3.2 = 1))), pl (.string x_4.2), sl kEnt (some (s.fr.length + 0)) none v.2.1, pl (.slice none 0 0), pl (.slice none 0 0)]⟩, ⟨41, [sl (kI .u8) none none v.2.2.b_, pl (.bool v.2.2.wrong_)]⟩] [⟨174, 2, v.2.1.length⟩] ∧ lp (F_rdec2_b0 x_5) n v = some z_6) fl ⟨(0, ([] : (List Ent)), x_5.1), ⟨le_of_eq (eg oz), le_of_eq (eg (os rfl oz)), le_of_eq (eg (os rfl (os rfl oz))), le_of_eq (eg (os rfl (os rfl (os rfl oz)))), le_of_eq (eg (os rfl (os rfl (os rfl (os rfl oz))))), le_of_eq (eg (os rfl (os rfl (os rfl (os rfl (os rfl oz)))))), trivial⟩, rfl, hz_6⟩ ?_
    rintro n e st ⟨t_7, hH, rfl, hz_6⟩
    replace hz_6 := lp_some hz_6
    obtain ⟨m_z_8, z_8, rfl, hz_8, hz_6⟩ := hz_6
    unfold F_rdec2_b0 at hz_8
    refine aw_keep _ hH ?_
    refine aw_wkN rfl 3 1 rfl rfl ?_
    refine aw_seq ?_
    refine aw_seq ?_
    refine aw_region (by decide) ?_
    refine rts _ rfl (opD_move (os rfl (os rfl (os rfl (os rfl (os rfl oz)))))) ?_
    refine rts _ rfl (opD_move (ls rfl (os rfl (os rfl (os rfl (os rfl oz)))))) ?_
    refine rts _ rfl (opD_lss (ls rfl lz) lz) ?_
    refine .nil ?_
    refine aw_keep [(0, _), (2, _), (4, _), (5, _), (8, _), (9, _), (53, _)] ⟨lg (ls rfl (ls rfl (ls rfl oz))), lg (ls rfl (ls rfl (ls rfl (os rfl oz)))), lg (ls rfl (ls rfl (ls rfl (os rfl (os rfl oz))))), lg (ls rfl (ls rfl (ls rfl (os rfl (os rfl (os rfl oz)))))), lg (ls rfl (ls rfl (ls rfl (os rfl (os rfl (os rfl (os rfl oz))))))), lg (ls rfl (ls rfl (ls rfl (os rfl (os rfl (os rfl (os rfl (os rfl oz)))))))), lg lz, trivial⟩ ?_
    refine aw_cond _ (os rfl (os rfl (os rfl (os rfl (os rfl (os rfl oz)))))) (fun hc => ?_) (fun hc => ?_)
    · skip
      replace hz_8 := ifb_t hz_8 hc
      clear hc
      refine aw_skip ?_
      refine aw_keep [(0, _), (2, _), (4, _), (5, _), (8, _), (9, _)] ⟨lg oz, lg (os rfl oz), lg (os rfl (os rfl oz)), lg (os rfl (os rfl (os rfl oz))), lg (os rfl (os rfl (os rfl (os rfl oz)))), lg (os rfl (os rfl (os rfl (os rfl (os rfl oz))))), trivial⟩ ?_
      refine aw_seq ?_
      refine aw_block ?_
      refine aw_seq ?_
      refine aw_region (by decide) ?_
      refine rts _ rfl (allocN rfl zt174_u3b (by first | exact List.length_nil | (simp only [List.length_cons, List.length_nil, Nat.zero_add, Nat.reduceAdd] <;> rfl)) (by simp only [znz] <;> rfl)) ?_
      refine .nil ?_
      refine aw_keep [(0, _), (2, _), (4, _), (5, _), (8, _), (9, _), (10, _)] ⟨lg (ls rfl oz), lg (ls rfl (os rfl oz)), lg (ls rfl (os rfl (os rfl oz))), lg (ls rfl (os rfl (os rfl (os rfl oz)))), lg (ls rfl (os rfl (os rfl (os rfl (os rfl oz))))), lg (ls rfl (os rfl (os rfl (os rfl (os rfl (os rfl oz)))))), lg lz, trivial⟩ ?_
      refine aw_seq ?_
      refine aw_region (by decide) ?_
      refine rts _ rfl (opD_load_aggX (qs := [_, _]) ag41_u3b sz41_u3b (os rfl (os rfl (os rfl oz))) (loc_getN rfl rfl) (zNb rfl) rfl) ?_
      replace hz_8 := bnd_some hz_8
      obtain ⟨x_9, hx_9, hz_8⟩ := hz_8
      refine rts _ rfl (opD_pure ht101_u3b (c_rtext2 hx_9) ⟨(le_of_eq lz).trans (agg_le ⟨zLr, zLr, trivial⟩), trivial⟩) ?_
      refine rts _ rfl (opD_move lz) ?_
      refine rts _ rfl (opD_extract lz rfl) ?_
      refine rts _ rfl (opD_extract (ls rfl lz) rfl) ?_
      refine rts _ rfl (storeAN rfl sz41_u3b (ls rfl (ls rfl (ls rfl (ls rfl (ls rfl (os rfl (os rfl (os rfl oz)))))))) (ls rfl lz) (ones_cons (one_sl _ _ _ _) (ones_cons (one_pl rfl) ones_nil)) rfl rfl (zNb rfl) (List.cons_ne_nil _ _) (zbc (sl_b (kb_I _)) (zbc zPb bnd_nil)) (by simp only [znz] <;> rfl) (by simp only [znz] <;> rfl)) ?_
      refine rts _ rfl (opD_fieldAddr fo174_0_u3b (lx (ls rfl (ls rfl (ls rfl (ls rfl (ls rfl (os rfl (os rfl (os rfl (os rfl (os rfl (os rfl oz))))))))))))) ?_
      refine rts _ rfl (storeON rfl sz9_u3b lz (le_of_eq (ls rfl (lx lz))) (one_pl rfl) rfl (zNb rfl) zPb (by simp only [znz] <;> rfl) (by simp only [znz] <;> rfl)) ?_
      refine .nil ?_
      refine aw_keep [(0, _), (2, _), (4, _), (5, _), (8, _), (9, _), (10, _)] ⟨lg (lx (ls rfl (lx (ls rfl (ls rfl (ls rfl (ls rfl (ls rfl oz)))))))), lg (lx (ls rfl (lx (ls rfl (ls rfl (ls rfl (ls rfl (ls rfl (os rfl oz))))))))), lg (lx (ls rfl (lx (ls rfl (ls rfl (ls rfl (ls rfl (ls rfl (os rfl (os rfl oz)))))))))), lg (lx (ls rfl (lx (ls rfl (ls rfl (ls rfl (ls rfl (ls rfl (os rfl (os rfl (os rfl oz))))))))))), lg (lx (ls rfl (lx (ls rfl (ls rfl (ls rfl (ls rfl (ls rfl (os rfl (os rfl (os rfl (os rfl oz)))))))))))), lg (lx (ls rfl (lx (ls rfl (ls rfl (ls rfl (ls rfl (ls rfl (os rfl (os rfl (os rfl (os rfl (os rfl oz))))))))))))), lg (lx (ls rfl (lx (ls rfl (ls rfl (ls rfl (ls rfl (ls rfl (os rfl (os rfl (os rfl (os rfl (os rfl (os rfl oz)))))))))))))), trivial⟩ ?_
      refine aw_seq ?_
      refine aw_region (by decide) ?_
      refine rts _ rfl (opD_load_aggX (qs := [_, _]) ag41_u3b sz41_u3b (os rfl (os rfl (os rfl oz))) (loc_getN rfl rfl) (zNb rfl) rfl) ?_
      replace hz_8 := bnd_some hz_8
      obtain ⟨x_10, hx_10, hz_8⟩ := hz_8
      refine rts _ rfl (opD_pure ht101_u3b (c_rtext2 hx_10) ⟨(le_of_eq lz).trans (agg_le ⟨zLr, zLr, trivial⟩), trivial⟩) ?_
      refine rts _ rfl (opD_move lz) ?_
      refine rts _ rfl (opD_extract lz rfl) ?_
      refine rts _ rfl (opD_extract (ls rfl lz) rfl) ?_
      refine rts _ rfl (storeAN rfl sz41_u3b (ls rfl (ls rfl (ls rfl (ls rfl (ls rfl (os rfl (os rfl (os rfl oz)))))))) (ls rfl lz) (ones_cons (one_sl _ _ _ _) (ones_cons (one_pl rfl) ones_nil)) rfl rfl (zNb rfl) (List.cons_ne_nil _ _) (zbc (sl_b (kb_I _)) (zbc zPb bnd_nil)) (by simp only [znz] <;> rfl) (by simp only [znz] <;> rfl)) ?_
      refine rts _ rfl (opD_fieldAddr fo174_1_u3b (lx (ls rfl (ls rfl (ls rfl (ls rfl (ls rfl (os rfl (os rfl (os rfl (os rfl (os rfl (os rfl oz))))))))))))) ?_
      refine rts _ rfl (storeON rfl sz9_u3b lz (le_of_eq (ls rfl (lx lz))) (one_pl rfl) rfl (zNb rfl) zPb (by simp only [znz] <;> rfl) (by simp only [znz] <;> rfl)) ?_
      refine .nil ?_
      refine aw_keep [(0, _), (2, _), (4, _), (5, _), (8, _), (9, _), (10, _)] ⟨lg (lx (ls rfl (lx (ls rfl (ls rfl (ls rfl (ls rfl (ls rfl oz)))))))), lg (lx (ls rfl (lx (ls rfl (ls rfl (ls rfl (ls rfl (ls rfl (os rfl oz))))))))), lg (lx (ls rfl (lx (ls rfl (ls rfl (ls rfl (ls rfl (ls rfl (os rfl (os rfl oz)))))))))), lg (lx (ls rfl (lx (ls rfl (ls rfl (ls rfl (ls rfl (ls rfl (os rfl (os rfl (os rfl oz))))))))))), lg (lx (ls rfl (lx (ls rfl (ls rfl (ls rfl (ls rfl (ls rfl (os rfl (os rfl (os rfl (os rfl oz)))))))))))), lg (lx (ls rfl (lx (ls rfl (ls rfl (ls rfl (ls rfl (ls rfl (os rfl (os rfl (os rfl (os rfl (os rfl oz))))))))))))), lg (lx (ls rfl (lx (ls rfl (ls rfl (ls rfl (ls rfl (ls rfl (os rfl (os rfl (os rfl (os rfl (os rfl (os rfl oz)))))))))))))), trivial⟩ ?_
      refine aw_region (by decide) ?_
      refine rts _ rfl (opD_fieldAddr fo88_4_u3b (os rfl (os rfl oz))) ?_
      refine rts _ rfl (opD_load_one ag85_u3b lz (loc_getN rfl rfl) rfl) ?_
      refine rts _ rfl (opD_load_aggX (qs := [_, _]) ag174_u3b sz174_u3b (ls rfl (ls rfl (os rfl (os rfl (os rfl (os rfl (os rfl (os rfl oz)))))))) (loc_getN rfl rfl) (zNb rfl) rfl) ?_
      refine rts _ rfl (opD_buildOwn (k := kEnt) ([(⟨x_9.2, x_10.2⟩ : Ent)] : (List Ent)) Tryd.underlying85 sz174_u3b zt174_u3b (by decide) rfl (parts_cons (cellsA lz) parts_nil) rfl rfl (by first | exact List.length_nil | (simp only [List.length_cons, List.length_nil, Nat.zero_add, Nat.reduceAdd] <;> rfl)) (by simp only [znz] <;> rfl)) ?_
      replace hz_8 := grd_some hz_8
      obtain ⟨hg_6, hz_8⟩ := hz_8
      refine rts _ rfl (opD_appendX Tryd.underlying85 el174_u3b (ls rfl (ls rfl lz)) lz rfl hg_6.1 hg_6.2 rfl (by simp only [znz] <;> rfl)) ?_
      refine rts _ rfl (opD_fieldAddr fo88_4_u3b (ls rfl (ls rfl (ls rfl (ls rfl (ls rfl (os rfl (os rfl oz)))))))) ?_
      refine rts _ rfl (storeON rfl sz85_u3b lz (le_of_eq (ls rfl lz)) (one_sl _ _ _ _) rfl (zNb rfl) (sl_ob kb_Ent (by first | omega | (simp only [List.length_append, List.length_cons, List.length_nil, ext_fr_length, upd_fr_length]; omega))) (by simp only [znz] <;> rfl) (by simp only [znz] <;> rfl)) ?_
      refine .nil ?_
      refine aw_keep [(0, _), (2, _), (4, _), (5, _), (8, _), (9, _)] ⟨lg (lx (ls rfl (ls rfl (ls rfl (ls rfl (ls rfl (ls rfl oz))))))), lg (lx (ls rfl (ls rfl (ls rfl (ls rfl (ls rfl (ls rfl (os rfl oz)))))))), lg (lx (ls rfl (ls rfl (ls rfl (ls rfl (ls rfl (ls rfl (os rfl (os rfl oz))))))))), lg (lx (ls rfl (ls rfl (ls rfl (ls rfl (ls rfl (ls rfl (os rfl (os rfl (os rfl oz)))))))))), lg (lx (ls rfl (ls rfl (ls rfl (ls rfl (ls rfl (ls rfl (os rfl (os rfl (os rfl (os rfl oz))))))))))), lg (lx (ls rfl (ls rfl (ls rfl (ls rfl (ls rfl (ls rfl (os rfl (os rfl (os rfl (os rfl (os rfl oz)))))))))))), trivial⟩ ?_
      refine aw_region (by decide) ?_
      refine rts _ rfl (opD_move (os rfl (os rfl (os rfl (os rfl (os rfl oz)))))) ?_
      refine rts _ rfl (opD_add lz (ev_const _ _) rfl) ?_
      refine rts _ rfl (opD_assign lz) ?_
      refine .nil ?_
      obtain rfl := some_of hz_8
      replace hz_6 := ocs_l hz_6
      refine wk_yesN rfl (l := [(0, sl (kI .u8) none none p0), (2, ptr (s.boxes.length + 0) 0), (4, ptr (s.boxes.length + 1) 0), (5, ptr (s.boxes.length + 2) 0), (8, pl (.int .u64 x_5.2)), (9, pl (.int .u64 (IntKind.u64.wrap (t_7.1 + 1))))]) (bs' := [⟨88, [pl (.int .i64 0), pl (.int .u64 0), pl (.bool false), pl (.string ⟨#[]⟩), pl (.slice none 0 0), pl (.slice none 0 0), pl (.slice none 0 0)]⟩, ⟨88, [pl (.int .i64 (IntKind.i64.wrap (x_1.2))), pl (.int .u64 x_2.2), pl (.bool (decide (x_3.2 = 1))), pl (.string x_4.2), sl kEnt (some (s.fr.length + 0)) none (t_7.2.1 ++ ([(⟨x_9.2, x_10.2⟩ : Ent)] : (List Ent))), pl (.slice none 0 0), pl (.slice none 0 0)]⟩, ⟨41, [sl (kI .u8) none none x_10.1.b_, pl (.bool x_10.1.wrong_)]⟩]) ⟨le_of_eq (eg (ls rfl (ls rfl (ls rfl oz)))), le_of_eq (eg (ls rfl (ls rfl (ls rfl (os rfl oz))))), le_of_eq (eg (ls rfl (ls rfl (ls rfl (os rfl (os rfl oz)))))), le_of_eq (eg (ls rfl (ls rfl (ls rfl (os rfl (os rfl (os rfl oz))))))), le_of_eq (eg (ls rfl (ls rfl (ls rfl (os rfl (os rfl (os rfl (os rfl oz)))))))), le_of_eq (eg lz), trivial⟩ (zbc (sl_b (kb_I _)) (zbc (ptr_bnd _ (by first | omega | (simp only [List.length_append, List.length_cons, List.length_nil]; omega))) (zbc (ptr_bnd _ (by first | omega | (simp only [List.length_append, List.length_cons, List.length_nil]; omega))) (zbc (ptr_bnd _ (by first | omega | (simp only [List.length_append, List.length_cons, List.length_nil]; omega))) (zbc zPb (zbc zPb bnd_nil)))))) (zNb rfl) (by simp only [znz] <;> rfl) (bxle_same (bxle_same (bxle_same bxle_nil))) rfl (by simp only [znz] <;> rfl) (bl_cons (zbc zPb (zbc zPb (zbc zPb (zbc zPb (zbc zPb (zbc zPb (zbc zPb bnd_nil))))))) (bl_cons (zbc zPb (zbc zPb (zbc zPb (zbc zPb (zbc (sl_ob kb_Ent (by first | omega | (simp only [List.length_append, List.length_cons, List.length_nil, ext_fr_length, upd_fr_length]; omega))) (zbc zPb (zbc zPb bnd_nil))))))) (bl_cons (zbc (sl_b (kb_I _)) (zbc zPb bnd_nil)) bl_nil))) ?_
      exact ⟨m_z_8, Nat.lt_succ_self _, (IntKind.u64.wrap (t_7.1 + 1), (t_7.2.1 ++ ([(⟨x_9.2, x_10.2⟩ : Ent)] : (List Ent))), x_10.1), ⟨le_of_eq (eg oz), le_of_eq (eg (os rfl oz)), le_of_eq (eg (os rfl (os rfl oz))), le_of_eq (eg (os rfl (os rfl (os rfl oz)))), le_of_eq (eg (os rfl (os rfl (os rfl (os rfl oz))))), le_of_eq (eg (os rfl (os rfl (os rfl (os rfl (os rfl oz)))))), trivial⟩, rfl, hz_6⟩
    · skip
      replace hz_8 := ifb_f hz_8 hc
      clear hc
      refine aw_exit ?_
      obtain rfl := some_of hz_8
      replace hz_6 := ocs_r hz_6
      refine wk_no ?_
      refine wk_yesN rfl (l := [(0, sl (kI .u8) none none p0), (2, ptr (s.boxes.length + 0) 0), (4, ptr (s.boxes.length + 1) 0), (5, ptr (s.boxes.length + 2) 0)]) (bs' := [⟨88, [pl (.int .i64 0), pl (.int .u64 0), pl (.bool false), pl (.string ⟨#[]⟩), pl (.slice none 0 0), pl (.slice none 0 0), pl (.slice none 0 0)]⟩, ⟨88, [pl (.int .i64 (IntKind.i64.wrap (x_1.2))), pl (.int .u64 x_2.2), pl (.bool (decide (x_3.2 = 1))), pl (.string x_4.2), sl kEnt none none t_7.2.1, pl (.slice none 0 0), pl (.slice none 0 0)]⟩, ⟨41, [sl (kI .u8) none none t_7.2.2.b_, pl (.bool t_7.2.2.wrong_)]⟩]) ⟨le_of_eq (eg oz), le_of_eq (eg (os rfl oz)), le_of_eq (eg (os rfl (os rfl oz))), le_of_eq (eg (os rfl (os rfl (os rfl oz)))), trivial⟩ (zbc (sl_b (kb_I _)) (zbc (ptr_bnd _ (by first | omega | (simp only [List.length_append, List.length_cons, List.length_nil]; omega))) (zbc (ptr_bnd _ (by first | omega | (simp only [List.length_append, List.length_cons, List.length_nil]; omega))) (zbc (ptr_bnd _ (by first | omega | (simp only [List.length_append, List.length_cons, List.length_nil]; omega))) bnd_nil)))) (zNb rfl) (by simp only [znz] <;> rfl) (bxle_same (bxle_cons (B := ⟨88, [_, _, _, _, _, _, _]⟩) (@Eq.refl TypeId 88) (lel_cons zLr (lel_cons zLr (lel_cons zLr (lel_cons zLr (lel_cons (sl_le _ (some (s.fr.length + 0)) none _) (lel_cons zLr (lel_cons zLr lel_nil))))))) (bxle_same bxle_nil))) rfl (by simp only [znz] <;> rfl) (bl_cons (zbc zPb (zbc zPb (zbc zPb (zbc zPb (zbc zPb (zbc zPb (zbc zPb bnd_nil))))))) (bl_cons (zbc zPb (zbc zPb (zbc zPb (zbc zPb (zbc (sl_b kb_Ent) (zbc zPb (zbc zPb bnd_nil))))))) (bl_cons (zbc (sl_b (kb_I _)) (zbc zPb bnd_nil)) bl_nil))) ?_
      exact ⟨(t_7.2.1, t_7.2.2), ⟨le_of_eq (eg oz), le_of_eq (eg (os rfl oz)), le_of_eq (eg (os rfl (os rfl oz))), le_of_eq (eg (os rfl (os rfl (os rfl oz)))), trivial⟩, rfl, some_of hz_6⟩
  · rintro e st ⟨vz_6, hH, rfl, rfl⟩
    refine aw_keep _ hH ?_
    refine aw_keep [(0, _), (2, _), (4, _), (5, _)] ⟨lg oz, lg (os rfl oz), lg (os rfl (os rfl oz)), lg (os rfl (os rfl (os rfl oz))), trivial⟩ ?_
    refine aw_seq ?_
    refine aw_region (by decide) ?_
    refine rts _ rfl (opD_load_aggX (qs := [_, _]) ag41_u3b sz41_u3b (os rfl (os rfl (os rfl oz))) (loc_getN rfl rfl) (zNb rfl) rfl) ?_
    replace h0 := bnd_some h0
    obtain ⟨x_11, hx_11, h0⟩ := h0
    refine rts _ rfl (opD_pure ht99_u3b (c_rnum2 hx_11) ⟨(le_of_eq lz).trans (agg_le ⟨zLr, zLr, trivial⟩), le_of_eq (ev_const _ _), trivial⟩) ?_
    refine rts _ rfl (opD_move lz) ?_
    refine rts _ rfl (opD_extract lz rfl) ?_
    refine rts _ rfl (opD_extract (ls rfl lz) rfl) ?_
    refine rts _ rfl (storeAN rfl sz41_u3b (ls rfl (ls rfl (ls rfl (ls rfl (ls rfl (os rfl (os rfl (os rfl oz)))))))) (ls rfl lz) (ones_cons (one_sl _ _ _ _) (ones_cons (one_pl rfl) ones_nil)) rfl rfl (zNb rfl) (List.cons_ne_nil _ _) (zbc (sl_b (kb_I _)) (zbc zPb bnd_nil)) (by simp only [znz] <;> rfl) (by simp only [znz] <;> rfl)) ?_
    refine rts _ rfl (opD_assign (lx lz)) ?_
    refine .nil ?_
    refine aw_keep [(0, _), (2, _), (4, _), (5, _), (8, _)] ⟨lg (ls rfl (lx (ls rfl (ls rfl (ls rfl (ls rfl (ls rfl oz))))))), lg (ls rfl (lx (ls rfl (ls rfl (ls rfl (ls rfl (ls rfl (os rfl oz)))))))), lg (ls rfl (lx (ls rfl (ls rfl (ls rfl (ls rfl (ls rfl (os rfl (os rfl oz))))))))), lg (ls rfl (lx (ls rfl (ls rfl (ls rfl (ls rfl (ls rfl (os rfl (os rfl (os rfl oz)))))))))), lg lz, trivial⟩ ?_
    refine aw_seq ?_
    refine aw_seq ?_
    refine aw_region (by decide) ?_
    refine rts _ rfl (opD_assign (ev_const _ _)) ?_
    refine .nil ?_
    refine aw_keep [(0, _), (2, _), (4, _), (5, _), (8, _), (11, _)] ⟨lg (ls rfl oz), lg (ls rfl (os rfl oz)), lg (ls rfl (os rfl (os rfl oz))), lg (ls rfl (os rfl (os rfl (os rfl oz)))), lg (ls rfl (os rfl (os rfl (os rfl (os rfl oz))))), lg lz, trivial⟩ ?_
    replace h0 := bnd_some h0
    obtain ⟨z_12, hz_12, h0⟩ := h0
    refine aw_mid (fun e st => ∃ v : (List Rf) × Rdr, Holds e [(0, sl (kI .u8) none none p0), (2, ptr (s.boxes.length + 0) 0), (4, ptr (s.boxes.length + 1) 0), (5, ptr (s.boxes.length + 2) 0)] ∧ st = s.ext [⟨88, [pl (.int .i64 0), pl (.int .u64 0), pl (.bool false), pl (.string ⟨#[]⟩), pl (.slice none 0 0), pl (.slice none 0 0), pl (.slice none 0 0)]⟩, ⟨88, [pl (.int .i64 (IntKind.i64.wrap (x_1.2))), pl (.int .u64 x_2.2), pl (.bool (decide (x_3.2 = 1))), pl (.string x_4.2), sl kEnt none none vz_6.1, sl kRf none none v.1, pl (.slice none 0 0)]⟩, ⟨41, [sl (kI .u8) none none v.2.b_, pl (.bool v.2.wrong_)]⟩] [] ∧ v = z_12) ?_ ?_
    · skip
      refine aw_wkN rfl 3 0 rfl rfl ?_
      refine aw_block ?_
      refine aw_fr ⟨112, 2, 0⟩ ?_
      refine aw_wkBN rfl (bs' := [⟨88, [pl (.int .i64 0), pl (.int .u64 0), pl (.bool false), pl (.string ⟨#[]⟩), pl (.slice none 0 0), pl (.slice none 0 0), pl (.slice none 0 0)]⟩, ⟨88, [pl (.int .i64 (IntKind.i64.wrap (x_1.2))), pl (.int .u64 x_2.2), pl (.bool (decide (x_3.2 = 1))), pl (.string x_4.2), sl kEnt none none vz_6.1, sl kRf (some (s.fr.length + 0)) none [], pl (.slice none 0 0)]⟩, ⟨41, [sl (kI .u8) none none x_11.1.b_, pl (.bool x_11.1.wrong_)]⟩]) (bxle_same (bxle_cons (B := ⟨88, [_, _, _, _, _, _, _]⟩) (@Eq.refl TypeId 88) (lel_cons zLr (lel_cons zLr (lel_cons zLr (lel_cons zLr (lel_cons zLr (lel_cons (nil_own rfl) (lel_cons zLr lel_nil))))))) (bxle_same bxle_nil))) (bl_cons (zbc zPb (zbc zPb (zbc zPb (zbc zPb (zbc zPb (zbc zPb (zbc zPb bnd_nil))))))) (bl_cons (zbc zPb (zbc zPb (zbc zPb (zbc zPb (zbc (sl_b kb_Ent) (zbc (sl_ob kb_Rf (by first | omega | (simp only [List.length_append, List.length_cons, List.length_nil, ext_fr_length, upd_fr_length]; omega))) (zbc zPb bnd_nil))))))) (bl_cons (zbc (sl_b (kb_I _)) (zbc zPb bnd_nil)) bl_nil))) ?_
      refine aw_loop (fun n e st => ∃ v : Int × (List Rf) × Rdr, Holds e [(0, sl (kI .u8) none none p0), (2, ptr (s.boxes.length + 0) 0), (4, ptr (s.boxes.length + 1) 0), (5, ptr (s.boxes.length + 2) 0), (8, pl (.int .u64 x_11.2)), (11, pl (.int .u64 v.1))] ∧ st = s.ext [⟨88, [pl (.int .i64 0), pl (.int .u64 0), pl (.bool false), pl (.string ⟨#[]⟩), pl (.slice none 0 0), pl (.slice none 0 0), pl (.slice none 0 0)]⟩, ⟨88, [pl (.int .i64 (IntKind.i64.wrap (x_1.2))), pl (.int .u64 x_2.2), pl (.bool (decide (x_3.2 = 1))), pl (.string x_4.2), sl kEnt none none vz_6.1, sl kRf (some (s.fr.length + 0)) none v.2.1, pl (.slice none 0 0)]⟩, ⟨41, [sl (kI .u8) none none v.2.2.b_, pl (.bool v.2.2.wrong_)]⟩] [⟨112, 2, v.2.1.length⟩] ∧ lp (F_rdec2_b1 x_11) n v = some z_12) fl ⟨(0, ([] : (List Rf)), x_11.1), ⟨le_of_eq (eg oz), le_of_eq (eg (os rfl oz)), le_of_eq (eg (os rfl (os rfl oz))), le_of_eq (eg (os rfl (os rfl (os rfl oz)))), le_of_eq (eg (os rfl (os rfl (os rfl (os rfl oz))))), le_of_eq (eg (os rfl (os rfl (os rfl (os rfl (os rfl oz)))))), trivial⟩, rfl, hz_12⟩ ?_
      rintro n e st ⟨t_13, hH, rfl, hz_12⟩
      replace hz_12 := lp_some hz_12
      obtain ⟨m_z_14, z_14, rfl, hz_14, hz_12⟩ := hz_12
      unfold F_rdec2_b1 at hz_14
      refine aw_keep _ hH ?_
      refine aw_wkN rfl 3 1 rfl rfl ?_
      refine aw_seq ?_
      refine aw_seq ?_
      refine aw_region (by decide) ?_
      refine rts _ rfl (opD_move (os rfl (os rfl (os rfl (os rfl (os rfl oz)))))) ?_
      refine rts _ rfl (opD_move (ls rfl (os rfl (os rfl (os rfl (os rfl oz)))))) ?_
      refine rts _ rfl (opD_lss (ls rfl lz) lz) ?_
      refine .nil ?_
      refine aw_keep [(0, _), (2, _), (4, _), (5, _), (8, _), (11, _), (81, _)] ⟨lg (ls rfl (ls rfl (ls rfl oz))), lg (ls rfl (ls rfl (ls rfl (os rfl oz)))), lg (ls rfl (ls rfl (ls rfl (os rfl (os rfl oz))))), lg (ls rfl (ls rfl (ls rfl (os rfl (os rfl (os rfl oz)))))), lg (ls rfl (ls rfl (ls rfl (os rfl (os rfl (os rfl (os rfl oz))))))), lg (ls rfl (ls rfl (ls rfl (os rfl (os rfl (os rfl (os rfl (os rfl oz)))))))), lg lz, trivial⟩ ?_
      refine aw_cond _ (os rfl (os rfl (os rfl (os rfl (os rfl (os rfl oz)))))) (fun hc => ?_) (fun hc => ?_)
      · skip
        replace hz_14 := ifb_t hz_14 hc
        clear hc
        refine aw_skip ?_
        refine aw_keep [(0, _), (2, _), (4, _), (5, _), (8, _), (11, _)] ⟨lg oz, lg (os rfl oz), lg (os rfl (os rfl oz)), lg (os rfl (os rfl (os rfl oz))), lg (os rfl (os rfl (os rfl (os rfl oz)))), lg (os rfl (os rfl (os rfl (os rfl (os rfl oz))))), trivial⟩ ?_
        refine aw_seq ?_
        refine aw_block ?_
        refine aw_seq ?_
        refine aw_region (by decide) ?_
        refine rts _ rfl (allocN rfl zt112_u3b (by first | exact List.length_nil | (simp only [List.length_cons, List.length_nil, Nat.zero_add, Nat.reduceAdd] <;> rfl)) (by simp only [znz] <;> rfl)) ?_
        refine .nil ?_
        refine aw_keep [(0, _), (2, _), (4, _), (5, _), (8, _), (11, _), (12, _)] ⟨lg (ls rfl oz), lg (ls rfl (os rfl oz)), lg (ls rfl (os rfl (os rfl oz))), lg (ls rfl (os rfl (os rfl (os rfl oz)))), lg (ls rfl (os rfl (os rfl (os rfl (os rfl oz))))), lg (ls rfl (os rfl (os rfl (os rfl (os rfl (os rfl oz)))))), lg lz, trivial⟩ ?_
        refine aw_seq ?_
        refine aw_region (by decide) ?_
        refine rts _ rfl (opD_load_aggX (qs := [_, _]) ag41_u3b sz41_u3b (os rfl (os rfl (os rfl oz))) (loc_getN rfl rfl) (zNb rfl) rfl) ?_
        replace hz_14 := bnd_some hz_14
        obtain ⟨x_15, hx_15, hz_14⟩ := hz_14
        refine rts _ rfl (opD_pure ht100_u3b (c_rone2 hx_15) ⟨(le_of_eq lz).trans (agg_le ⟨zLr, zLr, trivial⟩), trivial⟩) ?_
        refine rts _ rfl (opD_move lz) ?_
        refine rts _ rfl (opD_extract lz rfl) ?_
        refine rts _ rfl (opD_extract (ls rfl lz) rfl) ?_
        refine rts _ rfl (storeAN rfl sz41_u3b (ls rfl (ls rfl (ls rfl (ls rfl (ls rfl (os rfl (os rfl (os rfl oz)))))))) (ls rfl lz) (ones_cons (one_sl _ _ _ _) (ones_cons (one_pl rfl) ones_nil)) rfl rfl (zNb rfl) (List.cons_ne_nil _ _) (zbc (sl_b (kb_I _)) (zbc zPb bnd_nil)) (by simp only [znz] <;> rfl) (by simp only [znz] <;> rfl)) ?_
        refine rts _ rfl (opD_assign (lx lz)) ?_
        refine .nil ?_
        refine aw_keep [(0, _), (2, _), (4, _), (5, _), (7, _), (8, _), (11, _), (12, _)] ⟨lg (ls rfl (lx (ls rfl (ls rfl (ls rfl (ls rfl (ls rfl oz))))))), lg (ls rfl (lx (ls rfl (ls rfl (ls rfl (ls rfl (ls rfl (os rfl oz)))))))), lg (ls rfl (lx (ls rfl (ls rfl (ls rfl (ls rfl (ls rfl (os rfl (os rfl oz))))))))), lg (ls rfl (lx (ls rfl (ls rfl (ls rfl (ls rfl (ls rfl (os rfl (os rfl (os rfl oz)))))))))), lg lz, lg (ls rfl (lx (ls rfl (ls rfl (ls rfl (ls rfl (ls rfl (os rfl (os rfl (os rfl (os rfl oz))))))))))), lg (ls rfl (lx (ls rfl (ls rfl (ls rfl (ls rfl (ls rfl (os rfl (os rfl (os rfl (os rfl (os rfl oz)))))))))))), lg (ls rfl (lx (ls rfl (ls rfl (ls rfl (ls rfl (ls rfl (os rfl (os rfl (os rfl (os rfl (os rfl (os rfl oz))))))))))))), trivial⟩ ?_
        refine aw_seq ?_
        refine aw_region (by decide) ?_
        refine rts _ rfl (opD_move (os rfl (os rfl (os rfl (os rfl oz))))) ?_
        refine rts _ rfl (opD_conv_int Tryd.underlying5 Tryd.underlying3 lz rfl) ?_
        refine rts _ rfl (opD_fieldAddr fo112_0_u3b (ls rfl (ls rfl (os rfl (os rfl (os rfl (os rfl (os rfl (os rfl (os rfl oz)))))))))) ?_
        refine rts _ rfl (storeON rfl sz3_u3b lz (le_of_eq (ls rfl lz)) (one_pl rfl) rfl (zNb rfl) zPb (by simp only [znz] <;> rfl) (by simp only [znz] <;> rfl)) ?_
        refine .nil ?_
        refine aw_keep [(0, _), (2, _), (4, _), (5, _), (8, _), (11, _), (12, _)] ⟨lg (lx (ls rfl (ls rfl (ls rfl oz)))), lg (lx (ls rfl (ls rfl (ls rfl (os rfl oz))))), lg (lx (ls rfl (ls rfl (ls rfl (os rfl (os rfl oz)))))), lg (lx (ls rfl (ls rfl (ls rfl (os rfl (os rfl (os rfl oz))))))), lg (lx (ls rfl (ls rfl (ls rfl (os rfl (os rfl (os rfl (os rfl (os rfl oz))))))))), lg (lx (ls rfl (ls rfl (ls rfl (os rfl (os rfl (os rfl (os rfl (os rfl (os rfl oz)))))))))), lg (lx (ls rfl (ls rfl (ls rfl (os rfl (os rfl (os rfl (os rfl (os rfl (os rfl (os rfl oz))))))))))), trivial⟩ ?_
        refine aw_seq ?_
        refine aw_region (by decide) ?_
        refine rts _ rfl (opD_load_aggX (qs := [_, _]) ag41_u3b sz41_u3b (os rfl (os rfl (os rfl oz))) (loc_getN rfl rfl) (zNb rfl) rfl) ?_
        replace hz_14 := bnd_some hz_14
        obtain ⟨x_16, hx_16, hz_14⟩ := hz_14
        refine rts _ rfl (opD_pure ht99_u3b (c_rnum2 hx_16) ⟨(le_of_eq lz).trans (agg_le ⟨zLr, zLr, trivial⟩), le_of_eq (ev_const _ _), trivial⟩) ?_
        refine rts _ rfl (opD_move lz) ?_
        refine rts _ rfl (opD_extract lz rfl) ?_
        refine rts _ rfl (opD_extract (ls rfl lz) rfl) ?_
        refine rts _ rfl (storeAN rfl sz41_u3b (ls rfl (ls rfl (ls rfl (ls rfl (ls rfl (os rfl (os rfl (os rfl oz)))))))) (ls rfl lz) (ones_cons (one_sl _ _ _ _) (ones_cons (one_pl rfl) ones_nil)) rfl rfl (zNb rfl) (List.cons_ne_nil _ _) (zbc (sl_b (kb_I _)) (zbc zPb bnd_nil)) (by simp only [znz] <;> rfl) (by simp only [znz] <;> rfl)) ?_
        refine rts _ rfl (opD_fieldAddr fo112_1_u3b (lx (ls rfl (ls rfl (ls rfl (ls rfl (ls rfl (os rfl (os rfl (os rfl (os rfl (os rfl (os rfl oz))))))))))))) ?_
        refine rts _ rfl (storeON rfl sz22_u3b lz (le_of_eq (ls rfl (lx lz))) (one_pl rfl) rfl (zNb rfl) zPb (by simp only [znz] <;> rfl) (by simp only [znz] <;> rfl)) ?_
        refine .nil ?_
        refine aw_keep [(0, _), (2, _), (4, _), (5, _), (8, _), (11, _), (12, _)] ⟨lg (lx (ls rfl (lx (ls rfl (ls rfl (ls rfl (ls rfl (ls rfl oz)))))))), lg (lx (ls rfl (lx (ls rfl (ls rfl (ls rfl (ls rfl (ls rfl (os rfl oz))))))))), lg (lx (ls rfl (lx (ls rfl (ls rfl (ls rfl (ls rfl (ls rfl (os rfl (os rfl oz)))))))))), lg (lx (ls rfl (lx (ls rfl (ls rfl (ls rfl (ls rfl (ls rfl (os rfl (os rfl (os rfl oz))))))))))), lg (lx (ls rfl (lx (ls rfl (ls rfl (ls rfl (ls rfl (ls rfl (os rfl (os rfl (os rfl (os rfl oz)))))))))))), lg (lx (ls rfl (lx (ls rfl (ls rfl (ls rfl (ls rfl (ls rfl (os rfl (os rfl (os rfl (os rfl (os rfl oz))))))))))))), lg (lx (ls rfl (lx (ls rfl (ls rfl (ls rfl (ls rfl (ls rfl (os rfl (os rfl (os rfl (os rfl (os rfl (os rfl oz)))))))))))))), trivial⟩ ?_
        refine aw_region (by decide) ?_
        refine rts _ rfl (opD_fieldAddr fo88_5_u3b (os rfl (os rfl oz))) ?_
        refine rts _ rfl (opD_load_one ag86_u3b lz (loc_getN rfl rfl) rfl) ?_
        refine rts _ rfl (opD_load_aggX (qs := [_, _]) ag112_u3b sz112_u3b (ls rfl (ls rfl (os rfl (os rfl (os rfl (os rfl (os rfl (os rfl oz)))))))) (loc_getN rfl rfl) (zNb rfl) rfl) ?_
        refine rts _ rfl (opD_buildOwn (k := kRf) ([(⟨IntKind.i64.wrap (x_15.2), x_16.2⟩ : Rf)] : (List Rf)) Tryd.underlying86 sz112_u3b zt112_u3b (by decide) rfl (parts_cons (cellsA lz) parts_nil) rfl rfl (by first | exact List.length_nil | (simp only [List.length_cons, List.length_nil, Nat.zero_add, Nat.reduceAdd] <;> rfl)) (by simp only [znz] <;> rfl)) ?_
        replace hz_14 := grd_some hz_14
        obtain ⟨hg_12, hz_14⟩ := hz_14
        refine rts _ rfl (opD_appendX Tryd.underlying86 el112_u3b (ls rfl (ls rfl lz)) lz rfl hg_12.1 hg_12.2 rfl (by simp only [znz] <;> rfl)) ?_
        refine rts _ rfl (opD_fieldAddr fo88_5_u3b (ls rfl (ls rfl (ls rfl (ls rfl (ls rfl (os rfl (os rfl oz)))))))) ?_
        refine rts _ rfl (storeON rfl sz86_u3b lz (le_of_eq (ls rfl lz)) (one_sl _ _ _ _) rfl (zNb rfl) (sl_ob kb_Rf (by first | omega | (simp only [List.length_append, List.length_cons, List.length_nil, ext_fr_length, upd_fr_length]; omega))) (by simp only [znz] <;> rfl) (by simp only [znz] <;> rfl)) ?_
        refine .nil ?_
        refine aw_keep [(0, _), (2, _), (4, _), (5, _), (8, _), (11, _)] ⟨lg (lx (ls rfl (ls rfl (ls rfl (ls rfl (ls rfl (ls rfl oz))))))), lg (lx (ls rfl (ls rfl (ls rfl (ls rfl (ls rfl (ls rfl (os rfl oz)))))))), lg (lx (ls rfl (ls rfl (ls rfl (ls rfl (ls rfl (ls rfl (os rfl (os rfl oz))))))))), lg (lx (ls rfl (ls rfl (ls rfl (ls rfl (ls rfl (ls rfl (os rfl (os rfl (os rfl oz)))))))))), lg (lx (ls rfl (ls rfl (ls rfl (ls rfl (ls rfl (ls rfl (os rfl (os rfl (os rfl (os rfl oz))))))))))), lg (lx (ls rfl (ls rfl (ls rfl (ls rfl (ls rfl (ls rfl (os rfl (os rfl (os rfl (os rfl (os rfl oz)))))))))))), trivial⟩ ?_
        refine aw_region (by decide) ?_
        refine rts _ rfl (opD_move (os rfl (os rfl (os rfl (os rfl (os rfl oz)))))) ?_
        refine rts _ rfl (opD_add lz (ev_const _ _) rfl) ?_
        refine rts _ rfl (opD_assign lz) ?_
        refine .nil ?_
        obtain rfl := some_of hz_14
        replace hz_12 := ocs_l hz_12
        refine wk_yesN rfl (l := [(0, sl (kI .u8) none none p0), (2, ptr (s.boxes.length + 0) 0), (4, ptr (s.boxes.length + 1) 0), (5, ptr (s.boxes.length + 2) 0), (8, pl (.int .u64 x_11.2)), (11, pl (.int .u64 (IntKind.u64.wrap (t_13.1 + 1))))]) (bs' := [⟨88, [pl (.int .i64 0), pl (.int .u64 0), pl (.bool false), pl (.string ⟨#[]⟩), pl (.slice none 0 0), pl (.slice none 0 0), pl (.slice none 0 0)]⟩, ⟨88, [pl (.int .i64 (IntKind.i64.wrap (x_1.2))), pl (.int .u64 x_2.2), pl (.bool (decide (x_3.2 = 1))), pl (.string x_4.2), sl kEnt none none vz_6.1, sl kRf (some (s.fr.length + 0)) none (t_13.2.1 ++ ([(⟨IntKind.i64.wrap (x_15.2), x_16.2⟩ : Rf)] : (List Rf))), pl (.slice none 0 0)]⟩, ⟨41, [sl (kI .u8) none none x_16.1.b_, pl (.bool x_16.1.wrong_)]⟩]) ⟨le_of_eq (eg (ls rfl (ls rfl (ls rfl oz)))), le_of_eq (eg (ls rfl (ls rfl (ls rfl (os rfl oz))))), le_of_eq (eg (ls rfl (ls rfl (ls rfl (os rfl (os rfl oz)))))), le_of_eq (eg (ls rfl (ls rfl (ls rfl (os rfl (os rfl (os rfl oz))))))), le_of_eq (eg (ls rfl (ls rfl (ls rfl (os rfl (os rfl (os rfl (os rfl oz)))))))), le_of_eq (eg lz), trivial⟩ (zbc (sl_b (kb_I _)) (zbc (ptr_bnd _ (by first | omega | (simp only [List.length_append, List.length_cons, List.length_nil]; omega))) (zbc (ptr_bnd _ (by first | omega | (simp only [List.length_append, List.length_cons, List.length_nil]; omega))) (zbc (ptr_bnd _ (by first | omega | (simp only [List.length_append, List.length_cons, List.length_nil]; omega))) (zbc zPb (zbc zPb bnd_nil)))))) (zNb rfl) (by simp only [znz] <;> rfl) (bxle_same (bxle_same (bxle_same bxle_nil))) rfl (by simp only [znz] <;> rfl) (bl_cons (zbc zPb (zbc zPb (zbc zPb (zbc zPb (zbc zPb (zbc zPb (zbc zPb bnd_nil))))))) (bl_cons (zbc zPb (zbc zPb (zbc zPb (zbc zPb (zbc (sl_b kb_Ent) (zbc (sl_ob kb_Rf (by first | omega | (simp only [List.length_append, List.length_cons, List.length_nil, ext_fr_length, upd_fr_length]; omega))) (zbc zPb bnd_nil))))))) (bl_cons (zbc (sl_b (kb_I _)) (zbc zPb bnd_nil)) bl_nil))) ?_
        exact ⟨m_z_14, Nat.lt_succ_self _, (IntKind.u64.wrap (t_13.1 + 1), (t_13.2.1 ++ ([(⟨IntKind.i64.wrap (x_15.2), x_16.2⟩ : Rf)] : (List Rf))), x_16.1), ⟨le_of_eq (eg oz), le_of_eq (eg (os rfl oz)), le_of_eq (eg (os rfl (os rfl oz))), le_of_eq (eg (os rfl (os rfl (os rfl oz)))), le_of_eq (eg (os rfl (os rfl (os rfl (os rfl oz))))), le_of_eq (eg (os rfl (os rfl (os rfl (os rfl (os rfl oz)))))), trivial⟩, rfl, hz_12⟩
      · skip
        replace hz_14 := ifb_f hz_14 hc
        clear hc
        refine aw_exit ?_
        obtain rfl := some_of hz_14
        replace hz_12 := ocs_r hz_12
        refine wk_no ?_
        refine wk_yesN rfl (l := [(0, sl (kI .u8) none none p0), (2, ptr (s.boxes.length + 0) 0), (4, ptr (s.boxes.length + 1) 0), (5, ptr (s.boxes.length + 2) 0)]) (bs' := [⟨88, [pl (.int .i64 0), pl (.int .u64 0), pl (.bool false), pl (.string ⟨#[]⟩), pl (.slice none 0 0), pl (.slice none 0 0), pl (.slice none 0 0)]⟩, ⟨88, [pl (.int .i64 (IntKind.i64.wrap (x_1.2))), pl (.int .u64 x_2.2), pl (.bool (decide (x_3.2 = 1))), pl (.string x_4.2), sl kEnt none none vz_6.1, sl kRf none none t_13.2.1, pl (.slice none 0 0)]⟩, ⟨41, [sl (kI .u8) none none t_13.2.2.b_, pl (.bool t_13.2.2.wrong_)]⟩]) ⟨le_of_eq (eg oz), le_of_eq (eg (os rfl oz)), le_of_eq (eg (os rfl (os rfl oz))), le_of_eq (eg (os rfl (os rfl (os rfl oz)))), trivial⟩ (zbc (sl_b (kb_I _)) (zbc (ptr_bnd _ (by first | omega | (simp only [List.length_append, List.length_cons, List.length_nil]; omega))) (zbc (ptr_bnd _ (by first | omega | (simp only [List.length_append, List.length_cons, List.length_nil]; omega))) (zbc (ptr_bnd _ (by first | omega | (simp only [List.length_append, List.length_cons, List.length_nil]; omega))) bnd_nil)))) (zNb rfl) (by simp only [znz] <;> rfl) (bxle_same (bxle_cons (B := ⟨88, [_, _, _, _, _, _, _]⟩) (@Eq.refl TypeId 88) (lel_cons zLr (lel_cons zLr (lel_cons zLr (lel_cons zLr (lel_cons zLr (lel_cons (sl_le _ (some (s.fr.length + 0)) none _) (lel_cons zLr lel_nil))))))) (bxle_same bxle_nil))) rfl (by simp only [znz] <;> rfl) (bl_cons (zbc zPb (zbc zPb (zbc zPb (zbc zPb (zbc zPb (zbc zPb (zbc zPb bnd_nil))))))) (bl_cons (zbc zPb (zbc zPb (zbc zPb (zbc zPb (zbc (sl_b kb_Ent) (zbc (sl_b kb_Rf) (zbc zPb bnd_nil))))))) (bl_cons (zbc (sl_b (kb_I _)) (zbc zPb bnd_nil)) bl_nil))) ?_
        exact ⟨(t_13.2.1, t_13.2.2), ⟨le_of_eq (eg oz), le_of_eq (eg (os rfl oz)), le_of_eq (eg (os rfl (os rfl oz))), le_of_eq (eg (os rfl (os rfl (os rfl oz)))), trivial⟩, rfl, some_of hz_12⟩
    · rintro e st ⟨vz_12, hH, rfl, rfl⟩
      refine aw_keep _ hH ?_
      refine aw_keep [(0, _), (2, _), (4, _), (5, _)] ⟨lg oz, lg (os rfl oz), lg (os rfl (os rfl oz)), lg (os rfl (os rfl (os rfl oz))), trivial⟩ ?_
      refine aw_seq ?_
      refine aw_region (by decide) ?_
      refine rts _ rfl (opD_load_aggX (qs := [_, _]) ag41_u3b sz41_u3b (os rfl (os rfl (os rfl oz))) (loc_getN rfl rfl) (zNb rfl) rfl) ?_
      replace h0 := bnd_some h0
      obtain ⟨x_17, hx_17, h0⟩ := h0
      refine rts _ rfl (opD_pure ht99_u3b (c_rnum2 hx_17) ⟨(le_of_eq lz).trans (agg_le ⟨zLr, zLr, trivial⟩), le_of_eq (ev_const _ _), trivial⟩) ?_
      refine rts _ rfl (opD_move lz) ?_
      refine rts _ rfl (opD_extract lz rfl) ?_
      refine rts _ rfl (opD_extract (ls rfl lz) rfl) ?_
      refine rts _ rfl (storeAN rfl sz41_u3b (ls rfl (ls rfl (ls rfl (ls rfl (ls rfl (os rfl (os rfl (os rfl oz)))))))) (ls rfl lz) (ones_cons (one_sl _ _ _ _) (ones_cons (one_pl rfl) ones_nil)) rfl rfl (zNb rfl) (List.cons_ne_nil _ _) (zbc (sl_b (kb_I _)) (zbc zPb bnd_nil)) (by simp only [znz] <;> rfl) (by simp only [znz] <;> rfl)) ?_
      refine rts _ rfl (opD_assign (lx lz)) ?_
      refine .nil ?_
      refine aw_keep [(0, _), (2, _), (4, _), (5, _), (8, _)] ⟨lg (ls rfl (lx (ls rfl (ls rfl (ls rfl (ls rfl (ls rfl oz))))))), lg (ls rfl (lx (ls rfl (ls rfl (ls rfl (ls rfl (ls rfl (os rfl oz)))))))), lg (ls rfl (lx (ls rfl (ls rfl (ls rfl (ls rfl (ls rfl (os rfl (os rfl oz))))))))), lg (ls rfl (lx (ls rfl (ls rfl (ls rfl (ls rfl (ls rfl (os rfl (os rfl (os rfl oz)))))))))), lg lz, trivial⟩ ?_
      refine aw_seq ?_
      refine aw_seq ?_
      refine aw_region (by decide) ?_
      refine rts _ rfl (opD_assign (ev_const _ _)) ?_
      refine .nil ?_
      refine aw_keep [(0, _), (2, _), (4, _), (5, _), (8, _), (13, _)] ⟨lg (ls rfl oz), lg (ls rfl (os rfl oz)), lg (ls rfl (os rfl (os rfl oz))), lg (ls rfl (os rfl (os rfl (os rfl oz)))), lg (ls rfl (os rfl (os rfl (os rfl (os rfl oz))))), lg lz, trivial⟩ ?_
      replace h0 := bnd_some h0
      obtain ⟨z_18, hz_18, h0⟩ := h0
      refine aw_mid (fun e st => ∃ v : (List Lin) × Rdr, Holds e [(0, sl (kI .u8) none none p0), (2, ptr (s.boxes.length + 0) 0), (4, ptr (s.boxes.length + 1) 0), (5, ptr (s.boxes.length + 2) 0)] ∧ st = s.ext [⟨88, [pl (.int .i64 0), pl (.int .u64 0), pl (.bool false), pl (.string ⟨#[]⟩), pl (.slice none 0 0), pl (.slice none 0 0), pl (.slice none 0 0)]⟩, ⟨88, [pl (.int .i64 (IntKind.i64.wrap (x_1.2))), pl (.int .u64 x_2.2), pl (.bool (decide (x_3.2 = 1))), pl (.string x_4.2), sl kEnt none none vz_6.1, sl kRf none none vz_12.1, sl kLin none none v.1]⟩, ⟨41, [sl (kI .u8) none none v.2.b_, pl (.bool v.2.wrong_)]⟩] [] ∧ v = z_18) ?_ ?_
      · skip
        refine aw_wkN rfl 3 0 rfl rfl ?_
        refine aw_block ?_
        refine aw_fr ⟨60, 5, 0⟩ ?_
        refine aw_wkBN rfl (bs' := [⟨88, [pl (.int .i64 0), pl (.int .u64 0), pl (.bool false), pl (.string ⟨#[]⟩), pl (.slice none 0 0), pl (.slice none 0 0), pl (.slice none 0 0)]⟩, ⟨88, [pl (.int .i64 (IntKind.i64.wrap (x_1.2))), pl (.int .u64 x_2.2), pl (.bool (decide (x_3.2 = 1))), pl (.string x_4.2), sl kEnt none none vz_6.1, sl kRf none none vz_12.1, sl kLin (some (s.fr.length + 0)) none []]⟩, ⟨41, [sl (kI .u8) none none x_17.1.b_, pl (.bool x_17.1.wrong_)]⟩]) (bxle_same (bxle_cons (B := ⟨88, [_, _, _, _, _, _, _]⟩) (@Eq.refl TypeId 88) (lel_cons zLr (lel_cons zLr (lel_cons zLr (lel_cons zLr (lel_cons zLr (lel_cons zLr (lel_cons (nil_own rfl) lel_nil))))))) (bxle_same bxle_nil))) (bl_cons (zbc zPb (zbc zPb (zbc zPb (zbc zPb (zbc zPb (zbc zPb (zbc zPb bnd_nil))))))) (bl_cons (zbc zPb (zbc zPb (zbc zPb (zbc zPb (zbc (sl_b kb_Ent) (zbc (sl_b kb_Rf) (zbc (sl_ob kb_Lin (by first | omega | (simp only [List.length_append, List.length_cons, List.length_nil, ext_fr_length, upd_fr_length]; omega))) bnd_nil))))))) (bl_cons (zbc (sl_b (kb_I _)) (zbc zPb bnd_nil)) bl_nil))) ?_
        refine aw_loop (fun n e st => ∃ v : Int × (List Lin) × Rdr, Holds e [(0, sl (kI .u8) none none p0), (2, ptr (s.boxes.length + 0) 0), (4, ptr (s.boxes.length + 1) 0), (5, ptr (s.boxes.length + 2) 0), (8, pl (.int .u64 x_17.2)), (13, pl (.int .u64 v.1))] ∧ st = s.ext [⟨88, [pl (.int .i64 0), pl (.int .u64 0), pl (.bool false), pl (.string ⟨#[]⟩), pl (.slice none 0 0), pl (.slice none 0 0), pl (.slice none 0 0)]⟩, ⟨88, [pl (.int .i64 (IntKind.i64.wrap (x_1.2))), pl (.int .u64 x_2.2), pl (.bool (decide (x_3.2 = 1))), pl (.string x_4.2), sl kEnt none none vz_6.1, sl kRf none none vz_12.1, sl kLin (some (s.fr.length + 0)) none v.2.1]⟩, ⟨41, [sl (kI .u8) none none v.2.2.b_, pl (.bool v.2.2.wrong_)]⟩] [⟨60, 5, v.2.1.length⟩] ∧ lp (F_rdec2_b2 x_17) n v = some z_18) fl ⟨(0, ([] : (List Lin)), x_17.1), ⟨le_of_eq (eg oz), le_of_eq (eg (os rfl oz)), le_of_eq (eg (os rfl (os rfl oz))), le_of_eq (eg (os rfl (os rfl (os rfl oz)))), le_of_eq (eg (os rfl (os rfl (os rfl (os rfl oz))))), le_of_eq (eg (os rfl (os rfl (os rfl (os rfl (os rfl oz)))))), trivial⟩, rfl, hz_18⟩ ?_
        rintro n e st ⟨t_19, hH, rfl, hz_18⟩
        replace hz_18 := lp_some hz_18
        obtain ⟨m_z_20, z_20, rfl, hz_20, hz_18⟩ := hz_18
        unfold F_rdec2_b2 at hz_20
        refine aw_keep _ hH ?_
        refine aw_wkN rfl 3 1 rfl rfl ?_
        refine aw_seq ?_
        refine aw_seq ?_
        refine aw_region (by decide) ?_
        refine rts _ rfl (opD_move (os rfl (os rfl (os rfl (os rfl (os rfl oz)))))) ?_
        refine rts _ rfl (opD_move (ls rfl (os rfl (os rfl (os rfl (os rfl oz)))))) ?_
        refine rts _ rfl (opD_lss (ls rfl lz) lz) ?_
        refine .nil ?_
        refine aw_keep [(0, _), (2, _), (4, _), (5, _), (8, _), (13, _), (111, _)] ⟨lg (ls rfl (ls rfl (ls rfl oz))), lg (ls rfl (ls rfl (ls rfl (os rfl oz)))), lg (ls rfl (ls rfl (ls rfl (os rfl (os rfl oz))))), lg (ls rfl (ls rfl (ls rfl (os rfl (os rfl (os rfl oz)))))), lg (ls rfl (ls rfl (ls rfl (os rfl (os rfl (os rfl (os rfl oz))))))), lg (ls rfl (ls rfl (ls rfl (os rfl (os rfl (os rfl (os rfl (os rfl oz)))))))), lg lz, trivial⟩ ?_
        refine aw_cond _ (os rfl (os rfl (os rfl (os rfl (os rfl (os rfl oz)))))) (fun hc => ?_) (fun hc => ?_)
        · skip
          replace hz_20 := ifb_t hz_20 hc
          clear hc
          refine aw_skip ?_
          refine aw_keep [(0, _), (2, _), (4, _), (5, _), (8, _), (13, _)] ⟨lg oz, lg (os rfl oz), lg (os rfl (os rfl oz)), lg (os rfl (os rfl (os rfl oz))), lg (os rfl (os rfl (os rfl (os rfl oz)))), lg (os rfl (os rfl (os rfl (os rfl (os rfl oz))))), trivial⟩ ?_
          refine aw_seq ?_
          refine aw_block ?_
          refine aw_seq ?_
          refine aw_region (by decide) ?_
          refine rts _ rfl (allocN rfl zt60_u3b (by first | exact List.length_nil | (simp only [List.length_cons, List.length_nil, Nat.zero_add, Nat.reduceAdd] <;> rfl)) (by simp only [znz] <;> rfl)) ?_
          refine .nil ?_
          refine aw_keep [(0, _), (2, _), (4, _), (5, _), (8, _), (13, _), (14, _)] ⟨lg (ls rfl oz), lg (ls rfl (os rfl oz)), lg (ls rfl (os rfl (os rfl oz))), lg (ls rfl (os rfl (os rfl (os rfl oz)))), lg (ls rfl (os rfl (os rfl (os rfl (os rfl oz))))), lg (ls rfl (os rfl (os rfl (os rfl (os rfl (os rfl oz)))))), lg lz, trivial⟩ ?_
          refine aw_seq ?_
          refine aw_region (by decide) ?_
          refine rts _ rfl (opD_load_aggX (qs := [_, _]) ag41_u3b sz41_u3b (os rfl (os rfl (os rfl oz))) (loc_getN rfl rfl) (zNb rfl) rfl) ?_
          replace hz_20 := bnd_some hz_20
          obtain ⟨x_21, hx_21, hz_20⟩ := hz_20
          refine rts _ rfl (opD_pure ht99_u3b (c_rnum2 hx_21) ⟨(le_of_eq lz).trans (agg_le ⟨zLr, zLr, trivial⟩), le_of_eq (ev_const _ _), trivial⟩) ?_
          refine rts _ rfl (opD_move lz) ?_
          refine rts _ rfl (opD_extract lz rfl) ?_
          refine rts _ rfl (opD_extract (ls rfl lz) rfl) ?_
          refine rts _ rfl (storeAN rfl sz41_u3b (ls rfl (ls rfl (ls rfl (ls rfl (ls rfl (os rfl (os rfl (os rfl oz)))))))) (ls rfl lz) (ones_cons (one_sl _ _ _ _) (ones_cons (one_pl rfl) ones_nil)) rfl rfl (zNb rfl) (List.cons_ne_nil _ _) (zbc (sl_b (kb_I _)) (zbc zPb bnd_nil)) (by simp only [znz] <;> rfl) (by simp only [znz] <;> rfl)) ?_
          refine rts _ rfl (opD_fieldAddr fo60_0_u3b (lx (ls rfl (ls rfl (ls rfl (ls rfl (ls rfl (os rfl (os rfl (os rfl (os rfl (os rfl (os rfl oz))))))))))))) ?_
          refine rts _ rfl (storeON rfl sz22_u3b lz (le_of_eq (ls rfl (lx lz))) (one_pl rfl) rfl (zNb rfl) zPb (by simp only [znz] <;> rfl) (by simp only [znz] <;> rfl)) ?_
          refine .nil ?_
          refine aw_keep [(0, _), (2, _), (4, _), (5, _), (8, _), (13, _), (14, _)] ⟨lg (lx (ls rfl (lx (ls rfl (ls rfl (ls rfl (ls rfl (ls rfl oz)))))))), lg (lx (ls rfl (lx (ls rfl (ls rfl (ls rfl (ls rfl (ls rfl (os rfl oz))))))))), lg (lx (ls rfl (lx (ls rfl (ls rfl (ls rfl (ls rfl (ls rfl (os rfl (os rfl oz)))))))))), lg (lx (ls rfl (lx (ls rfl (ls rfl (ls rfl (ls rfl (ls rfl (os rfl (os rfl (os rfl oz))))))))))), lg (lx (ls rfl (lx (ls rfl (ls rfl (ls rfl (ls rfl (ls rfl (os rfl (os rfl (os rfl (os rfl oz)))))))))))), lg (lx (ls rfl (lx (ls rfl (ls rfl (ls rfl (ls rfl (ls rfl (os rfl (os rfl (os rfl (os rfl (os rfl oz))))))))))))), lg (lx (ls rfl (lx (ls rfl (ls rfl (ls rfl (ls rfl (ls rfl (os rfl (os rfl (os rfl (os rfl (os rfl (os rfl oz)))))))))))))), trivial⟩ ?_
          refine aw_seq ?_
          refine aw_region (by decide) ?_
          refine rts _ rfl (opD_load_aggX (qs := [_, _]) ag41_u3b sz41_u3b (os rfl (os rfl (os rfl oz))) (loc_getN rfl rfl) (zNb rfl) rfl) ?_
          replace hz_20 := bnd_some hz_20
          obtain ⟨x_22, hx_22, hz_20⟩ := hz_20
          refine rts _ rfl (opD_pure ht99_u3b (c_rnum2 hx_22) ⟨(le_of_eq lz).trans (agg_le ⟨zLr, zLr, trivial⟩), le_of_eq (ev_const _ _), trivial⟩) ?_
          refine rts _ rfl (opD_move lz) ?_
          refine rts _ rfl (opD_extract lz rfl) ?_
          refine rts _ rfl (opD_extract (ls rfl lz) rfl) ?_
          refine rts _ rfl (storeAN rfl sz41_u3b (ls rfl (ls rfl (ls rfl (ls rfl (ls rfl (os rfl (os rfl (os rfl oz)))))))) (ls rfl lz) (ones_cons (one_sl _ _ _ _) (ones_cons (one_pl rfl) ones_nil)) rfl rfl (zNb rfl) (List.cons_ne_nil _ _) (zbc (sl_b (kb_I _)) (zbc zPb bnd_nil)) (by simp only [znz] <;> rfl) (by simp only [znz] <;> rfl)) ?_
          refine rts _ rfl (opD_fieldAddr fo60_1_u3b (lx (ls rfl (ls rfl (ls rfl (ls rfl (ls rfl (os rfl (os rfl (os rfl (os rfl (os rfl (os rfl oz))))))))))))) ?_
          refine rts _ rfl (storeON rfl sz22_u3b lz (le_of_eq (ls rfl (lx lz))) (one_pl rfl) rfl (zNb rfl) zPb (by simp only [znz] <;> rfl) (by simp only [znz] <;> rfl)) ?_
          refine .nil ?_
          refine aw_keep [(0, _), (2, _), (4, _), (5, _), (8, _), (13, _), (14, _)] ⟨lg (lx (ls rfl (lx (ls rfl (ls rfl (ls rfl (ls rfl (ls rfl oz)))))))), lg (lx (ls rfl (lx (ls rfl (ls rfl (ls rfl (ls rfl (ls rfl (os rfl oz))))))))), lg (lx (ls rfl (lx (ls rfl (ls rfl (ls rfl (ls rfl (ls rfl (os rfl (os rfl oz)))))))))), lg (lx (ls rfl (lx (ls rfl (ls rfl (ls rfl (ls rfl (ls rfl (os rfl (os rfl (os rfl oz))))))))))), lg (lx (ls rfl (lx (ls rfl (ls rfl (ls rfl (ls rfl (ls rfl (os rfl (os rfl (os rfl (os rfl oz)))))))))))), lg (lx (ls rfl (lx (ls rfl (ls rfl (ls rfl (ls rfl (ls rfl (os rfl (os rfl (os rfl (os rfl (os rfl oz))))))))))))), lg (lx (ls rfl (lx (ls rfl (ls rfl (ls rfl (ls rfl (ls rfl (os rfl (os rfl (os rfl (os rfl (os rfl (os rfl oz)))))))))))))), trivial⟩ ?_
          refine aw_seq ?_
          refine aw_region (by decide) ?_
          refine rts _ rfl (opD_load_aggX (qs := [_, _]) ag41_u3b sz41_u3b (os rfl (os rfl (os rfl oz))) (loc_getN rfl rfl) (zNb rfl) rfl) ?_
          replace hz_20 := bnd_some hz_20
          obtain ⟨x_23, hx_23, hz_20⟩ := hz_20
          refine rts _ rfl (opD_pure ht100_u3b (c_rone2 hx_23) ⟨(le_of_eq lz).trans (agg_le ⟨zLr, zLr, trivial⟩), trivial⟩) ?_
          refine rts _ rfl (opD_move lz) ?_
          refine rts _ rfl (opD_extract lz rfl) ?_
          refine rts _ rfl (opD_extract (ls rfl lz) rfl) ?_
          refine rts _ rfl (storeAN rfl sz41_u3b (ls rfl (ls rfl (ls rfl (ls rfl (ls rfl (os rfl (os rfl (os rfl oz)))))))) (ls rfl lz) (ones_cons (one_sl _ _ _ _) (ones_cons (one_pl rfl) ones_nil)) rfl rfl (zNb rfl) (List.cons_ne_nil _ _) (zbc (sl_b (kb_I _)) (zbc zPb bnd_nil)) (by simp only [znz] <;> rfl) (by simp only [znz] <;> rfl)) ?_
          refine rts _ rfl (opD_fieldAddr fo60_2_u3b (lx (ls rfl (ls rfl (ls rfl (ls rfl (ls rfl (os rfl (os rfl (os rfl (os rfl (os rfl (os rfl oz))))))))))))) ?_
          refine rts _ rfl (storeON rfl sz5_u3b lz (le_of_eq (ls rfl (lx lz))) (one_pl rfl) rfl (zNb rfl) zPb (by simp only [znz] <;> rfl) (by simp only [znz] <;> rfl)) ?_
          refine .nil ?_
          refine aw_keep [(0, _), (2, _), (4, _), (5, _), (8, _), (13, _), (14, _)] ⟨lg (lx (ls rfl (lx (ls rfl (ls rfl (ls rfl (ls rfl (ls rfl oz)))))))), lg (lx (ls rfl (lx (ls rfl (ls rfl (ls rfl (ls rfl (ls rfl (os rfl oz))))))))), lg (lx (ls rfl (lx (ls rfl (ls rfl (ls rfl (ls rfl (ls rfl (os rfl (os rfl oz)))))))))), lg (lx (ls rfl (lx (ls rfl (ls rfl (ls rfl (ls rfl (ls rfl (os rfl (os rfl (os rfl oz))))))))))), lg (lx (ls rfl (lx (ls rfl (ls rfl (ls rfl (ls rfl (ls rfl (os rfl (os rfl (os rfl (os rfl oz)))))))))))), lg (lx (ls rfl (lx (ls rfl (ls rfl (ls rfl (ls rfl (ls rfl (os rfl (os rfl (os rfl (os rfl (os rfl oz))))))))))))), lg (lx (ls rfl (lx (ls rfl (ls rfl (ls rfl (ls rfl (ls rfl (os rfl (os rfl (os rfl (os rfl (os rfl (os rfl oz)))))))))))))), trivial⟩ ?_
          refine aw_seq ?_
          refine aw_region (by decide) ?_
          refine rts _ rfl (opD_load_aggX (qs := [_, _]) ag41_u3b sz41_u3b (os rfl (os rfl (os rfl oz))) (loc_getN rfl rfl) (zNb rfl) rfl) ?_
          replace hz_20 := bnd_some hz_20
          obtain ⟨x_24, hx_24, hz_20⟩ := hz_20
          refine rts _ rfl (opD_pure ht99_u3b (c_rnum2 hx_24) ⟨(le_of_eq lz).trans (agg_le ⟨zLr, zLr, trivial⟩), le_of_eq (ev_const _ _), trivial⟩) ?_
          refine rts _ rfl (opD_move lz) ?_
          refine rts _ rfl (opD_extract lz rfl) ?_
          refine rts _ rfl (opD_extract (ls rfl lz) rfl) ?_
          refine rts _ rfl (storeAN rfl sz41_u3b (ls rfl (ls rfl (ls rfl (ls rfl (ls rfl (os rfl (os rfl (os rfl oz)))))))) (ls rfl lz) (ones_cons (one_sl _ _ _ _) (ones_cons (one_pl rfl) ones_nil)) rfl rfl (zNb rfl) (List.cons_ne_nil _ _) (zbc (sl_b (kb_I _)) (zbc zPb bnd_nil)) (by simp only [znz] <;> rfl) (by simp only [znz] <;> rfl)) ?_
          refine rts _ rfl (opD_assign (lx lz)) ?_
          refine .nil ?_
          refine aw_keep [(0, _), (2, _), (4, _), (5, _), (6, _), (8, _), (13, _), (14, _)] ⟨lg (ls rfl (lx (ls rfl (ls rfl (ls rfl (ls rfl (ls rfl oz))))))), lg (ls rfl (lx (ls rfl (ls rfl (ls rfl (ls rfl (ls rfl (os rfl oz)))))))), lg (ls rfl (lx (ls rfl (ls rfl (ls rfl (ls rfl (ls rfl (os rfl (os rfl oz))))))))), lg (ls rfl (lx (ls rfl (ls rfl (ls rfl (ls rfl (ls rfl (os rfl (os rfl (os rfl oz)))))))))), lg lz, lg (ls rfl (lx (ls rfl (ls rfl (ls rfl (ls rfl (ls rfl (os rfl (os rfl (os rfl (os rfl oz))))))))))), lg (ls rfl (lx (ls rfl (ls rfl (ls rfl (ls rfl (ls rfl (os rfl (os rfl (os rfl (os rfl (os rfl oz)))))))))))), lg (ls rfl (lx (ls rfl (ls rfl (ls rfl (ls rfl (ls rfl (os rfl (os rfl (os rfl (os rfl (os rfl (os rfl oz))))))))))))), trivial⟩ ?_
          refine aw_seq ?_
          refine aw_region (by decide) ?_
          refine rts _ rfl (opD_move (os rfl (os rfl (os rfl (os rfl oz))))) ?_
          refine rts _ rfl (opD_conv_int Tryd.underlying22 Tryd.underlying58 lz rfl) ?_
          refine rts _ rfl (opD_fieldAddr fo60_3_u3b (ls rfl (ls rfl (os rfl (os rfl (os rfl (os rfl (os rfl (os rfl (os rfl oz)))))))))) ?_
          refine rts _ rfl (storeON rfl sz58_u3b lz (le_of_eq (ls rfl lz)) (one_pl rfl) rfl (zNb rfl) zPb (by simp only [znz] <;> rfl) (by simp only [znz] <;> rfl)) ?_
          refine .nil ?_
          refine aw_keep [(0, _), (2, _), (4, _), (5, _), (8, _), (13, _), (14, _)] ⟨lg (lx (ls rfl (ls rfl (ls rfl oz)))), lg (lx (ls rfl (ls rfl (ls rfl (os rfl oz))))), lg (lx (ls rfl (ls rfl (ls rfl (os rfl (os rfl oz)))))), lg (lx (ls rfl (ls rfl (ls rfl (os rfl (os rfl (os rfl oz))))))), lg (lx (ls rfl (ls rfl (ls rfl (os rfl (os rfl (os rfl (os rfl (os rfl oz))))))))), lg (lx (ls rfl (ls rfl (ls rfl (os rfl (os rfl (os rfl (os rfl (os rfl (os rfl oz)))))))))), lg (lx (ls rfl (ls rfl (ls rfl (os rfl (os rfl (os rfl (os rfl (os rfl (os rfl (os rfl oz))))))))))), trivial⟩ ?_
          refine aw_seq ?_
          refine aw_region (by decide) ?_
          refine rts _ rfl (opD_load_aggX (qs := [_, _]) ag41_u3b sz41_u3b (os rfl (os rfl (os rfl oz))) (loc_getN rfl rfl) (zNb rfl) rfl) ?_
          replace hz_20 := bnd_some hz_20
          obtain ⟨x_25, hx_25, hz_20⟩ := hz_20
          refine rts _ rfl (opD_pure ht101_u3b (c_rtext2 hx_25) ⟨(le_of_eq lz).trans (agg_le ⟨zLr, zLr, trivial⟩), trivial⟩) ?_
          refine rts _ rfl (opD_move lz) ?_
          refine rts _ rfl (opD_extract lz rfl) ?_
          refine rts _ rfl (opD_extract (ls rfl lz) rfl) ?_
          refine rts _ rfl (storeAN rfl sz41_u3b (ls rfl (ls rfl (ls rfl (ls rfl (ls rfl (os rfl (os rfl (os rfl oz)))))))) (ls rfl lz) (ones_cons (one_sl _ _ _ _) (ones_cons (one_pl rfl) ones_nil)) rfl rfl (zNb rfl) (List.cons_ne_nil _ _) (zbc (sl_b (kb_I _)) (zbc zPb bnd_nil)) (by simp only [znz] <;> rfl) (by simp only [znz] <;> rfl)) ?_
          refine rts _ rfl (opD_fieldAddr fo60_4_u3b (lx (ls rfl (ls rfl (ls rfl (ls rfl (ls rfl (os rfl (os rfl (os rfl (os rfl (os rfl (os rfl oz))))))))))))) ?_
          refine rts _ rfl (storeON rfl sz9_u3b lz (le_of_eq (ls rfl (lx lz))) (one_pl rfl) rfl (zNb rfl) zPb (by simp only [znz] <;> rfl) (by simp only [znz] <;> rfl)) ?_
          refine .nil ?_
          refine aw_keep [(0, _), (2, _), (4, _), (5, _), (8, _), (13, _), (14, _)] ⟨lg (lx (ls rfl (lx (ls rfl (ls rfl (ls rfl (ls rfl (ls rfl oz)))))))), lg (lx (ls rfl (lx (ls rfl (ls rfl (ls rfl (ls rfl (ls rfl (os rfl oz))))))))), lg (lx (ls rfl (lx (ls rfl (ls rfl (ls rfl (ls rfl (ls rfl (os rfl (os rfl oz)))))))))), lg (lx (ls rfl (lx (ls rfl (ls rfl (ls rfl (ls rfl (ls rfl (os rfl (os rfl (os rfl oz))))))))))), lg (lx (ls rfl (lx (ls rfl (ls rfl (ls rfl (ls rfl (ls rfl (os rfl (os rfl (os rfl (os rfl oz)))))))))))), lg (lx (ls rfl (lx (ls rfl (ls rfl (ls rfl (ls rfl (ls rfl (os rfl (os rfl (os rfl (os rfl (os rfl oz))))))))))))), lg (lx (ls rfl (lx (ls rfl (ls rfl (ls rfl (ls rfl (ls rfl (os rfl (os rfl (os rfl (os rfl (os rfl (os rfl oz)))))))))))))), trivial⟩ ?_
          refine aw_region (by decide) ?_
          refine rts _ rfl (opD_fieldAddr fo88_6_u3b (os rfl (os rfl oz))) ?_
          refine rts _ rfl (opD_load_one ag54_u3b lz (loc_getN rfl rfl) rfl) ?_
          refine rts _ rfl (opD_load_aggX (qs := [_, _, _, _, _]) ag60_u3b sz60_u3b (ls rfl (ls rfl (os rfl (os rfl (os rfl (os rfl (os rfl (os rfl oz)))))))) (loc_getN rfl rfl) (zNb rfl) rfl) ?_
          refine rts _ rfl (opD_buildOwn (k := kLin) ([(⟨x_21.2, x_22.2, x_23.2, IntKind.u16.wrap (x_24.2), x_25.2⟩ : Lin)] : (List Lin)) Tryd.underlying54 sz60_u3b zt60_u3b (by decide) rfl (parts_cons (cellsA lz) parts_nil) rfl rfl (by first | exact List.length_nil | (simp only [List.length_cons, List.length_nil, Nat.zero_add, Nat.reduceAdd] <;> rfl)) (by simp only [znz] <;> rfl)) ?_
          replace hz_20 := grd_some hz_20
          obtain ⟨hg_18, hz_20⟩ := hz_20
          refine rts _ rfl (opD_appendX Tryd.underlying54 el60_u3b (ls rfl (ls rfl lz)) lz rfl hg_18.1 hg_18.2 rfl (by simp only [znz] <;> rfl)) ?_
          refine rts _ rfl (opD_fieldAddr fo88_6_u3b (ls rfl (ls rfl (ls rfl (ls rfl (ls rfl (os rfl (os rfl oz)))))))) ?_
          refine rts _ rfl (storeON rfl sz54_u3b lz (le_of_eq (ls rfl lz)) (one_sl _ _ _ _) rfl (zNb rfl) (sl_ob kb_Lin (by first | omega | (simp only [List.length_append, List.length_cons, List.length_nil, ext_fr_length, upd_fr_length]; omega))) (by simp only [znz] <;> rfl) (by simp only [znz] <;> rfl)) ?_
          refine .nil ?_
          refine aw_keep [(0, _), (2, _), (4, _), (5, _), (8, _), (13, _)] ⟨lg (lx (ls rfl (ls rfl (ls rfl (ls rfl (ls rfl (ls rfl oz))))))), lg (lx (ls rfl (ls rfl (ls rfl (ls rfl (ls rfl (ls rfl (os rfl oz)))))))), lg (lx (ls rfl (ls rfl (ls rfl (ls rfl (ls rfl (ls rfl (os rfl (os rfl oz))))))))), lg (lx (ls rfl (ls rfl (ls rfl (ls rfl (ls rfl (ls rfl (os rfl (os rfl (os rfl oz)))))))))), lg (lx (ls rfl (ls rfl (ls rfl (ls rfl (ls rfl (ls rfl (os rfl (os rfl (os rfl (os rfl oz))))))))))), lg (lx (ls rfl (ls rfl (ls rfl (ls rfl (ls rfl (ls rfl (os rfl (os rfl (os rfl (os rfl (os rfl oz)))))))))))), trivial⟩ ?_
          refine aw_region (by decide) ?_
          refine rts _ rfl (opD_move (os rfl (os rfl (os rfl (os rfl (os rfl oz)))))) ?_
          refine rts _ rfl (opD_add lz (ev_const _ _) rfl) ?_
          refine rts _ rfl (opD_assign lz) ?_
          refine .nil ?_
          obtain rfl := some_of hz_20
          replace hz_18 := ocs_l hz_18
          refine wk_yesN rfl (l := [(0, sl (kI .u8) none none p0), (2, ptr (s.boxes.length + 0) 0), (4, ptr (s.boxes.length + 1) 0), (5, ptr (s.boxes.length + 2) 0), (8, pl (.int .u64 x_17.2)), (13, pl (.int .u64 (IntKind.u64.wrap (t_19.1 + 1))))]) (bs' := [⟨88, [pl (.int .i64 0), pl (.int .u64 0), pl (.bool false), pl (.string ⟨#[]⟩), pl (.slice none 0 0), pl (.slice none 0 0), pl (.slice none 0 0)]⟩, ⟨88, [pl (.int .i64 (IntKind.i64.wrap (x_1.2))), pl (.int .u64 x_2.2), pl (.bool (decide (x_3.2 = 1))), pl (.string x_4.2), sl kEnt none none vz_6.1, sl kRf none none vz_12.1, sl kLin (some (s.fr.length + 0)) none (t_19.2.1 ++ ([(⟨x_21.2, x_22.2, x_23.2, IntKind.u16.wrap (x_24.2), x_25.2⟩ : Lin)] : (List Lin)))]⟩, ⟨41, [sl (kI .u8) none none x_25.1.b_, pl (.bool x_25.1.wrong_)]⟩]) ⟨le_of_eq (eg (ls rfl (ls rfl (ls rfl oz)))), le_of_eq (eg (ls rfl (ls rfl (ls rfl (os rfl oz))))), le_of_eq (eg (ls rfl (ls rfl (ls rfl (os rfl (os rfl oz)))))), le_of_eq (eg (ls rfl (ls rfl (ls rfl (os rfl (os rfl (os rfl oz))))))), le_of_eq (eg (ls rfl (ls rfl (ls rfl (os rfl (os rfl (os rfl (os rfl oz)))))))), le_of_eq (eg lz), trivial⟩ (zbc (sl_b (kb_I _)) (zbc (ptr_bnd _ (by first | omega | (simp only [List.length_append, List.length_cons, List.length_nil]; omega))) (zbc (ptr_bnd _ (by first | omega | (simp only [List.length_append, List.length_cons, List.length_nil]; omega))) (zbc (ptr_bnd _ (by first | omega | (simp only [List.length_append, List.length_cons, List.length_nil]; omega))) (zbc zPb (zbc zPb bnd_nil)))))) (zNb rfl) (by simp only [znz] <;> rfl) (bxle_same (bxle_same (bxle_same bxle_nil))) rfl (by simp only [znz] <;> rfl) (bl_cons (zbc zPb (zbc zPb (zbc zPb (zbc zPb (zbc zPb (zbc zPb (zbc zPb bnd_nil))))))) (bl_cons (zbc zPb (zbc zPb (zbc zPb (zbc zPb (zbc (sl_b kb_Ent) (zbc (sl_b kb_Rf) (zbc (sl_ob kb_Lin (by first | omega | (simp only [List.length_append, List.length_cons, List.length_nil, ext_fr_length, upd_fr_length]; omega))) bnd_nil))))))) (bl_cons (zbc (sl_b (kb_I _)) (zbc zPb bnd_nil)) bl_nil))) ?_
          exact ⟨m_z_20, Nat.lt_succ_self _, (IntKind.u64.wrap (t_19.1 + 1), (t_19.2.1 ++ ([(⟨x_21.2, x_22.2, x_23.2, IntKind.u16.wrap (x_24.2), x_25.2⟩ : Lin)] : (List Lin))), x_25.1), ⟨le_of_eq (eg oz), le_of_eq (eg (os rfl oz)), le_of_eq (eg (os rfl (os rfl oz))), le_of_eq (eg (os rfl (os rfl (os rfl oz)))), le_of_eq (eg (os rfl (os rfl (os rfl (os rfl oz))))), le_of_eq (eg (os rfl (os rfl (os rfl (os rfl (os rfl oz)))))), trivial⟩, rfl, hz_18⟩
        · skip
          replace hz_20 := ifb_f hz_20 hc
          clear hc
          refine aw_exit ?_
          obtain rfl := some_of hz_20
          replace hz_18 := ocs_r hz_18
          refine wk_no ?_
          refine wk_yesN rfl (l := [(0, sl (kI .u8) none none p0), (2, ptr (s.boxes.length + 0) 0), (4, ptr (s.boxes.length + 1) 0), (5, ptr (s.boxes.length + 2) 0)]) (bs' := [⟨88, [pl (.int .i64 0), pl (.int .u64 0), pl (.bool false), pl (.string ⟨#[]⟩), pl (.slice none 0 0), pl (.slice none 0 0), pl (.slice none 0 0)]⟩, ⟨88, [pl (.int .i64 (IntKind.i64.wrap (x_1.2))), pl (.int .u64 x_2.2), pl (.bool (decide (x_3.2 = 1))), pl (.string x_4.2), sl kEnt none none vz_6.1, sl kRf none none vz_12.1, sl kLin none none t_19.2.1]⟩, ⟨41, [sl (kI .u8) none none t_19.2.2.b_, pl (.bool t_19.2.2.wrong_)]⟩]) ⟨le_of_eq (eg oz), le_of_eq (eg (os rfl oz)), le_of_eq (eg (os rfl (os rfl oz))), le_of_eq (eg (os rfl (os rfl (os rfl oz)))), trivial⟩ (zbc (sl_b (kb_I _)) (zbc (ptr_bnd _ (by first | omega | (simp only [List.length_append, List.length_cons, List.length_nil]; omega))) (zbc (ptr_bnd _ (by first | omega | (simp only [List.length_append, List.length_cons, List.length_nil]; omega))) (zbc (ptr_bnd _ (by first | omega | (simp only [List.length_append, List.length_cons, List.length_nil]; omega))) bnd_nil)))) (zNb rfl) (by simp only [znz] <;> rfl) (bxle_same (bxle_cons (B := ⟨88, [_, _, _, _, _, _, _]⟩) (@Eq.refl TypeId 88) (lel_cons zLr (lel_cons zLr (lel_cons zLr (lel_cons zLr (lel_cons zLr (lel_cons zLr (lel_cons (sl_le _ (some (s.fr.length + 0)) none _) lel_nil))))))) (bxle_same bxle_nil))) rfl (by simp only [znz] <;> rfl) (bl_cons (zbc zPb (zbc zPb (zbc zPb (zbc zPb (zbc zPb (zbc zPb (zbc zPb bnd_nil))))))) (bl_cons (zbc zPb (zbc zPb (zbc zPb (zbc zPb (zbc (sl_b kb_Ent) (zbc (sl_b kb_Rf) (zbc (sl_b kb_Lin) bnd_nil))))))) (bl_cons (zbc (sl_b (kb_I _)) (zbc zPb bnd_nil)) bl_nil))) ?_
          exact ⟨(t_19.2.1, t_19.2.2), ⟨le_of_eq (eg oz), le_of_eq (eg (os rfl oz)), le_of_eq (eg (os rfl (os rfl oz))), le_of_eq (eg (os rfl (os rfl (os rfl oz)))), trivial⟩, rfl, some_of hz_18⟩
      · rintro e st ⟨vz_18, hH, rfl, rfl⟩
        refine aw_keep _ hH ?_
        refine aw_keep [(0, _), (2, _), (4, _), (5, _)] ⟨lg oz, lg (os rfl oz), lg (os rfl (os rfl oz)), lg (os rfl (os rfl (os rfl oz))), trivial⟩ ?_
        refine aw_seq ?_
        refine aw_region (by decide) ?_
        refine rts _ rfl (opD_load_aggX (qs := [_, _, _, _, _, _, _]) ag88_u3b sz88_u3b (os rfl (os rfl oz)) (loc_getN rfl rfl) (zNb rfl) rfl) ?_
        replace h0 := bnd_some h0
        obtain ⟨x_26, hx_26, h0⟩ := h0
        refine rts _ rfl (opD_pure ht53_u3b (c_renc2 hx_26) ⟨(le_of_eq lz).trans (agg_le ⟨zLr, zLr, zLr, zLr, zLr, zLr, zLr, trivial⟩), trivial⟩) ?_
        refine rts _ rfl (opD_move lz) ?_
        refine rts _ rfl (opD_extract lz rfl) ?_
        refine rts _ rfl (opD_extract (ls rfl lz) rfl) ?_
        refine rts _ rfl (opD_assign (ls rfl lz)) ?_
        refine rts _ rfl (opD_assign (ls rfl lz)) ?_
        refine .nil ?_
        refine aw_keep [(0, _), (2, _), (4, _), (5, _), (15, _), (16, _)] ⟨lg (ls rfl (ls rfl (ls rfl (ls rfl (ls rfl (ls rfl (ls rfl oz))))))), lg (ls rfl (ls rfl (ls rfl (ls rfl (ls rfl (ls rfl (ls rfl (os rfl oz)))))))), lg (ls rfl (ls rfl (ls rfl (ls rfl (ls rfl (ls rfl (ls rfl (os rfl (os rfl oz))))))))), lg (ls rfl (ls rfl (ls rfl (ls rfl (ls rfl (ls rfl (ls rfl (os rfl (os rfl (os rfl oz)))))))))), lg (ls rfl lz), lg lz, trivial⟩ ?_
        refine aw_seq ?_
        refine aw_seq ?_
        refine aw_region (by decide) ?_
        refine rts _ rfl (opD_load_aggX (qs := [_, _]) ag41_u3b sz41_u3b (os rfl (os rfl (os rfl oz))) (loc_getN rfl rfl) (zNb rfl) rfl) ?_
        replace h0 := bnd_some h0
        obtain ⟨x_27, hx_27, h0⟩ := h0
        refine rts _ rfl (opD_pure ht34_u3b (c_oDDone hx_27) ⟨(le_of_eq lz).trans (agg_le ⟨zLr, zLr, trivial⟩), trivial⟩) ?_
        refine rts _ rfl (opD_not lz) ?_
        refine rts _ rfl (opD_move lz) ?_
        refine rtg _ rfl lz (fun hg37_4_19 => opD_move (ls rfl (ls rfl (ls rfl (ls rfl (os rfl (os rfl (os rfl (os rfl (os rfl oz)))))))))) ?_
        refine rtg _ rfl (ls rfl lz) (fun hg37_5_20 => opD_neq (lz.trans (pif_pos hg37_5_20)) (ev_const _ _)) ?_
        refine rts _ rfl (opD_or (ls rfl (ls rfl lz)) lz) ?_
        refine rts _ rfl (opD_move lz) ?_
        refine rtg _ rfl lz (fun hg37_8_21 => opD_move (ls rfl (ls rfl (ls rfl (ls rfl (ls rfl (ls rfl (ls rfl (ls rfl (os rfl (os rfl (os rfl (os rfl oz))))))))))))) ?_
        refine rtg _ rfl (ls rfl lz) (fun hg37_9_22 => opD_bytes_str Tryd.underlying23 Tryd.underlying5 Tryd.underlying9 (lz.trans (pif_pos hg37_9_22))) ?_
        refine rtg _ rfl (ls rfl (ls rfl lz)) (fun hg37_10_23 => opD_move (ls rfl (ls rfl (ls rfl (ls rfl (ls rfl (ls rfl (ls rfl (ls rfl (ls rfl (ls rfl oz))))))))))) ?_
        refine rtg _ rfl (ls rfl (ls rfl (ls rfl lz))) (fun hg37_11_24 => opD_bytes_str Tryd.underlying23 Tryd.underlying5 Tryd.underlying9 (lz.trans (pif_pos hg37_11_24))) ?_
        refine rtg _ rfl (ls rfl (ls rfl (ls rfl (ls rfl lz)))) (fun hg37_12_25 => opD_sneq ((ls rfl (ls rfl lz)).trans (pif_pos hg37_12_25)) (lz.trans (pif_pos hg37_12_25))) ?_
        refine rts _ rfl (opD_or (ls rfl (ls rfl (ls rfl (ls rfl (ls rfl lz))))) lz) ?_
        refine .nil ?_
        refine aw_keep [(2, _), (4, _), (170, _)] ⟨lg (ls rfl (ls rfl (ls rfl (ls rfl (ls rfl (ls rfl (ls rfl (ls rfl (ls rfl (ls rfl (ls rfl (ls rfl (ls rfl (ls rfl (os rfl oz))))))))))))))), lg (ls rfl (ls rfl (ls rfl (ls rfl (ls rfl (ls rfl (ls rfl (ls rfl (ls rfl (ls rfl (ls rfl (ls rfl (ls rfl (ls rfl (os rfl (os rfl oz)))))))))))))))), lg lz, trivial⟩ ?_
        refine aw_cond _ (os rfl (os rfl oz)) (fun hc => ?_) (fun hc => ?_)
        · skip
          replace h0 := ifb_t h0 hc
          clear hc
          refine aw_seq ?_
          refine aw_region (by decide) ?_
          refine rts _ rfl (opD_build_struct (rs := [_, _, _, _, _, _, _]) Tryd.underlying88 pt88_u3b zt88_u3b parts_nil rfl) ?_
          refine rts _ rfl (storeAN rfl sz88_u3b (ls rfl oz) lz (ones_cons (one_pl rfl) (ones_cons (one_pl rfl) (ones_cons (one_pl rfl) (ones_cons (one_pl rfl) (ones_cons (one_pl rfl) (ones_cons (one_pl rfl) (ones_cons (one_pl rfl) ones_nil))))))) rfl rfl (zNb rfl) (List.cons_ne_nil _ _) (zbc zPb (zbc zPb (zbc zPb (zbc zPb (zbc zPb (zbc zPb (zbc zPb bnd_nil))))))) (by simp only [znz] <;> rfl) (by simp only [znz] <;> rfl)) ?_
          refine rts _ rfl (opD_assign (ev_const _ _)) ?_
          refine .nil ?_
          refine aw_keep [(2, _), (3, _)] ⟨lg (ls rfl (lx (ls rfl oz))), lg lz, trivial⟩ ?_
          refine aw_ret ?_
          obtain rfl := some_of h0
          exact done_ext (.inr rfl) ((res_list (rs := [_, _]) (ps := [_, _]) rfl rfl ⟨it_cellA (B := ⟨88, [_, _, _, _, _, _, _]⟩) ag88_u3b sz88_u3b oz (loc_getN rfl rfl) rfl, it_tmp (os rfl oz), trivial⟩).le (tup_le ⟨(agg_le ⟨zLr, zLr, zLr, zLr, (le_nil rfl), (le_nil rfl), (le_nil rfl), trivial⟩), zLr, trivial⟩)) (tup_bnd (zbc (agg_bnd (zbc zPb (zbc zPb (zbc zPb (zbc zPb (zbc (sl_b kb_Ent) (zbc (sl_b kb_Rf) (zbc (sl_b kb_Lin) bnd_nil)))))))) (zbc zPb bnd_nil)))
        · skip
          replace h0 := ifb_f h0 hc
          clear hc
          refine aw_skip ?_
          refine aw_keep [(2, _), (4, _)] ⟨lg oz, lg (os rfl oz), trivial⟩ ?_
          refine aw_seq ?_
          refine aw_region (by decide) ?_
          refine rts _ rfl (opD_load_aggX (qs := [_, _, _, _, _, _, _]) ag88_u3b sz88_u3b (os rfl oz) (loc_getN rfl rfl) (zNb rfl) rfl) ?_
          refine rts _ rfl (storeAN rfl sz88_u3b (ls rfl oz) lz (ones_cons (one_pl rfl) (ones_cons (one_pl rfl) (ones_cons (one_pl rfl) (ones_cons (one_pl rfl) (ones_cons (one_sl _ _ _ _) (ones_cons (one_sl _ _ _ _) (ones_cons (one_sl _ _ _ _) ones_nil))))))) rfl rfl (zNb rfl) (List.cons_ne_nil _ _) (zbc zPb (zbc zPb (zbc zPb (zbc zPb (zbc (sl_b kb_Ent) (zbc (sl_b kb_Rf) (zbc (sl_b kb_Lin) bnd_nil))))))) (by simp only [znz] <;> rfl) (by simp only [znz] <;> rfl)) ?_
          refine rts _ rfl (opD_assign (ev_const _ _)) ?_
          refine .nil ?_
          refine aw_keep [(2, _), (3, _)] ⟨lg (ls rfl (lx (ls rfl oz))), lg lz, trivial⟩ ?_
          refine aw_ret ?_
          obtain rfl := some_of h0
          exact done_ext (.inr rfl) ((res_list (rs := [_, _]) (ps := [_, _]) rfl rfl ⟨it_cellA (B := ⟨88, [_, _, _, _, _, _, _]⟩) ag88_u3b sz88_u3b oz (loc_getN rfl rfl) rfl, it_tmp (os rfl oz), trivial⟩).le (tup_le ⟨(agg_le ⟨zLr, zLr, zLr, zLr, zLr, zLr, zLr, trivial⟩), zLr, trivial⟩)) (tup_bnd (zbc (agg_bnd (zbc zPb (zbc zPb (zbc zPb (zbc zPb (zbc (sl_b kb_Ent) (zbc (sl_b kb_Rf) (zbc (sl_b kb_Lin) bnd_nil)))))))) (zbc zPb bnd_nil)))
end Go.Proofs.YtmnhfpcbfdgbcaaDoor.Eng.A
