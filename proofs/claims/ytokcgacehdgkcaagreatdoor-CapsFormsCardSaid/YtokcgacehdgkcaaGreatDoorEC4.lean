/- EC4: what functions do, walked; used by the laws of this seat. -/
import Derived.Test.YtokcgacehdgkcaaGreatDoorEC3
import Derived.Test.YtokcgacehdgkcaaGreatDoorEXB
namespace Go.Proofs.YtokcgacehdgkcaaGreatDoor.Eng.A
set_option linter.unusedVariables false
set_option linter.unusedSimpArgs false
open Go.RowKit Go.Proofs.YtokcgacehdgkcaaGreatDoor.Plain Go.Proofs.YtokcgacehdgkcaaGreatDoor.Eng Go.Proofs.YtokcgacehdgkcaaGreatDoor.Eng.Pk Go.Proofs.YtokcgacehdgkcaaGreatDoor.Eng.Rd

theorem fo26_0_C5 : fieldOff Go.Proofs.Tryz.prog 26 0 = some 0 := by kernel_rfl
theorem ag9_C5 : aggT Go.Proofs.Tryz.prog 9 = some false := by kernel_rfl
theorem fo26_1_C5 : fieldOff Go.Proofs.Tryz.prog 26 1 = some 1 := by kernel_rfl
theorem ag5_C5 : aggT Go.Proofs.Tryz.prog 5 = some false := by kernel_rfl
theorem fo24_0_C5 : fieldOff Go.Proofs.Tryz.prog 24 0 = some 0 := by kernel_rfl
theorem ag3_C5 : aggT Go.Proofs.Tryz.prog 3 = some false := by kernel_rfl
theorem fo24_1_C5 : fieldOff Go.Proofs.Tryz.prog 24 1 = some 1 := by kernel_rfl
theorem ag22_C5 : aggT Go.Proofs.Tryz.prog 22 = some false := by kernel_rfl
theorem fo28_0_C5 : fieldOff Go.Proofs.Tryz.prog 28 0 = some 0 := by kernel_rfl
theorem fo28_1_C5 : fieldOff Go.Proofs.Tryz.prog 28 1 = some 1 := by kernel_rfl
theorem ag4_C5 : aggT Go.Proofs.Tryz.prog 4 = some false := by kernel_rfl
theorem fo28_2_C5 : fieldOff Go.Proofs.Tryz.prog 28 2 = some 2 := by kernel_rfl
theorem fo28_3_C5 : fieldOff Go.Proofs.Tryz.prog 28 3 = some 3 := by kernel_rfl
theorem fo28_4_C5 : fieldOff Go.Proofs.Tryz.prog 28 4 = some 5 := by kernel_rfl
theorem ag24_C5 : aggT Go.Proofs.Tryz.prog 24 = some true := by kernel_rfl
theorem sz24_C5 : sizeT Go.Proofs.Tryz.prog 24 = some 2 := by kernel_rfl
theorem ht51_C5 : hasText Go.Proofs.Tryz.prog 51 = true := by kernel_rfl
theorem ag26_C5 : aggT Go.Proofs.Tryz.prog 26 = some true := by kernel_rfl
theorem sz26_C5 : sizeT Go.Proofs.Tryz.prog 26 = some 2 := by kernel_rfl
theorem ht59_C5 : hasText Go.Proofs.Tryz.prog 59 = true := by kernel_rfl
theorem ag28_C5 : aggT Go.Proofs.Tryz.prog 28 = some true := by kernel_rfl
theorem sz28_C5 : sizeT Go.Proofs.Tryz.prog 28 = some 7 := by kernel_rfl
theorem ht18_C5 : hasText Go.Proofs.Tryz.prog 18 = true := by kernel_rfl
theorem ht37_C5 : hasText Go.Proofs.Tryz.prog 37 = true := by kernel_rfl
theorem sz5_C5 : sizeT Go.Proofs.Tryz.prog 5 = some 1 := by kernel_rfl
theorem zt5_C5 : zeroT Go.Proofs.Tryz.prog 5 = some [.int .u8 0] := by kernel_rfl
theorem el5_C5 : elT Go.Proofs.Tryz.prog 5 = some (1, 1) := by kernel_rfl
theorem mixed_C5 : Go.Proofs.Tryz.prog.follows .mixedOrders = true := by kernel_rfl
theorem ht38_C5 : hasText Go.Proofs.Tryz.prog 38 = true := by kernel_rfl
theorem ht52_C5 : hasText Go.Proofs.Tryz.prog 52 = true := by kernel_rfl
theorem zt24_C5 : zeroT Go.Proofs.Tryz.prog 24 = some [.int .i64 0, .int .u64 0] := by kernel_rfl
theorem ht55_C5 : hasText Go.Proofs.Tryz.prog 55 = true := by kernel_rfl
theorem pt24_C5 : placesT Go.Proofs.Tryz.prog 24 2 = some [(0, 1), (1, 1)] := by kernel_rfl
theorem zt28_C5 : zeroT Go.Proofs.Tryz.prog 28 = some [.int .u64 0, .bool false, .int .u64 0, .int .i64 0, .int .u64 0, .string ⟨#[]⟩, .int .u8 0] := by kernel_rfl
theorem pt28_C5 : placesT Go.Proofs.Tryz.prog 28 5 = some [(0, 1), (1, 1), (2, 1), (3, 2), (5, 2)] := by kernel_rfl
theorem pt115_C5 : placesT Go.Proofs.Tryz.prog 115 2 = some [(0, 1), (1, 1)] := by kernel_rfl
theorem zt115_C5 : zeroT Go.Proofs.Tryz.prog 115 = some [.slice none 0 0, .bool false] := by kernel_rfl
theorem ht45_C5 : hasText Go.Proofs.Tryz.prog 45 = true := by kernel_rfl
theorem sz115_C5 : sizeT Go.Proofs.Tryz.prog 115 = some 2 := by kernel_rfl
theorem ag115_C5 : aggT Go.Proofs.Tryz.prog 115 = some true := by kernel_rfl
theorem ht46_C5 : hasText Go.Proofs.Tryz.prog 46 = true := by kernel_rfl
theorem fo115_1_C5 : fieldOff Go.Proofs.Tryz.prog 115 1 = some 1 := by kernel_rfl
theorem ht47_C5 : hasText Go.Proofs.Tryz.prog 47 = true := by kernel_rfl
theorem sz22_C5 : sizeT Go.Proofs.Tryz.prog 22 = some 1 := by kernel_rfl
theorem pt26_C5 : placesT Go.Proofs.Tryz.prog 26 2 = some [(0, 1), (1, 1)] := by kernel_rfl
theorem zt26_C5 : zeroT Go.Proofs.Tryz.prog 26 = some [.string ⟨#[]⟩, .int .u8 0] := by kernel_rfl
theorem ht48_C5 : hasText Go.Proofs.Tryz.prog 48 = true := by kernel_rfl
theorem zt39_C5 : zeroT Go.Proofs.Tryz.prog 39 = some [.int .u64 0, .bool false, .int .u64 0, .int .i64 0, .int .u64 0, .string ⟨#[]⟩, .int .u8 0] := by kernel_rfl
theorem pt39_C5 : placesT Go.Proofs.Tryz.prog 39 5 = some [(0, 1), (1, 1), (2, 1), (3, 2), (5, 2)] := by kernel_rfl
theorem sz39_C5 : sizeT Go.Proofs.Tryz.prog 39 = some 7 := by kernel_rfl
theorem ag39_C5 : aggT Go.Proofs.Tryz.prog 39 = some true := by kernel_rfl
theorem pt36_C5 : placesT Go.Proofs.Tryz.prog 36 2 = some [(0, 1), (1, 1)] := by kernel_rfl
theorem zt36_C5 : zeroT Go.Proofs.Tryz.prog 36 = some [.int .i64 0, .int .u64 0] := by kernel_rfl
theorem pt37_C5 : placesT Go.Proofs.Tryz.prog 37 2 = some [(0, 1), (1, 1)] := by kernel_rfl
theorem zt37_C5 : zeroT Go.Proofs.Tryz.prog 37 = some [.string ⟨#[]⟩, .int .u8 0] := by kernel_rfl
theorem ht7_C5 : hasText Go.Proofs.Tryz.prog 7 = true := by kernel_rfl
theorem ht10_C5 : hasText Go.Proofs.Tryz.prog 10 = true := by kernel_rfl
theorem ht12_C5 : hasText Go.Proofs.Tryz.prog 12 = true := by kernel_rfl
theorem ht14_C5 : hasText Go.Proofs.Tryz.prog 14 = true := by kernel_rfl
theorem sz36_C5 : sizeT Go.Proofs.Tryz.prog 36 = some 2 := by kernel_rfl
theorem ht16_C5 : hasText Go.Proofs.Tryz.prog 16 = true := by kernel_rfl
theorem fo36_1_C5 : fieldOff Go.Proofs.Tryz.prog 36 1 = some 1 := by kernel_rfl
theorem sz9_C5 : sizeT Go.Proofs.Tryz.prog 9 = some 1 := by kernel_rfl
theorem ht6_C5 : hasText Go.Proofs.Tryz.prog 6 = true := by kernel_rfl
theorem ht8_C5 : hasText Go.Proofs.Tryz.prog 8 = true := by kernel_rfl
theorem ht9_C5 : hasText Go.Proofs.Tryz.prog 9 = true := by kernel_rfl
theorem ht11_C5 : hasText Go.Proofs.Tryz.prog 11 = true := by kernel_rfl
theorem ht13_C5 : hasText Go.Proofs.Tryz.prog 13 = true := by kernel_rfl
theorem ht15_C5 : hasText Go.Proofs.Tryz.prog 15 = true := by kernel_rfl
theorem ag36_C5 : aggT Go.Proofs.Tryz.prog 36 = some true := by kernel_rfl
theorem ht17_C5 : hasText Go.Proofs.Tryz.prog 17 = true := by kernel_rfl

open Go.Proofs.YtokcgacehdgkcaaGreatDoor.Eng.Er Go.Proofs.YtokcgacehdgkcaaGreatDoor.Eng.Er2 Go.Proofs.YtokcgacehdgkcaaGreatDoor.Eng.Pb

def F_r27May (p0 : Scp) : Option (Bool) :=
  some (((decide ((p0.Prefix.size : Int) ≤ 40)) && (decide (1 ≤ p0.Rights))) && (decide (p0.Rights ≤ 63)))
set_option maxRecDepth 100000 in
set_option maxHeartbeats 2000000 in
theorem c_r27May {p0 : Scp} {R : Bool} (h0 : F_r27May p0 = some R) : Pure Go.Proofs.Tryz.prog 59 [agg [pl (.string p0.Prefix), pl (.int .u8 p0.Rights)]] (pl (.bool R)) := by
  intro s
  unfold F_r27May at h0
  refine ac_of_aw s.boxes.length s.fr.length Go.Proofs.Tryz.func59 rfl (by simp [Go.Proofs.Tryz.ntmps59]) ?_
  refine aw_ext0 ?_
  refine aw_keep [(0, _)] ⟨lg ez, trivial⟩ ?_
  refine aw_seq ?_
  refine aw_region (by decide) ?_
  refine rts _ rfl (boxAN (n := 0) rfl oz (zbc zPb (zbc zPb bnd_nil)) (by first | exact List.length_nil | (simp only [List.length_cons, List.length_nil, Nat.zero_add, Nat.reduceAdd] <;> rfl)) (by simp only [znz] <;> rfl)) ?_
  refine rts _ rfl (opD_assign (ev_const _ _)) ?_
  refine .nil ?_
  refine aw_keep [(1, _)] ⟨lg (ls rfl lz), trivial⟩ ?_
  refine aw_seq ?_
  refine aw_region (by decide) ?_
  refine rts _ rfl (opD_fieldAddr fo26_0_C5 oz) ?_
  refine rts _ rfl (opD_load_one ag9_C5 lz (loc_getN rfl rfl) rfl) ?_
  refine rts _ rfl (opD_len_str Go.Proofs.Tryz.underlying9 lz) ?_
  refine rts _ rfl (opD_leq lz (ev_const _ _)) ?_
  refine rts _ rfl (opD_move lz) ?_
  refine rtg _ rfl lz (fun hg1_5_1 => opD_fieldAddr fo26_1_C5 (ls rfl (ls rfl (ls rfl (ls rfl (ls rfl oz)))))) ?_
  refine rtg _ rfl (ls rfl lz) (fun hg1_6_2 => opD_load_one ag5_C5 (lz.trans (pif_pos hg1_6_2)) (loc_getN rfl rfl) rfl) ?_
  refine rtg _ rfl (ls rfl (ls rfl lz)) (fun hg1_7_3 => opD_geq (lz.trans (pif_pos hg1_7_3)) (ev_const _ _)) ?_
  refine rts _ rfl (opD_and (ls rfl (ls rfl (ls rfl lz))) lz) ?_
  refine rts _ rfl (opD_move lz) ?_
  refine rtg _ rfl lz (fun hg1_10_4 => opD_fieldAddr fo26_1_C5 (ls rfl (ls rfl (ls rfl (ls rfl (ls rfl (ls rfl (ls rfl (ls rfl (ls rfl (ls rfl oz))))))))))) ?_
  refine rtg _ rfl (ls rfl lz) (fun hg1_11_5 => opD_load_one ag5_C5 (lz.trans (pif_pos hg1_11_5)) (loc_getN rfl rfl) rfl) ?_
  refine rtg _ rfl (ls rfl (ls rfl lz)) (fun hg1_12_6 => opD_leq (lz.trans (pif_pos hg1_12_6)) (ev_const _ _)) ?_
  refine rts _ rfl (opD_and (ls rfl (ls rfl (ls rfl lz))) lz) ?_
  refine rts _ rfl (opD_assign lz) ?_
  refine .nil ?_
  refine aw_keep [(2, _)] ⟨lg lz, trivial⟩ ?_
  refine aw_ret ?_
  obtain rfl := some_of h0
  exact done_ext (.inr rfl) ((res_one rfl (it_tmp oz)).le zLr) zPb

def F_rNamed (p0 : Rf) : Option (Bool) :=
  some ((((decide (0 ≤ p0.Slot)) && (decide (p0.Slot < 64))) && (decide (0 < p0.Gen))) && (decide (p0.Gen ≤ 4611686018427387904)))
set_option maxRecDepth 100000 in
set_option maxHeartbeats 2000000 in
theorem c_rNamed {p0 : Rf} {R : Bool} (h0 : F_rNamed p0 = some R) : Pure Go.Proofs.Tryz.prog 51 [agg [pl (.int .i64 p0.Slot), pl (.int .u64 p0.Gen)]] (pl (.bool R)) := by
  intro s
  unfold F_rNamed at h0
  refine ac_of_aw s.boxes.length s.fr.length Go.Proofs.Tryz.func51 rfl (by simp [Go.Proofs.Tryz.ntmps51]) ?_
  refine aw_ext0 ?_
  refine aw_keep [(0, _)] ⟨lg ez, trivial⟩ ?_
  refine aw_seq ?_
  refine aw_region (by decide) ?_
  refine rts _ rfl (boxAN (n := 0) rfl oz (zbc zPb (zbc zPb bnd_nil)) (by first | exact List.length_nil | (simp only [List.length_cons, List.length_nil, Nat.zero_add, Nat.reduceAdd] <;> rfl)) (by simp only [znz] <;> rfl)) ?_
  refine rts _ rfl (opD_assign (ev_const _ _)) ?_
  refine .nil ?_
  refine aw_keep [(1, _)] ⟨lg (ls rfl lz), trivial⟩ ?_
  refine aw_seq ?_
  refine aw_region (by decide) ?_
  refine rts _ rfl (opD_fieldAddr fo24_0_C5 oz) ?_
  refine rts _ rfl (opD_load_one ag3_C5 lz (loc_getN rfl rfl) rfl) ?_
  refine rts _ rfl (opD_geq lz (ev_const _ _)) ?_
  refine rts _ rfl (opD_move lz) ?_
  refine rtg _ rfl lz (fun hg1_4_1 => opD_fieldAddr fo24_0_C5 (ls rfl (ls rfl (ls rfl (ls rfl oz))))) ?_
  refine rtg _ rfl (ls rfl lz) (fun hg1_5_2 => opD_load_one ag3_C5 (lz.trans (pif_pos hg1_5_2)) (loc_getN rfl rfl) rfl) ?_
  refine rtg _ rfl (ls rfl (ls rfl lz)) (fun hg1_6_3 => opD_lss (lz.trans (pif_pos hg1_6_3)) (ev_const _ _)) ?_
  refine rts _ rfl (opD_and (ls rfl (ls rfl (ls rfl lz))) lz) ?_
  refine rts _ rfl (opD_move lz) ?_
  refine rtg _ rfl lz (fun hg1_9_4 => opD_fieldAddr fo24_1_C5 (ls rfl (ls rfl (ls rfl (ls rfl (ls rfl (ls rfl (ls rfl (ls rfl (ls rfl oz)))))))))) ?_
  refine rtg _ rfl (ls rfl lz) (fun hg1_10_5 => opD_load_one ag22_C5 (lz.trans (pif_pos hg1_10_5)) (loc_getN rfl rfl) rfl) ?_
  refine rtg _ rfl (ls rfl (ls rfl lz)) (fun hg1_11_6 => opD_gtr (lz.trans (pif_pos hg1_11_6)) (ev_const _ _)) ?_
  refine rts _ rfl (opD_and (ls rfl (ls rfl (ls rfl lz))) lz) ?_
  refine rts _ rfl (opD_move lz) ?_
  refine rtg _ rfl lz (fun hg1_14_7 => opD_fieldAddr fo24_1_C5 (ls rfl (ls rfl (ls rfl (ls rfl (ls rfl (ls rfl (ls rfl (ls rfl (ls rfl (ls rfl (ls rfl (ls rfl (ls rfl (ls rfl oz))))))))))))))) ?_
  refine rtg _ rfl (ls rfl lz) (fun hg1_15_8 => opD_load_one ag22_C5 (lz.trans (pif_pos hg1_15_8)) (loc_getN rfl rfl) rfl) ?_
  refine rtg _ rfl (ls rfl (ls rfl lz)) (fun hg1_16_9 => opD_leq (lz.trans (pif_pos hg1_16_9)) (ev_const _ _)) ?_
  refine rts _ rfl (opD_and (ls rfl (ls rfl (ls rfl lz))) lz) ?_
  refine rts _ rfl (opD_assign lz) ?_
  refine .nil ?_
  refine aw_keep [(2, _)] ⟨lg lz, trivial⟩ ?_
  refine aw_ret ?_
  obtain rfl := some_of h0
  exact done_ext (.inr rfl) ((res_one rfl (it_tmp oz)).le zLr) zPb

def F_rMay (p0 : Int) (p1 : Cap) : Option (Bool) :=
  ifb ((((decide (p0 < 0)) || (decide (63 < p0))) || (decide (p1.Gen < 1))) || (decide (4611686018427387904 < p1.Gen))) (some false) (ifb (!p1.Live) (some (((((decide (p1.Holder = 0)) && (decide (p1.From.Slot = 0))) && (decide (p1.From.Gen = 0))) && (decide (p1.Scope.Prefix = (⟨#[]⟩ : ByteArray)))) && (decide (p1.Scope.Rights = 0)))) (bnd (gif ((decide (4611686018427387904 < p1.Holder)) == false) (F_rNamed p1.From)) fun x_1 => bnd (gif (((decide (4611686018427387904 < p1.Holder)) || (!x_1)) == false) (F_r27May p1.Scope)) fun x_2 => ifb (((decide (4611686018427387904 < p1.Holder)) || (!x_1)) || (!x_2)) (some false) (ifb (decide (p0 = 0)) (some ((decide (p1.From.Slot = 0)) && (decide (p1.From.Gen = p1.Gen)))) (some (decide (p1.From.Slot ≠ p0))))))
set_option maxRecDepth 100000 in
set_option maxHeartbeats 2000000 in
theorem c_rMay {p0 : Int} {p1 : Cap} {R : Bool} (h0 : F_rMay p0 p1 = some R) : Pure Go.Proofs.Tryz.prog 18 [pl (.int .i64 p0), agg [pl (.int .u64 p1.Gen), pl (.bool p1.Live), pl (.int .u64 p1.Holder), pl (.int .i64 p1.From.Slot), pl (.int .u64 p1.From.Gen), pl (.string p1.Scope.Prefix), pl (.int .u8 p1.Scope.Rights)]] (pl (.bool R)) := by
  intro s
  unfold F_rMay at h0
  refine ac_of_aw s.boxes.length s.fr.length Go.Proofs.Tryz.func18 rfl (by simp [Go.Proofs.Tryz.ntmps18]) ?_
  refine aw_ext0 ?_
  refine aw_keep [(0, _), (1, _)] ⟨lg ez, lg (es ez), trivial⟩ ?_
  refine aw_seq ?_
  refine aw_region (by decide) ?_
  refine rts _ rfl (boxAN (n := 0) rfl (os rfl oz) (zbc zPb (zbc zPb (zbc zPb (zbc zPb (zbc zPb (zbc zPb (zbc zPb bnd_nil))))))) (by first | exact List.length_nil | (simp only [List.length_cons, List.length_nil, Nat.zero_add, Nat.reduceAdd] <;> rfl)) (by simp only [znz] <;> rfl)) ?_
  refine rts _ rfl (opD_assign (ev_const _ _)) ?_
  refine .nil ?_
  refine aw_keep [(0, _), (3, _)] ⟨lg (ls rfl (ls rfl oz)), lg (ls rfl lz), trivial⟩ ?_
  refine aw_seq ?_
  refine aw_seq ?_
  refine aw_region (by decide) ?_
  refine rts _ rfl (opD_move oz) ?_
  refine rts _ rfl (opD_lss lz (ev_const _ _)) ?_
  refine rts _ rfl (opD_move lz) ?_
  refine rtg _ rfl lz (fun hg1_3_1 => opD_move (ls rfl (ls rfl (ls rfl oz)))) ?_
  refine rtg _ rfl (ls rfl lz) (fun hg1_4_2 => opD_gtr (lz.trans (pif_pos hg1_4_2)) (ev_const _ _)) ?_
  refine rts _ rfl (opD_or (ls rfl (ls rfl lz)) lz) ?_
  refine rts _ rfl (opD_move lz) ?_
  refine rtg _ rfl lz (fun hg1_7_3 => opD_fieldAddr fo28_0_C5 (ls rfl (ls rfl (ls rfl (ls rfl (ls rfl (ls rfl (ls rfl (os rfl oz))))))))) ?_
  refine rtg _ rfl (ls rfl lz) (fun hg1_8_4 => opD_load_one ag22_C5 (lz.trans (pif_pos hg1_8_4)) (loc_getN rfl rfl) rfl) ?_
  refine rtg _ rfl (ls rfl (ls rfl lz)) (fun hg1_9_5 => opD_lss (lz.trans (pif_pos hg1_9_5)) (ev_const _ _)) ?_
  refine rts _ rfl (opD_or (ls rfl (ls rfl (ls rfl lz))) lz) ?_
  refine rts _ rfl (opD_move lz) ?_
  refine rtg _ rfl lz (fun hg1_12_6 => opD_fieldAddr fo28_0_C5 (ls rfl (ls rfl (ls rfl (ls rfl (ls rfl (ls rfl (ls rfl (ls rfl (ls rfl (ls rfl (ls rfl (ls rfl (os rfl oz)))))))))))))) ?_
  refine rtg _ rfl (ls rfl lz) (fun hg1_13_7 => opD_load_one ag22_C5 (lz.trans (pif_pos hg1_13_7)) (loc_getN rfl rfl) rfl) ?_
  refine rtg _ rfl (ls rfl (ls rfl lz)) (fun hg1_14_8 => opD_gtr (lz.trans (pif_pos hg1_14_8)) (ev_const _ _)) ?_
  refine rts _ rfl (opD_or (ls rfl (ls rfl (ls rfl lz))) lz) ?_
  refine .nil ?_
  refine aw_keep [(0, _), (3, _), (20, _)] ⟨lg (ls rfl (ls rfl (ls rfl (ls rfl (ls rfl (ls rfl (ls rfl (ls rfl (ls rfl (ls rfl (ls rfl (ls rfl (ls rfl (ls rfl (ls rfl (ls rfl oz)))))))))))))))), lg (ls rfl (ls rfl (ls rfl (ls rfl (ls rfl (ls rfl (ls rfl (ls rfl (ls rfl (ls rfl (ls rfl (ls rfl (ls rfl (ls rfl (ls rfl (ls rfl (os rfl oz))))))))))))))))), lg lz, trivial⟩ ?_
  refine aw_cond _ (os rfl (os rfl oz)) (fun hc => ?_) (fun hc => ?_)
  · skip
    replace h0 := ifb_t h0 hc
    clear hc
    refine aw_seq ?_
    refine aw_region (by decide) ?_
    refine rts _ rfl (opD_assign (ev_const _ _)) ?_
    refine .nil ?_
    refine aw_keep [(4, _)] ⟨lg lz, trivial⟩ ?_
    refine aw_ret ?_
    obtain rfl := some_of h0
    exact done_ext (.inr rfl) ((res_one rfl (it_tmp oz)).le zLr) zPb
  · skip
    replace h0 := ifb_f h0 hc
    clear hc
    refine aw_skip ?_
    refine aw_keep [(0, _), (3, _)] ⟨lg oz, lg (os rfl oz), trivial⟩ ?_
    refine aw_seq ?_
    refine aw_seq ?_
    refine aw_region (by decide) ?_
    refine rts _ rfl (opD_fieldAddr fo28_1_C5 (os rfl oz)) ?_
    refine rts _ rfl (opD_load_one ag4_C5 lz (loc_getN rfl rfl) rfl) ?_
    refine rts _ rfl (opD_not lz) ?_
    refine .nil ?_
    refine aw_keep [(0, _), (3, _), (23, _)] ⟨lg (ls rfl (ls rfl (ls rfl oz))), lg (ls rfl (ls rfl (ls rfl (os rfl oz)))), lg lz, trivial⟩ ?_
    refine aw_cond _ (os rfl (os rfl oz)) (fun hc => ?_) (fun hc => ?_)
    · skip
      replace h0 := ifb_t h0 hc
      clear hc
      refine aw_seq ?_
      refine aw_region (by decide) ?_
      refine rts _ rfl (opD_fieldAddr fo28_2_C5 (os rfl oz)) ?_
      refine rts _ rfl (opD_load_one ag22_C5 lz (loc_getN rfl rfl) rfl) ?_
      refine rts _ rfl (opD_eql lz (ev_const _ _)) ?_
      refine rts _ rfl (opD_move lz) ?_
      refine rtg _ rfl lz (fun hg4_4_9 => opD_fieldAddr fo28_3_C5 (ls rfl (ls rfl (ls rfl (ls rfl (os rfl oz)))))) ?_
      refine rtg _ rfl (ls rfl lz) (fun hg4_5_10 => opD_fieldAddr fo24_0_C5 (lz.trans (pif_pos hg4_5_10))) ?_
      refine rtg _ rfl (ls rfl (ls rfl lz)) (fun hg4_6_11 => opD_load_one ag3_C5 (lz.trans (pif_pos hg4_6_11)) (loc_getN rfl rfl) rfl) ?_
      refine rtg _ rfl (ls rfl (ls rfl (ls rfl lz))) (fun hg4_7_12 => opD_eql (lz.trans (pif_pos hg4_7_12)) (ev_const _ _)) ?_
      refine rts _ rfl (opD_and (ls rfl (ls rfl (ls rfl (ls rfl lz)))) lz) ?_
      refine rts _ rfl (opD_move lz) ?_
      refine rtg _ rfl lz (fun hg4_10_13 => opD_fieldAddr fo28_3_C5 (ls rfl (ls rfl (ls rfl (ls rfl (ls rfl (ls rfl (ls rfl (ls rfl (ls rfl (ls rfl (os rfl oz)))))))))))) ?_
      refine rtg _ rfl (ls rfl lz) (fun hg4_11_14 => opD_fieldAddr fo24_1_C5 (lz.trans (pif_pos hg4_11_14))) ?_
      refine rtg _ rfl (ls rfl (ls rfl lz)) (fun hg4_12_15 => opD_load_one ag22_C5 (lz.trans (pif_pos hg4_12_15)) (loc_getN rfl rfl) rfl) ?_
      refine rtg _ rfl (ls rfl (ls rfl (ls rfl lz))) (fun hg4_13_16 => opD_eql (lz.trans (pif_pos hg4_13_16)) (ev_const _ _)) ?_
      refine rts _ rfl (opD_and (ls rfl (ls rfl (ls rfl (ls rfl lz)))) lz) ?_
      refine rts _ rfl (opD_move lz) ?_
      refine rtg _ rfl lz (fun hg4_16_17 => opD_fieldAddr fo28_4_C5 (ls rfl (ls rfl (ls rfl (ls rfl (ls rfl (ls rfl (ls rfl (ls rfl (ls rfl (ls rfl (ls rfl (ls rfl (ls rfl (ls rfl (ls rfl (ls rfl (os rfl oz)))))))))))))))))) ?_
      refine rtg _ rfl (ls rfl lz) (fun hg4_17_18 => opD_fieldAddr fo26_0_C5 (lz.trans (pif_pos hg4_17_18))) ?_
      refine rtg _ rfl (ls rfl (ls rfl lz)) (fun hg4_18_19 => opD_load_one ag9_C5 (lz.trans (pif_pos hg4_18_19)) (loc_getN rfl rfl) rfl) ?_
      refine rtg _ rfl (ls rfl (ls rfl (ls rfl lz))) (fun hg4_19_20 => opD_seql (lz.trans (pif_pos hg4_19_20)) (ev_const _ _)) ?_
      refine rts _ rfl (opD_and (ls rfl (ls rfl (ls rfl (ls rfl lz)))) lz) ?_
      refine rts _ rfl (opD_move lz) ?_
      refine rtg _ rfl lz (fun hg4_22_21 => opD_fieldAddr fo28_4_C5 (ls rfl (ls rfl (ls rfl (ls rfl (ls rfl (ls rfl (ls rfl (ls rfl (ls rfl (ls rfl (ls rfl (ls rfl (ls rfl (ls rfl (ls rfl (ls rfl (ls rfl (ls rfl (ls rfl (ls rfl (ls rfl (ls rfl (os rfl oz)))))))))))))))))))))))) ?_
      refine rtg _ rfl (ls rfl lz) (fun hg4_23_22 => opD_fieldAddr fo26_1_C5 (lz.trans (pif_pos hg4_23_22))) ?_
      refine rtg _ rfl (ls rfl (ls rfl lz)) (fun hg4_24_23 => opD_load_one ag5_C5 (lz.trans (pif_pos hg4_24_23)) (loc_getN rfl rfl) rfl) ?_
      refine rtg _ rfl (ls rfl (ls rfl (ls rfl lz))) (fun hg4_25_24 => opD_eql (lz.trans (pif_pos hg4_25_24)) (ev_const _ _)) ?_
      refine rts _ rfl (opD_and (ls rfl (ls rfl (ls rfl (ls rfl lz)))) lz) ?_
      refine rts _ rfl (opD_assign lz) ?_
      refine .nil ?_
      refine aw_keep [(4, _)] ⟨lg lz, trivial⟩ ?_
      refine aw_ret ?_
      obtain rfl := some_of h0
      exact done_ext (.inr rfl) ((res_one rfl (it_tmp oz)).le zLr) zPb
    · skip
      replace h0 := ifb_f h0 hc
      clear hc
      refine aw_skip ?_
      refine aw_keep [(0, _), (3, _)] ⟨lg oz, lg (os rfl oz), trivial⟩ ?_
      refine aw_seq ?_
      refine aw_seq ?_
      refine aw_region (by decide) ?_
      refine rts _ rfl (opD_fieldAddr fo28_2_C5 (os rfl oz)) ?_
      refine rts _ rfl (opD_load_one ag22_C5 lz (loc_getN rfl rfl) rfl) ?_
      refine rts _ rfl (opD_gtr lz (ev_const _ _)) ?_
      refine rts _ rfl (opD_move lz) ?_
      refine rtg _ rfl lz (fun hg5_4_25 => opD_fieldAddr fo28_3_C5 (ls rfl (ls rfl (ls rfl (ls rfl (os rfl oz)))))) ?_
      refine rtg _ rfl (ls rfl lz) (fun hg5_5_26 => opD_load_aggX (qs := [_, _]) ag24_C5 sz24_C5 (lz.trans (pif_pos hg5_5_26)) (loc_getN rfl rfl) (zNb rfl) rfl) ?_
      replace h0 := bnd_some h0
      obtain ⟨x_1, hx_1, h0⟩ := h0
      refine rtg _ rfl (ls rfl (ls rfl lz)) (fun hg5_6_27 => opD_pure ht51_C5 (c_rNamed (gif_some hx_1 hg5_6_27)) ⟨(le_of_eq (lz.trans (pif_pos hg5_6_27))).trans (agg_le ⟨zLr, zLr, trivial⟩), trivial⟩) ?_
      refine rtg _ rfl (ls rfl (ls rfl (ls rfl lz))) (fun hg5_7_28 => opD_not (lz.trans (pif_pos hg5_7_28))) ?_
      refine rts _ rfl (opD_or (ls rfl (ls rfl (ls rfl (ls rfl lz)))) lz) ?_
      refine rts _ rfl (opD_move lz) ?_
      refine rtg _ rfl lz (fun hg5_10_29 => opD_fieldAddr fo28_4_C5 (ls rfl (ls rfl (ls rfl (ls rfl (ls rfl (ls rfl (ls rfl (ls rfl (ls rfl (ls rfl (os rfl oz)))))))))))) ?_
      refine rtg _ rfl (ls rfl lz) (fun hg5_11_30 => opD_load_aggX (qs := [_, _]) ag26_C5 sz26_C5 (lz.trans (pif_pos hg5_11_30)) (loc_getN rfl rfl) (zNb rfl) rfl) ?_
      replace h0 := bnd_some h0
      obtain ⟨x_2, hx_2, h0⟩ := h0
      refine rtg _ rfl (ls rfl (ls rfl lz)) (fun hg5_12_31 => opD_pure ht59_C5 (c_r27May (gif_some hx_2 hg5_12_31)) ⟨(le_of_eq (lz.trans (pif_pos hg5_12_31))).trans (agg_le ⟨zLr, zLr, trivial⟩), trivial⟩) ?_
      refine rtg _ rfl (ls rfl (ls rfl (ls rfl lz))) (fun hg5_13_32 => opD_not (lz.trans (pif_pos hg5_13_32))) ?_
      refine rts _ rfl (opD_or (ls rfl (ls rfl (ls rfl (ls rfl lz)))) lz) ?_
      refine .nil ?_
      refine aw_keep [(0, _), (3, _), (65, _)] ⟨lg (ls rfl (ls rfl (ls rfl (ls rfl (ls rfl (ls rfl (ls rfl (ls rfl (ls rfl (ls rfl (ls rfl (ls rfl (ls rfl (ls rfl (ls rfl oz))))))))))))))), lg (ls rfl (ls rfl (ls rfl (ls rfl (ls rfl (ls rfl (ls rfl (ls rfl (ls rfl (ls rfl (ls rfl (ls rfl (ls rfl (ls rfl (ls rfl (os rfl oz)))))))))))))))), lg lz, trivial⟩ ?_
      refine aw_cond _ (os rfl (os rfl oz)) (fun hc => ?_) (fun hc => ?_)
      · skip
        replace h0 := ifb_t h0 hc
        clear hc
        refine aw_seq ?_
        refine aw_region (by decide) ?_
        refine rts _ rfl (opD_assign (ev_const _ _)) ?_
        refine .nil ?_
        refine aw_keep [(4, _)] ⟨lg lz, trivial⟩ ?_
        refine aw_ret ?_
        obtain rfl := some_of h0
        exact done_ext (.inr rfl) ((res_one rfl (it_tmp oz)).le zLr) zPb
      · skip
        replace h0 := ifb_f h0 hc
        clear hc
        refine aw_skip ?_
        refine aw_keep [(0, _), (3, _)] ⟨lg oz, lg (os rfl oz), trivial⟩ ?_
        refine aw_seq ?_
        refine aw_seq ?_
        refine aw_region (by decide) ?_
        refine rts _ rfl (opD_move oz) ?_
        refine rts _ rfl (opD_eql lz (ev_const _ _)) ?_
        refine .nil ?_
        refine aw_keep [(0, _), (3, _), (67, _)] ⟨lg (ls rfl (ls rfl oz)), lg (ls rfl (ls rfl (os rfl oz))), lg lz, trivial⟩ ?_
        refine aw_cond _ (os rfl (os rfl oz)) (fun hc => ?_) (fun hc => ?_)
        · skip
          replace h0 := ifb_t h0 hc
          clear hc
          refine aw_seq ?_
          refine aw_region (by decide) ?_
          refine rts _ rfl (opD_fieldAddr fo28_3_C5 (os rfl oz)) ?_
          refine rts _ rfl (opD_fieldAddr fo24_0_C5 lz) ?_
          refine rts _ rfl (opD_load_one ag3_C5 lz (loc_getN rfl rfl) rfl) ?_
          refine rts _ rfl (opD_eql lz (ev_const _ _)) ?_
          refine rts _ rfl (opD_move lz) ?_
          refine rtg _ rfl lz (fun hg8_5_33 => opD_fieldAddr fo28_3_C5 (ls rfl (ls rfl (ls rfl (ls rfl (ls rfl (os rfl oz))))))) ?_
          refine rtg _ rfl (ls rfl lz) (fun hg8_6_34 => opD_fieldAddr fo24_1_C5 (lz.trans (pif_pos hg8_6_34))) ?_
          refine rtg _ rfl (ls rfl (ls rfl lz)) (fun hg8_7_35 => opD_load_one ag22_C5 (lz.trans (pif_pos hg8_7_35)) (loc_getN rfl rfl) rfl) ?_
          refine rtg _ rfl (ls rfl (ls rfl (ls rfl lz))) (fun hg8_8_36 => opD_fieldAddr fo28_0_C5 (ls rfl (ls rfl (ls rfl (ls rfl (ls rfl (ls rfl (ls rfl (ls rfl (os rfl oz)))))))))) ?_
          refine rtg _ rfl (ls rfl (ls rfl (ls rfl (ls rfl lz)))) (fun hg8_9_37 => opD_load_one ag22_C5 (lz.trans (pif_pos hg8_9_37)) (loc_getN rfl rfl) rfl) ?_
          refine rtg _ rfl (ls rfl (ls rfl (ls rfl (ls rfl (ls rfl lz))))) (fun hg8_10_38 => opD_eql ((ls rfl (ls rfl lz)).trans (pif_pos hg8_10_38)) (lz.trans (pif_pos hg8_10_38))) ?_
          refine rts _ rfl (opD_and (ls rfl (ls rfl (ls rfl (ls rfl (ls rfl (ls rfl lz)))))) lz) ?_
          refine rts _ rfl (opD_assign lz) ?_
          refine .nil ?_
          refine aw_keep [(4, _)] ⟨lg lz, trivial⟩ ?_
          refine aw_ret ?_
          obtain rfl := some_of h0
          exact done_ext (.inr rfl) ((res_one rfl (it_tmp oz)).le zLr) zPb
        · skip
          replace h0 := ifb_f h0 hc
          clear hc
          refine aw_skip ?_
          refine aw_keep [(0, _), (3, _)] ⟨lg oz, lg (os rfl oz), trivial⟩ ?_
          refine aw_seq ?_
          refine aw_region (by decide) ?_
          refine rts _ rfl (opD_fieldAddr fo28_3_C5 (os rfl oz)) ?_
          refine rts _ rfl (opD_fieldAddr fo24_0_C5 lz) ?_
          refine rts _ rfl (opD_load_one ag3_C5 lz (loc_getN rfl rfl) rfl) ?_
          refine rts _ rfl (opD_move (ls rfl (ls rfl (ls rfl oz)))) ?_
          refine rts _ rfl (opD_neq (ls rfl lz) lz) ?_
          refine rts _ rfl (opD_assign lz) ?_
          refine .nil ?_
          refine aw_keep [(4, _)] ⟨lg lz, trivial⟩ ?_
          refine aw_ret ?_
          obtain rfl := some_of h0
          exact done_ext (.inr rfl) ((res_one rfl (it_tmp oz)).le zLr) zPb

def F_rEnc (p0 : Int) (p1 : Cap) : Option ((List Int) × Int) :=
  bnd (F_rMay p0 p1) fun x_1 => ifb (!x_1) (some ([], 1)) (bnd (oNum [] p1.Gen) fun x_2 => ifb (!p1.Live) (grd (Fits 1 (x_2.length + ([0] : (List Int)).length)) <| some ((x_2 ++ ([0] : (List Int))), 0)) (grd (Fits 1 (x_2.length + ([1] : (List Int)).length)) <| bnd (oNum (x_2 ++ ([1] : (List Int))) p1.Holder) fun x_3 => grd (Fits 1 (x_3.length + ([IntKind.u8.wrap (p1.From.Slot)] : (List Int)).length)) <| bnd (oNum (x_3 ++ ([IntKind.u8.wrap (p1.From.Slot)] : (List Int))) p1.From.Gen) fun x_4 => bnd (oBytes x_4 (bytesOf p1.Scope.Prefix)) fun x_5 => grd (Fits 1 (x_5.length + ([p1.Scope.Rights] : (List Int)).length)) <| some ((x_5 ++ ([p1.Scope.Rights] : (List Int))), 0)))
set_option maxRecDepth 100000 in
set_option maxHeartbeats 2000000 in
theorem c_rEnc {p0 : Int} {p1 : Cap} {R : (List Int) × Int} (h0 : F_rEnc p0 p1 = some R) : Pure Go.Proofs.Tryz.prog 9 [pl (.int .i64 p0), agg [pl (.int .u64 p1.Gen), pl (.bool p1.Live), pl (.int .u64 p1.Holder), pl (.int .i64 p1.From.Slot), pl (.int .u64 p1.From.Gen), pl (.string p1.Scope.Prefix), pl (.int .u8 p1.Scope.Rights)]] (tup [sl (kI .u8) none none R.1, pl (.int .i64 R.2)]) := by
  intro s
  unfold F_rEnc at h0
  refine ac_of_aw s.boxes.length s.fr.length Go.Proofs.Tryz.func9 rfl (by simp [Go.Proofs.Tryz.ntmps9]) ?_
  refine aw_ext0 ?_
  refine aw_keep [(0, _), (1, _)] ⟨lg ez, lg (es ez), trivial⟩ ?_
  refine aw_seq ?_
  refine aw_region (by decide) ?_
  refine rts _ rfl (boxAN (n := 0) rfl (os rfl oz) (zbc zPb (zbc zPb (zbc zPb (zbc zPb (zbc zPb (zbc zPb (zbc zPb bnd_nil))))))) (by first | exact List.length_nil | (simp only [List.length_cons, List.length_nil, Nat.zero_add, Nat.reduceAdd] <;> rfl)) (by simp only [znz] <;> rfl)) ?_
  refine rts _ rfl (opD_assign (ev_const _ _)) ?_
  refine rts _ rfl (opD_assign (ev_const _ _)) ?_
  refine .nil ?_
  refine aw_keep [(0, _), (3, _)] ⟨lg (ls rfl (ls rfl (ls rfl oz))), lg (ls rfl (ls rfl lz)), trivial⟩ ?_
  refine aw_seq ?_
  refine aw_seq ?_
  refine aw_region (by decide) ?_
  refine rts _ rfl (opD_move oz) ?_
  refine rts _ rfl (opD_load_aggX (qs := [_, _, _, _, _, _, _]) ag28_C5 sz28_C5 (ls rfl (os rfl oz)) (loc_getN rfl rfl) (zNb rfl) rfl) ?_
  replace h0 := bnd_some h0
  obtain ⟨x_1, hx_1, h0⟩ := h0
  refine rts _ rfl (opD_pure ht18_C5 (c_rMay hx_1) ⟨le_of_eq (ls rfl lz), (le_of_eq lz).trans (agg_le ⟨zLr, zLr, zLr, zLr, zLr, zLr, zLr, trivial⟩), trivial⟩) ?_
  refine rts _ rfl (opD_not lz) ?_
  refine .nil ?_
  refine aw_keep [(3, _), (10, _)] ⟨lg (ls rfl (ls rfl (ls rfl (ls rfl (os rfl oz))))), lg lz, trivial⟩ ?_
  refine aw_cond _ (os rfl oz) (fun hc => ?_) (fun hc => ?_)
  · skip
    replace h0 := ifb_t h0 hc
    clear hc
    refine aw_seq ?_
    refine aw_region (by decide) ?_
    refine rts _ rfl (opD_assign (ev_const _ _)) ?_
    refine rts _ rfl (opD_assign (ev_const _ _)) ?_
    refine .nil ?_
    refine aw_keep [(4, _), (5, _)] ⟨lg (ls rfl lz), lg lz, trivial⟩ ?_
    refine aw_ret ?_
    obtain rfl := some_of h0
    exact done_ext (.inr rfl) ((res_list (rs := [_, _]) (ps := [_, _]) rfl rfl ⟨it_tmp oz, it_tmp (os rfl oz), trivial⟩).le (tup_le ⟨(le_nil rfl), zLr, trivial⟩)) (tup_bnd (zbc (sl_b (kb_I _)) (zbc zPb bnd_nil)))
  · skip
    replace h0 := ifb_f h0 hc
    clear hc
    refine aw_skip ?_
    refine aw_keep [(3, _)] ⟨lg oz, trivial⟩ ?_
    refine aw_seq ?_
    refine aw_region (by decide) ?_
    refine rts _ rfl (opD_fieldAddr fo28_0_C5 oz) ?_
    refine rts _ rfl (opD_load_one ag22_C5 lz (loc_getN rfl rfl) rfl) ?_
    replace h0 := bnd_some h0
    obtain ⟨x_2, hx_2, h0⟩ := h0
    refine rts _ rfl (opD_own1 ht37_C5 (c_oRput hx_2) ⟨(le_of_eq (ev_const _ _)).trans (le_nil rfl), le_of_eq lz, trivial⟩ (by first | exact List.length_nil | (simp only [List.length_cons, List.length_nil, Nat.zero_add, Nat.reduceAdd] <;> rfl)) (by simp only [znz] <;> rfl)) ?_
    refine rts _ rfl (opD_assign lz) ?_
    refine .nil ?_
    refine aw_keep [(3, _), (6, _)] ⟨lg (ls rfl (ls rfl (ls rfl (ls rfl oz)))), lg lz, trivial⟩ ?_
    refine aw_seq ?_
    refine aw_seq ?_
    refine aw_region (by decide) ?_
    refine rts _ rfl (opD_fieldAddr fo28_1_C5 oz) ?_
    refine rts _ rfl (opD_load_one ag4_C5 lz (loc_getN rfl rfl) rfl) ?_
    refine rts _ rfl (opD_not lz) ?_
    refine .nil ?_
    refine aw_keep [(3, _), (6, _), (16, _)] ⟨lg (ls rfl (ls rfl (ls rfl oz))), lg (ls rfl (ls rfl (ls rfl (os rfl oz)))), lg lz, trivial⟩ ?_
    refine aw_cond _ (os rfl (os rfl oz)) (fun hc => ?_) (fun hc => ?_)
    · skip
      replace h0 := ifb_t h0 hc
      clear hc
      refine aw_seq ?_
      refine aw_region (by decide) ?_
      refine rts _ rfl (opD_move (os rfl oz)) ?_
      refine rts _ rfl (opD_buildOwn (k := kI .u8) ([0] : (List Int)) Go.Proofs.Tryz.underlying30 sz5_C5 zt5_C5 (by decide) rfl (parts_cons (cells1 (ev_const _ _) (one_pl rfl)) parts_nil) rfl rfl (by first | exact List.length_nil | (simp only [List.length_cons, List.length_nil, Nat.zero_add, Nat.reduceAdd] <;> rfl)) (by simp only [znz] <;> rfl)) ?_
      replace h0 := grd_some h0
      obtain ⟨hg_1, h0⟩ := h0
      refine rts _ rfl (opD_appendX Go.Proofs.Tryz.underlying30 el5_C5 (ls rfl lz) lz rfl hg_1.1 hg_1.2 rfl (by simp only [znz] <;> rfl)) ?_
      refine rts _ rfl (opD_assign lz) ?_
      refine rts _ rfl (opD_assign (ev_const _ _)) ?_
      refine .nil ?_
      refine aw_keep [(4, _), (5, _)] ⟨lg (ls rfl lz), lg lz, trivial⟩ ?_
      refine aw_ret ?_
      obtain rfl := some_of h0
      exact done_ext (.inr rfl) ((res_list (rs := [_, _]) (ps := [_, _]) rfl rfl ⟨it_tmp oz, it_tmp (os rfl oz), trivial⟩).le (tup_le ⟨(sl_any _ _ _ _), zLr, trivial⟩)) (tup_bnd (zbc (sl_b (kb_I _)) (zbc zPb bnd_nil)))
    · skip
      replace h0 := ifb_f h0 hc
      clear hc
      refine aw_skip ?_
      refine aw_keep [(3, _), (6, _)] ⟨lg oz, lg (os rfl oz), trivial⟩ ?_
      refine aw_seq ?_
      refine aw_drawn [false, false, true, false, false, true, false] [[0], [0], [0, 1], [0, 1], [0, 1], [1, 2], [2]] mixed_C5 (by decide +kernel) ?_
      refine dtp _ rfl (fun s => opD_move (os rfl oz)) ?_
      refine dtp _ rfl (fun s => opD_buildSlice (k := kI .u8) ([1] : (List Int)) Go.Proofs.Tryz.underlying30 sz5_C5 zt5_C5 (by decide) rfl (parts_cons (cells1 (ev_const _ _) (one_pl rfl)) parts_nil) rfl rfl) ?_
      replace h0 := grd_some h0
      obtain ⟨hg_3, h0⟩ := h0
      refine dta _ rfl (opD_appendX Go.Proofs.Tryz.underlying30 el5_C5 (ls rfl lz) lz rfl hg_3.1 hg_3.2 rfl (by simp only [znz] <;> rfl)) ?_
      refine dtp _ rfl (fun s => opD_fieldAddr fo28_2_C5 (ls rfl (ls rfl (ls rfl oz)))) ?_
      refine dtlG1 ag22_C5 lz (loc_getN rfl rfl) rfl rfl ?_
      replace h0 := bnd_some h0
      obtain ⟨x_3, hx_3, h0⟩ := h0
      refine dta _ rfl (opD_adopt (j := 0) (kb_I _) (opD_own1 ht37_C5 (c_oRput hx_3) ⟨(le_of_eq (ls rfl (ls rfl lz))).trans (sl_any _ _ _ _), le_of_eq lz, trivial⟩ (by first | exact List.length_nil | (simp only [List.length_cons, List.length_nil, Nat.zero_add, Nat.reduceAdd] <;> rfl)) rfl) (by first | exact List.length_nil | (simp only [List.length_cons, List.length_nil, Nat.zero_add, Nat.reduceAdd] <;> rfl)) rfl (len_oNum hx_3) (by simp only [znz] <;> rfl)) ?_
      refine dtp _ rfl (fun s => opD_assign lz) ?_
      refine .nil ?_
      dsimp only [List.nil_append, List.cons_append]
      refine ⟨rfl, ⟨trivial, trivial, trivial, trivial, ⟨(by first | exact loc_getN rfl rfl | exact ⟨_, loc_getN rfl rfl⟩ ), (by first | exact loc_getN rfl rfl | exact ⟨_, loc_getN rfl rfl⟩ ), trivial⟩, trivial, trivial, trivial⟩, ?_⟩
      refine aw_keep [(3, _), (6, _)] ⟨lg (ls rfl (ls rfl (ls rfl (ls rfl (ls rfl (ls rfl (ls rfl oz))))))), lg lz, trivial⟩ ?_
      refine aw_seq ?_
      refine aw_drawn [false, false, false, false, false, false, true, false, false, false, true, false] [[0], [0], [0], [0], [0], [0], [0, 1], [0, 1], [0, 1], [0, 1], [1, 2], [2]] mixed_C5 (by decide +kernel) ?_
      refine dtp _ rfl (fun s => opD_move (os rfl oz)) ?_
      refine dtp _ rfl (fun s => opD_fieldAddr fo28_3_C5 (ls rfl oz)) ?_
      refine dtp _ rfl (fun s => opD_fieldAddr fo24_0_C5 lz) ?_
      refine dtlG1 ag3_C5 lz (loc_getN rfl rfl) rfl rfl ?_
      refine dtp _ rfl (fun s => opD_conv_int Go.Proofs.Tryz.underlying3 Go.Proofs.Tryz.underlying5 lz rfl) ?_
      refine dtp _ rfl (fun s => opD_buildSlice (k := kI .u8) ([IntKind.u8.wrap (p1.From.Slot)] : (List Int)) Go.Proofs.Tryz.underlying30 sz5_C5 zt5_C5 (by decide) rfl (parts_cons (cells1 lz (one_pl rfl)) parts_nil) rfl rfl) ?_
      replace h0 := grd_some h0
      obtain ⟨hg_5, h0⟩ := h0
      refine dta _ rfl (opD_appendX Go.Proofs.Tryz.underlying30 el5_C5 (ls rfl (ls rfl (ls rfl (ls rfl (ls rfl lz))))) lz rfl hg_5.1 hg_5.2 rfl (by simp only [znz] <;> rfl)) ?_
      refine dtp _ rfl (fun s => opD_fieldAddr fo28_3_C5 (ls rfl (ls rfl (ls rfl (ls rfl (ls rfl (ls rfl (ls rfl oz)))))))) ?_
      refine dtp _ rfl (fun s => opD_fieldAddr fo24_1_C5 lz) ?_
      refine dtlG1 ag22_C5 lz (loc_getN rfl rfl) rfl rfl ?_
      replace h0 := bnd_some h0
      obtain ⟨x_4, hx_4, h0⟩ := h0
      refine dta _ rfl (opD_adopt (j := 0) (kb_I _) (opD_own1 ht37_C5 (c_oRput hx_4) ⟨(le_of_eq (ls rfl (ls rfl (ls rfl lz)))).trans (sl_any _ _ _ _), le_of_eq lz, trivial⟩ (by first | exact List.length_nil | (simp only [List.length_cons, List.length_nil, Nat.zero_add, Nat.reduceAdd] <;> rfl)) rfl) (by first | exact List.length_nil | (simp only [List.length_cons, List.length_nil, Nat.zero_add, Nat.reduceAdd] <;> rfl)) rfl (len_oNum hx_4) (by simp only [znz] <;> rfl)) ?_
      refine dtp _ rfl (fun s => opD_assign lz) ?_
      refine .nil ?_
      dsimp only [List.nil_append, List.cons_append]
      refine ⟨rfl, ⟨trivial, trivial, trivial, ⟨(by first | exact loc_getN rfl rfl | exact ⟨_, loc_getN rfl rfl⟩ ), trivial⟩, trivial, trivial, trivial, trivial, trivial, ⟨(by first | exact loc_getN rfl rfl | exact ⟨_, loc_getN rfl rfl⟩ ), (by first | exact loc_getN rfl rfl | exact ⟨_, loc_getN rfl rfl⟩ ), trivial⟩, trivial, trivial, trivial⟩, ?_⟩
      refine aw_keep [(3, _), (6, _)] ⟨lg (ls rfl (ls rfl (ls rfl (ls rfl (ls rfl (ls rfl (ls rfl (ls rfl (ls rfl (ls rfl (ls rfl (ls rfl oz)))))))))))), lg lz, trivial⟩ ?_
      refine aw_seq ?_
      refine aw_region (by decide) ?_
      refine rts _ rfl (opD_move (os rfl oz)) ?_
      refine rts _ rfl (opD_fieldAddr fo28_4_C5 (ls rfl oz)) ?_
      refine rts _ rfl (opD_fieldAddr fo26_0_C5 lz) ?_
      refine rts _ rfl (opD_load_one ag9_C5 lz (loc_getN rfl rfl) rfl) ?_
      refine rts _ rfl (opD_str_bytes Go.Proofs.Tryz.underlying9 Go.Proofs.Tryz.underlying30 Go.Proofs.Tryz.underlying5 lz) ?_
      replace h0 := bnd_some h0
      obtain ⟨x_5, hx_5, h0⟩ := h0
      refine rts _ rfl (opD_adopt (j := 0) (kb_I _) (opD_own1 ht38_C5 (c_oRputs hx_5) ⟨(le_of_eq (ls rfl (ls rfl (ls rfl (ls rfl lz))))).trans (sl_any _ _ _ _), (le_of_eq lz).trans (sl_any _ _ _ _), trivial⟩ (by first | exact List.length_nil | (simp only [List.length_cons, List.length_nil, Nat.zero_add, Nat.reduceAdd] <;> rfl)) rfl) (by first | exact List.length_nil | (simp only [List.length_cons, List.length_nil, Nat.zero_add, Nat.reduceAdd] <;> rfl)) rfl (len_oBytes hx_5) (by simp only [znz] <;> rfl)) ?_
      refine rts _ rfl (opD_assign lz) ?_
      refine .nil ?_
      refine aw_keep [(3, _), (6, _)] ⟨lg (ls rfl (ls rfl (ls rfl (ls rfl (ls rfl (ls rfl (ls rfl oz))))))), lg lz, trivial⟩ ?_
      refine aw_seq ?_
      refine aw_region (by decide) ?_
      refine rts _ rfl (opD_move (os rfl oz)) ?_
      refine rts _ rfl (opD_fieldAddr fo28_4_C5 (ls rfl oz)) ?_
      refine rts _ rfl (opD_fieldAddr fo26_1_C5 lz) ?_
      refine rts _ rfl (opD_load_one ag5_C5 lz (loc_getN rfl rfl) rfl) ?_
      refine rts _ rfl (opD_buildOwn (k := kI .u8) ([p1.Scope.Rights] : (List Int)) Go.Proofs.Tryz.underlying30 sz5_C5 zt5_C5 (by decide) rfl (parts_cons (cells1 lz (one_pl rfl)) parts_nil) rfl rfl (by first | exact List.length_nil | (simp only [List.length_cons, List.length_nil, Nat.zero_add, Nat.reduceAdd] <;> rfl)) (by simp only [znz] <;> rfl)) ?_
      replace h0 := grd_some h0
      obtain ⟨hg_6, h0⟩ := h0
      refine rts _ rfl (opD_appendX Go.Proofs.Tryz.underlying30 el5_C5 (ls rfl (ls rfl (ls rfl (ls rfl lz)))) lz rfl hg_6.1 hg_6.2 rfl (by simp only [znz] <;> rfl)) ?_
      refine rts _ rfl (opD_assign lz) ?_
      refine rts _ rfl (opD_assign (ev_const _ _)) ?_
      refine .nil ?_
      refine aw_keep [(4, _), (5, _)] ⟨lg (ls rfl lz), lg lz, trivial⟩ ?_
      refine aw_ret ?_
      obtain rfl := some_of h0
      exact done_ext (.inr rfl) ((res_list (rs := [_, _]) (ps := [_, _]) rfl rfl ⟨it_tmp oz, it_tmp (os rfl oz), trivial⟩).le (tup_le ⟨(sl_any _ _ _ _), zLr, trivial⟩)) (tup_bnd (zbc (sl_b (kb_I _)) (zbc zPb bnd_nil)))

def F_rdig_b0 (t_2 : Int × ByteArray) : Option ((Int × ByteArray) ⊕ ((ByteArray))) :=
  ifb ((decide (0 < t_2.1)) || (decide (t_2.2 = (⟨#[]⟩ : ByteArray)))) (grd (Btw (t_2.1.tmod 10) (IntKind.u64.wrap ((t_2.1.tmod 10) + 1)) (⟨#[48, 49, 50, 51, 52, 53, 54, 55, 56, 57]⟩ : ByteArray).size) <| grd (((⟨#[48, 49, 50, 51, 52, 53, 54, 55, 56, 57]⟩ : ByteArray).extract ((t_2.1.tmod 10).toNat) ((IntKind.u64.wrap ((t_2.1.tmod 10) + 1)).toNat)).size + t_2.2.size ≤ 9223372036854775807) <| some (.inl (IntKind.u64.wrap (t_2.1.tdiv 10), (((⟨#[48, 49, 50, 51, 52, 53, 54, 55, 56, 57]⟩ : ByteArray).extract ((t_2.1.tmod 10).toNat) ((IntKind.u64.wrap ((t_2.1.tmod 10) + 1)).toNat)) ++ t_2.2)))) (some (.inr t_2.2))
def F_rdig (fl : Nat) (p0 : Int) : Option (ByteArray) :=
  bnd (lp (F_rdig_b0) fl (p0, (⟨#[]⟩ : ByteArray))) fun z_1 => some z_1
set_option maxRecDepth 100000 in
set_option maxHeartbeats 2000000 in
theorem c_rdig {fl : Nat} {p0 : Int} {R : ByteArray} (h0 : F_rdig fl p0 = some R) : Pure Go.Proofs.Tryz.prog 52 [pl (.int .u64 p0)] (pl (.string R)) := by
  intro s
  unfold F_rdig at h0
  refine ac_of_aw s.boxes.length s.fr.length Go.Proofs.Tryz.func52 rfl (by simp [Go.Proofs.Tryz.ntmps52]) ?_
  refine aw_ext0 ?_
  refine aw_keep [(0, _)] ⟨lg ez, trivial⟩ ?_
  refine aw_seq ?_
  refine aw_region (by decide) ?_
  refine rts _ rfl (opD_assign (ev_const _ _)) ?_
  refine .nil ?_
  refine aw_keep [(0, _)] ⟨lg (ls rfl oz), trivial⟩ ?_
  refine aw_seq ?_
  refine aw_region (by decide) ?_
  refine rts _ rfl (opD_assign (ev_const _ _)) ?_
  refine .nil ?_
  refine aw_keep [(0, _), (3, _)] ⟨lg (ls rfl oz), lg lz, trivial⟩ ?_
  refine aw_seq ?_
  replace h0 := bnd_some h0
  obtain ⟨z_1, hz_1, h0⟩ := h0
  refine aw_mid (fun e st => ∃ v : ByteArray, Holds e [(3, pl (.string v))] ∧ st = s.ext [] [] ∧ v = z_1) ?_ ?_
  · skip
    refine aw_wkN rfl 0 0 rfl rfl ?_
    refine aw_block ?_
    refine aw_loop (fun n e st => ∃ v : Int × ByteArray, Holds e [(0, pl (.int .u64 v.1)), (3, pl (.string v.2))] ∧ st = s.ext [] [] ∧ lp (F_rdig_b0) n v = some z_1) fl ⟨(p0, (⟨#[]⟩ : ByteArray)), ⟨le_of_eq (eg oz), le_of_eq (eg (os rfl oz)), trivial⟩, rfl, hz_1⟩ ?_
    rintro n e st ⟨t_2, hH, rfl, hz_1⟩
    replace hz_1 := lp_some hz_1
    obtain ⟨m_z_3, z_3, rfl, hz_3, hz_1⟩ := hz_1
    unfold F_rdig_b0 at hz_3
    refine aw_keep _ hH ?_
    refine aw_wkN rfl 0 0 rfl rfl ?_
    refine aw_seq ?_
    refine aw_seq ?_
    refine aw_region (by decide) ?_
    refine rts _ rfl (opD_move oz) ?_
    refine rts _ rfl (opD_gtr lz (ev_const _ _)) ?_
    refine rts _ rfl (opD_move lz) ?_
    refine rtg _ rfl lz (fun hg2_3_13 => opD_move (ls rfl (ls rfl (ls rfl (os rfl oz))))) ?_
    refine rtg _ rfl (ls rfl lz) (fun hg2_4_14 => opD_seql (lz.trans (pif_pos hg2_4_14)) (ev_const _ _)) ?_
    refine rts _ rfl (opD_or (ls rfl (ls rfl lz)) lz) ?_
    refine .nil ?_
    refine aw_keep [(0, _), (3, _), (10, _)] ⟨lg (ls rfl (ls rfl (ls rfl (ls rfl (ls rfl (ls rfl oz)))))), lg (ls rfl (ls rfl (ls rfl (ls rfl (ls rfl (ls rfl (os rfl oz))))))), lg lz, trivial⟩ ?_
    refine aw_cond _ (os rfl (os rfl oz)) (fun hc => ?_) (fun hc => ?_)
    · skip
      replace hz_3 := ifb_t hz_3 hc
      clear hc
      refine aw_skip ?_
      refine aw_keep [(0, _), (3, _)] ⟨lg oz, lg (os rfl oz), trivial⟩ ?_
      refine aw_block ?_
      refine aw_seq ?_
      refine aw_region (by decide) ?_
      refine rts _ rfl (opD_move oz) ?_
      refine rts _ rfl (opD_rem lz (ev_const _ _) (by decide) rfl) ?_
      refine rts _ rfl (opD_assign lz) ?_
      refine .nil ?_
      refine aw_keep [(0, _), (3, _), (4, _)] ⟨lg (ls rfl (ls rfl (ls rfl oz))), lg (ls rfl (ls rfl (ls rfl (os rfl oz)))), lg lz, trivial⟩ ?_
      refine aw_seq ?_
      refine aw_region (by decide) ?_
      refine rts _ rfl (opD_move (os rfl (os rfl oz))) ?_
      refine rts _ rfl (opD_move (ls rfl (os rfl (os rfl oz)))) ?_
      refine rts _ rfl (opD_add lz (ev_const _ _) rfl) ?_
      replace hz_3 := grd_some hz_3
      obtain ⟨hg_15, hz_3⟩ := hz_3
      refine rts _ rfl (opD_sslice Go.Proofs.Tryz.underlying9 (ev_const _ _) (ls rfl (ls rfl lz)) lz (btw0 hg_15) (btw1 hg_15) (btw2 hg_15)) ?_
      refine rts _ rfl (opD_move (ls rfl (ls rfl (ls rfl (ls rfl (os rfl oz)))))) ?_
      replace hz_3 := grd_some hz_3
      obtain ⟨hg_16, hz_3⟩ := hz_3
      refine rts _ rfl (opD_sadd (ls rfl lz) lz hg_16) ?_
      refine rts _ rfl (opD_assign lz) ?_
      refine .nil ?_
      refine aw_keep [(0, _), (3, _)] ⟨lg (ls rfl (ls rfl (ls rfl (ls rfl (ls rfl (ls rfl (ls rfl oz))))))), lg lz, trivial⟩ ?_
      refine aw_region (by decide) ?_
      refine rts _ rfl (opD_move oz) ?_
      refine rts _ rfl (opD_quo lz (ev_const _ _) (by decide) rfl) ?_
      refine rts _ rfl (opD_assign lz) ?_
      refine .nil ?_
      obtain rfl := some_of hz_3
      replace hz_1 := ocs_l hz_1
      refine wk_yesN rfl (l := [(0, pl (.int .u64 (IntKind.u64.wrap (t_2.1.tdiv 10)))), (3, pl (.string (((⟨#[48, 49, 50, 51, 52, 53, 54, 55, 56, 57]⟩ : ByteArray).extract ((t_2.1.tmod 10).toNat) ((IntKind.u64.wrap ((t_2.1.tmod 10) + 1)).toNat)) ++ t_2.2)))]) (bs' := []) ⟨le_of_eq (eg lz), le_of_eq (eg (ls rfl (ls rfl (ls rfl (os rfl oz))))), trivial⟩ (zbc zPb (zbc zPb bnd_nil)) (zNb rfl) (by simp only [znz] <;> rfl) bxle_nil rfl (by simp only [znz] <;> rfl) bl_nil ?_
      exact ⟨m_z_3, Nat.lt_succ_self _, (IntKind.u64.wrap (t_2.1.tdiv 10), (((⟨#[48, 49, 50, 51, 52, 53, 54, 55, 56, 57]⟩ : ByteArray).extract ((t_2.1.tmod 10).toNat) ((IntKind.u64.wrap ((t_2.1.tmod 10) + 1)).toNat)) ++ t_2.2)), ⟨le_of_eq (eg oz), le_of_eq (eg (os rfl oz)), trivial⟩, rfl, hz_1⟩
    · skip
      replace hz_3 := ifb_f hz_3 hc
      clear hc
      refine aw_exit ?_
      obtain rfl := some_of hz_3
      replace hz_1 := ocs_r hz_1
      refine wk_no ?_
      refine wk_yesN rfl (l := [(3, pl (.string t_2.2))]) (bs' := []) ⟨le_of_eq (eg (os rfl oz)), trivial⟩ (zbc zPb bnd_nil) (zNb rfl) (by simp only [znz] <;> rfl) bxle_nil rfl (by simp only [znz] <;> rfl) bl_nil ?_
      exact ⟨t_2.2, ⟨le_of_eq (eg oz), trivial⟩, rfl, some_of hz_1⟩
  · rintro e st ⟨vz_1, hH, rfl, rfl⟩
    refine aw_keep _ hH ?_
    refine aw_keep [(3, _)] ⟨lg oz, trivial⟩ ?_
    refine aw_seq ?_
    refine aw_region (by decide) ?_
    refine rts _ rfl (opD_move oz) ?_
    refine rts _ rfl (opD_assign lz) ?_
    refine .nil ?_
    refine aw_keep [(2, _)] ⟨lg lz, trivial⟩ ?_
    refine aw_ret ?_
    obtain rfl := some_of h0
    exact done_ext (.inr rfl) ((res_one rfl (it_tmp oz)).le zLr) zPb

def F_rName (fl : Nat) (p0 : Rf) : Option (ByteArray × Int) :=
  bnd (F_rNamed p0) fun x_1 => ifb (!x_1) (some ((⟨#[]⟩ : ByteArray), 1)) (bnd (F_rdig fl (IntKind.u64.wrap (p0.Slot))) fun x_2 => grd (x_2.size + (⟨#[46]⟩ : ByteArray).size ≤ 9223372036854775807) <| bnd (F_rdig fl p0.Gen) fun x_3 => grd ((x_2 ++ (⟨#[46]⟩ : ByteArray)).size + x_3.size ≤ 9223372036854775807) <| some (((x_2 ++ (⟨#[46]⟩ : ByteArray)) ++ x_3), 0))
set_option maxRecDepth 100000 in
set_option maxHeartbeats 2000000 in
theorem c_rName {fl : Nat} {p0 : Rf} {R : ByteArray × Int} (h0 : F_rName fl p0 = some R) : Pure Go.Proofs.Tryz.prog 13 [agg [pl (.int .i64 p0.Slot), pl (.int .u64 p0.Gen)]] (tup [pl (.string R.1), pl (.int .i64 R.2)]) := by
  intro s
  unfold F_rName at h0
  refine ac_of_aw s.boxes.length s.fr.length Go.Proofs.Tryz.func13 rfl (by simp [Go.Proofs.Tryz.ntmps13]) ?_
  refine aw_ext0 ?_
  refine aw_keep [(0, _)] ⟨lg ez, trivial⟩ ?_
  refine aw_seq ?_
  refine aw_region (by decide) ?_
  refine rts _ rfl (boxAN (n := 0) rfl oz (zbc zPb (zbc zPb bnd_nil)) (by first | exact List.length_nil | (simp only [List.length_cons, List.length_nil, Nat.zero_add, Nat.reduceAdd] <;> rfl)) (by simp only [znz] <;> rfl)) ?_
  refine rts _ rfl (opD_assign (ev_const _ _)) ?_
  refine rts _ rfl (opD_assign (ev_const _ _)) ?_
  refine .nil ?_
  refine aw_keep [(1, _)] ⟨lg (ls rfl (ls rfl lz)), trivial⟩ ?_
  refine aw_seq ?_
  refine aw_seq ?_
  refine aw_region (by decide) ?_
  refine rts _ rfl (opD_load_aggX (qs := [_, _]) ag24_C5 sz24_C5 oz (loc_getN rfl rfl) (zNb rfl) rfl) ?_
  replace h0 := bnd_some h0
  obtain ⟨x_1, hx_1, h0⟩ := h0
  refine rts _ rfl (opD_pure ht51_C5 (c_rNamed hx_1) ⟨(le_of_eq lz).trans (agg_le ⟨zLr, zLr, trivial⟩), trivial⟩) ?_
  refine rts _ rfl (opD_not lz) ?_
  refine .nil ?_
  refine aw_keep [(1, _), (6, _)] ⟨lg (ls rfl (ls rfl (ls rfl oz))), lg lz, trivial⟩ ?_
  refine aw_cond _ (os rfl oz) (fun hc => ?_) (fun hc => ?_)
  · skip
    replace h0 := ifb_t h0 hc
    clear hc
    refine aw_seq ?_
    refine aw_region (by decide) ?_
    refine rts _ rfl (opD_assign (ev_const _ _)) ?_
    refine rts _ rfl (opD_assign (ev_const _ _)) ?_
    refine .nil ?_
    refine aw_keep [(2, _), (3, _)] ⟨lg (ls rfl lz), lg lz, trivial⟩ ?_
    refine aw_ret ?_
    obtain rfl := some_of h0
    exact done_ext (.inr rfl) ((res_list (rs := [_, _]) (ps := [_, _]) rfl rfl ⟨it_tmp oz, it_tmp (os rfl oz), trivial⟩).le (tup_le ⟨zLr, zLr, trivial⟩)) (tup_bnd (zbc zPb (zbc zPb bnd_nil)))
  · skip
    replace h0 := ifb_f h0 hc
    clear hc
    refine aw_skip ?_
    refine aw_keep [(1, _)] ⟨lg oz, trivial⟩ ?_
    refine aw_seq ?_
    refine aw_flat mixed_C5 (by decide +kernel) ?_
    refine zts _ rfl (opD_fieldAddr fo24_0_C5 oz) ?_
    refine zts _ rfl (opD_load_one ag3_C5 lz (loc_getN rfl rfl) rfl) ?_
    refine zts _ rfl (opD_conv_int Go.Proofs.Tryz.underlying3 Go.Proofs.Tryz.underlying22 lz rfl) ?_
    replace h0 := bnd_some h0
    obtain ⟨x_2, hx_2, h0⟩ := h0
    refine zts _ rfl (opD_pure ht52_C5 (c_rdig hx_2) ⟨le_of_eq lz, trivial⟩) ?_
    replace h0 := grd_some h0
    obtain ⟨hg_3, h0⟩ := h0
    refine zts _ rfl (opD_sadd lz (ev_const _ _) hg_3) ?_
    refine zts _ rfl (opD_fieldAddr fo24_1_C5 (ls rfl (ls rfl (ls rfl (ls rfl (ls rfl oz)))))) ?_
    refine zts _ rfl (opD_load_one ag22_C5 lz (loc_getN rfl rfl) rfl) ?_
    replace h0 := bnd_some h0
    obtain ⟨x_3, hx_3, h0⟩ := h0
    refine zts _ rfl (opD_pure ht52_C5 (c_rdig hx_3) ⟨le_of_eq lz, trivial⟩) ?_
    replace h0 := grd_some h0
    obtain ⟨hg_4, h0⟩ := h0
    refine zts _ rfl (opD_sadd (ls rfl (ls rfl (ls rfl lz))) lz hg_4) ?_
    refine zts _ rfl (opD_assign lz) ?_
    refine zts _ rfl (opD_assign (ev_const _ _)) ?_
    refine .nil ?_
    refine aw_keep [(2, _), (3, _)] ⟨lg (ls rfl lz), lg lz, trivial⟩ ?_
    refine aw_ret ?_
    obtain rfl := some_of h0
    exact done_ext (.inr rfl) ((res_list (rs := [_, _]) (ps := [_, _]) rfl rfl ⟨it_tmp oz, it_tmp (os rfl oz), trivial⟩).le (tup_le ⟨zLr, zLr, trivial⟩)) (tup_bnd (zbc zPb (zbc zPb bnd_nil)))

def F_rnumb_b0 (p0 : ByteArray) (t_2 : Int × Int) : Option ((Int × Int) ⊕ ((Int × Bool) ⊕ (Int))) :=
  ifb (decide (t_2.2 < (p0.size : Int))) (grd (Below t_2.2 p0.size) <| grd (((decide ((byteAt p0 t_2.2) < 48)) == false) = true → Below t_2.2 p0.size) <| ifb ((decide ((byteAt p0 t_2.2) < 48)) || (decide (57 < (byteAt p0 t_2.2)))) (some (.inr (.inl (0, false)))) (grd (Below t_2.2 p0.size) <| some (.inl (IntKind.u64.wrap ((IntKind.u64.wrap (10 * t_2.1)) + (IntKind.u64.wrap (IntKind.u8.wrap ((byteAt p0 t_2.2) - 48)))), IntKind.i64.wrap (t_2.2 + 1))))) (some (.inr (.inr t_2.1)))
def F_rnumb (fl : Nat) (p0 : ByteArray) : Option (Int × Bool) :=
  grd (((((decide ((p0.size : Int) < 1)) || (decide (19 < (p0.size : Int)))) == false) && ((decide (1 < (p0.size : Int))) == true)) = true → Below 0 p0.size) <| ifb (((decide ((p0.size : Int) < 1)) || (decide (19 < (p0.size : Int)))) || ((decide (1 < (p0.size : Int))) && (decide ((byteAt p0 0) = 48)))) (some (0, false)) (bnd (lp (F_rnumb_b0 p0) fl (0, 0)) fun z_1 => ocs z_1 (fun qz_1_0 => some qz_1_0) fun z_1_0 => some (z_1_0, true))
set_option maxRecDepth 100000 in
set_option maxHeartbeats 2000000 in
theorem c_rnumb {fl : Nat} {p0 : ByteArray} {R : Int × Bool} (h0 : F_rnumb fl p0 = some R) : Pure Go.Proofs.Tryz.prog 55 [pl (.string p0)] (tup [pl (.int .u64 R.1), pl (.bool R.2)]) := by
  intro s
  unfold F_rnumb at h0
  refine ac_of_aw s.boxes.length s.fr.length Go.Proofs.Tryz.func55 rfl (by simp [Go.Proofs.Tryz.ntmps55]) ?_
  refine aw_ext0 ?_
  refine aw_keep [(0, _)] ⟨lg ez, trivial⟩ ?_
  refine aw_seq ?_
  refine aw_region (by decide) ?_
  refine rts _ rfl (opD_assign (ev_const _ _)) ?_
  refine rts _ rfl (opD_assign (ev_const _ _)) ?_
  refine .nil ?_
  refine aw_keep [(0, _)] ⟨lg (ls rfl (ls rfl oz)), trivial⟩ ?_
  refine aw_seq ?_
  refine aw_seq ?_
  refine aw_region (by decide) ?_
  refine rts _ rfl (opD_move oz) ?_
  refine rts _ rfl (opD_len_str Go.Proofs.Tryz.underlying9 lz) ?_
  refine rts _ rfl (opD_lss lz (ev_const _ _)) ?_
  refine rts _ rfl (opD_move lz) ?_
  refine rtg _ rfl lz (fun hg1_4_1 => opD_move (ls rfl (ls rfl (ls rfl (ls rfl oz))))) ?_
  refine rtg _ rfl (ls rfl lz) (fun hg1_5_2 => opD_len_str Go.Proofs.Tryz.underlying9 (lz.trans (pif_pos hg1_5_2))) ?_
  refine rtg _ rfl (ls rfl (ls rfl lz)) (fun hg1_6_3 => opD_gtr (lz.trans (pif_pos hg1_6_3)) (ev_const _ _)) ?_
  refine rts _ rfl (opD_or (ls rfl (ls rfl (ls rfl lz))) lz) ?_
  refine rts _ rfl (opD_move lz) ?_
  refine rtg _ rfl lz (fun hg1_9_4 => opD_move (ls rfl (ls rfl (ls rfl (ls rfl (ls rfl (ls rfl (ls rfl (ls rfl (ls rfl oz)))))))))) ?_
  refine rtg _ rfl (ls rfl lz) (fun hg1_10_5 => opD_len_str Go.Proofs.Tryz.underlying9 (lz.trans (pif_pos hg1_10_5))) ?_
  refine rtg _ rfl (ls rfl (ls rfl lz)) (fun hg1_11_6 => opD_gtr (lz.trans (pif_pos hg1_11_6)) (ev_const _ _)) ?_
  refine rtg _ rfl (ls rfl (ls rfl (ls rfl lz))) (fun hg1_12_7 => opD_move (lz.trans (pif_pos hg1_12_7))) ?_
  refine rtg2 _ rfl lz (fun hg1_13_8 => opD_move (ls rfl (ls rfl (ls rfl (ls rfl (ls rfl (ls rfl (ls rfl (ls rfl (ls rfl (ls rfl (ls rfl (ls rfl (ls rfl oz)))))))))))))) ?_
  replace h0 := grd_some h0
  obtain ⟨hg_10, h0⟩ := h0
  refine rtg2 _ rfl (ls rfl lz) (fun hg1_14_9 => opD_index_str Go.Proofs.Tryz.underlying9 (lz.trans (pif_pos hg1_14_9)) (ev_const _ _) (hg_10 hg1_14_9)) ?_
  refine rtg2 _ rfl (ls rfl (ls rfl lz)) (fun hg1_15_11 => opD_eql (lz.trans (pif_pos hg1_15_11)) (ev_const _ _)) ?_
  refine rtg _ rfl (ls rfl (ls rfl (ls rfl (ls rfl (ls rfl (ls rfl (ls rfl lz))))))) (fun hg1_16_12 => opD_and ((ls rfl (ls rfl (ls rfl lz))).trans (pif_pos hg1_16_12)) (lz.trans (pif_and hg1_16_12))) ?_
  refine rts _ rfl (opD_or (ls rfl (ls rfl (ls rfl (ls rfl (ls rfl (ls rfl (ls rfl (ls rfl lz)))))))) lz) ?_
  refine .nil ?_
  refine aw_keep [(0, _), (23, _)] ⟨lg (ls rfl (ls rfl (ls rfl (ls rfl (ls rfl (ls rfl (ls rfl (ls rfl (ls rfl (ls rfl (ls rfl (ls rfl (ls rfl (ls rfl (ls rfl (ls rfl (ls rfl (ls rfl oz)))))))))))))))))), lg lz, trivial⟩ ?_
  refine aw_cond _ (os rfl oz) (fun hc => ?_) (fun hc => ?_)
  · skip
    replace h0 := ifb_t h0 hc
    clear hc
    refine aw_seq ?_
    refine aw_region (by decide) ?_
    refine rts _ rfl (opD_assign (ev_const _ _)) ?_
    refine rts _ rfl (opD_assign (ev_const _ _)) ?_
    refine .nil ?_
    refine aw_keep [(2, _), (3, _)] ⟨lg (ls rfl lz), lg lz, trivial⟩ ?_
    refine aw_ret ?_
    obtain rfl := some_of h0
    exact done_ext (.inr rfl) ((res_list (rs := [_, _]) (ps := [_, _]) rfl rfl ⟨it_tmp oz, it_tmp (os rfl oz), trivial⟩).le (tup_le ⟨zLr, zLr, trivial⟩)) (tup_bnd (zbc zPb (zbc zPb bnd_nil)))
  · skip
    replace h0 := ifb_f h0 hc
    clear hc
    refine aw_skip ?_
    refine aw_keep [(0, _)] ⟨lg oz, trivial⟩ ?_
    refine aw_seq ?_
    refine aw_region (by decide) ?_
    refine rts _ rfl (opD_assign (ev_const _ _)) ?_
    refine .nil ?_
    refine aw_keep [(0, _), (4, _)] ⟨lg (ls rfl oz), lg lz, trivial⟩ ?_
    refine aw_seq ?_
    refine aw_seq ?_
    refine aw_region (by decide) ?_
    refine rts _ rfl (opD_assign (ev_const _ _)) ?_
    refine .nil ?_
    refine aw_keep [(0, _), (4, _), (5, _)] ⟨lg (ls rfl oz), lg (ls rfl (os rfl oz)), lg lz, trivial⟩ ?_
    replace h0 := bnd_some h0
    obtain ⟨z_1, hz_1, h0⟩ := h0
    refine aw_mid (fun e st => ∃ v : Int, Holds e [(4, pl (.int .u64 v))] ∧ st = s.ext [] [] ∧ (.inr v) = z_1) ?_ ?_
    · skip
      refine aw_wkN rfl 0 0 rfl rfl ?_
      refine aw_block ?_
      refine aw_loop (fun n e st => ∃ v : Int × Int, Holds e [(0, pl (.string p0)), (4, pl (.int .u64 v.1)), (5, pl (.int .i64 v.2))] ∧ st = s.ext [] [] ∧ lp (F_rnumb_b0 p0) n v = some z_1) fl ⟨(0, 0), ⟨le_of_eq (eg oz), le_of_eq (eg (os rfl oz)), le_of_eq (eg (os rfl (os rfl oz))), trivial⟩, rfl, hz_1⟩ ?_
      rintro n e st ⟨t_2, hH, rfl, hz_1⟩
      replace hz_1 := lp_some hz_1
      obtain ⟨m_z_3, z_3, rfl, hz_3, hz_1⟩ := hz_1
      unfold F_rnumb_b0 at hz_3
      refine aw_keep _ hH ?_
      refine aw_wkN rfl 0 0 rfl rfl ?_
      refine aw_seq ?_
      refine aw_seq ?_
      refine aw_region (by decide) ?_
      refine rts _ rfl (opD_move (os rfl (os rfl oz))) ?_
      refine rts _ rfl (opD_move (ls rfl oz)) ?_
      refine rts _ rfl (opD_len_str Go.Proofs.Tryz.underlying9 lz) ?_
      refine rts _ rfl (opD_lss (ls rfl (ls rfl lz)) lz) ?_
      refine .nil ?_
      refine aw_keep [(0, _), (4, _), (5, _), (27, _)] ⟨lg (ls rfl (ls rfl (ls rfl (ls rfl oz)))), lg (ls rfl (ls rfl (ls rfl (ls rfl (os rfl oz))))), lg (ls rfl (ls rfl (ls rfl (ls rfl (os rfl (os rfl oz)))))), lg lz, trivial⟩ ?_
      refine aw_cond _ (os rfl (os rfl (os rfl oz))) (fun hc => ?_) (fun hc => ?_)
      · skip
        replace hz_3 := ifb_t hz_3 hc
        clear hc
        refine aw_skip ?_
        refine aw_keep [(0, _), (4, _), (5, _)] ⟨lg oz, lg (os rfl oz), lg (os rfl (os rfl oz)), trivial⟩ ?_
        refine aw_seq ?_
        refine aw_block ?_
        refine aw_seq ?_
        refine aw_seq ?_
        refine aw_region (by decide) ?_
        refine rts _ rfl (opD_move oz) ?_
        refine rts _ rfl (opD_move (ls rfl (os rfl (os rfl oz)))) ?_
        replace hz_3 := grd_some hz_3
        obtain ⟨hg_34, hz_3⟩ := hz_3
        refine rts _ rfl (opD_index_str Go.Proofs.Tryz.underlying9 (ls rfl lz) lz hg_34) ?_
        refine rts _ rfl (opD_lss lz (ev_const _ _)) ?_
        refine rts _ rfl (opD_move lz) ?_
        refine rtg _ rfl lz (fun hg7_5_35 => opD_move (ls rfl (ls rfl (ls rfl (ls rfl (ls rfl oz)))))) ?_
        refine rtg _ rfl (ls rfl lz) (fun hg7_6_36 => opD_move (ls rfl (ls rfl (ls rfl (ls rfl (ls rfl (ls rfl (os rfl (os rfl oz))))))))) ?_
        replace hz_3 := grd_some hz_3
        obtain ⟨hg_38, hz_3⟩ := hz_3
        refine rtg _ rfl (ls rfl (ls rfl lz)) (fun hg7_7_37 => opD_index_str Go.Proofs.Tryz.underlying9 ((ls rfl lz).trans (pif_pos hg7_7_37)) (lz.trans (pif_pos hg7_7_37)) (hg_38 hg7_7_37)) ?_
        refine rtg _ rfl (ls rfl (ls rfl (ls rfl lz))) (fun hg7_8_39 => opD_gtr (lz.trans (pif_pos hg7_8_39)) (ev_const _ _)) ?_
        refine rts _ rfl (opD_or (ls rfl (ls rfl (ls rfl (ls rfl lz)))) lz) ?_
        refine .nil ?_
        refine aw_keep [(0, _), (4, _), (5, _), (39, _)] ⟨lg (ls rfl (ls rfl (ls rfl (ls rfl (ls rfl (ls rfl (ls rfl (ls rfl (ls rfl (ls rfl oz)))))))))), lg (ls rfl (ls rfl (ls rfl (ls rfl (ls rfl (ls rfl (ls rfl (ls rfl (ls rfl (ls rfl (os rfl oz))))))))))), lg (ls rfl (ls rfl (ls rfl (ls rfl (ls rfl (ls rfl (ls rfl (ls rfl (ls rfl (ls rfl (os rfl (os rfl oz)))))))))))), lg lz, trivial⟩ ?_
        refine aw_cond _ (os rfl (os rfl (os rfl oz))) (fun hc => ?_) (fun hc => ?_)
        · skip
          replace hz_3 := ifb_t hz_3 hc
          clear hc
          refine aw_seq ?_
          refine aw_region (by decide) ?_
          refine rts _ rfl (opD_assign (ev_const _ _)) ?_
          refine rts _ rfl (opD_assign (ev_const _ _)) ?_
          refine .nil ?_
          refine aw_keep [(2, _), (3, _)] ⟨lg (ls rfl lz), lg lz, trivial⟩ ?_
          refine aw_ret ?_
          obtain rfl := some_of hz_3
          replace hz_1 := ocs_r hz_1
          obtain rfl := some_of hz_1
          replace h0 := ocs_l h0
          refine wk_no ?_
          refine wk_no ?_
          obtain rfl := some_of h0
          exact done_ext (.inr rfl) ((res_list (rs := [_, _]) (ps := [_, _]) rfl rfl ⟨it_tmp oz, it_tmp (os rfl oz), trivial⟩).le (tup_le ⟨zLr, zLr, trivial⟩)) (tup_bnd (zbc zPb (zbc zPb bnd_nil)))
        · skip
          replace hz_3 := ifb_f hz_3 hc
          clear hc
          refine aw_skip ?_
          refine aw_keep [(0, _), (4, _), (5, _)] ⟨lg oz, lg (os rfl oz), lg (os rfl (os rfl oz)), trivial⟩ ?_
          refine aw_region (by decide) ?_
          refine rts _ rfl (opD_move (os rfl oz)) ?_
          refine rts _ rfl (opD_mul (ev_const _ _) lz rfl) ?_
          refine rts _ rfl (opD_move (ls rfl (ls rfl oz))) ?_
          refine rts _ rfl (opD_move (ls rfl (ls rfl (ls rfl (os rfl (os rfl oz)))))) ?_
          replace hz_3 := grd_some hz_3
          obtain ⟨hg_40, hz_3⟩ := hz_3
          refine rts _ rfl (opD_index_str Go.Proofs.Tryz.underlying9 (ls rfl lz) lz hg_40) ?_
          refine rts _ rfl (opD_sub lz (ev_const _ _) rfl) ?_
          refine rts _ rfl (opD_conv_int Go.Proofs.Tryz.underlying5 Go.Proofs.Tryz.underlying22 lz rfl) ?_
          refine rts _ rfl (opD_add (ls rfl (ls rfl (ls rfl (ls rfl (ls rfl lz))))) lz rfl) ?_
          refine rts _ rfl (opD_assign lz) ?_
          refine .nil ?_
          refine aw_keep [(0, _), (4, _), (5, _)] ⟨lg (ls rfl (ls rfl (ls rfl (ls rfl (ls rfl (ls rfl (ls rfl (ls rfl (ls rfl oz))))))))), lg lz, lg (ls rfl (ls rfl (ls rfl (ls rfl (ls rfl (ls rfl (ls rfl (ls rfl (ls rfl (os rfl (os rfl oz))))))))))), trivial⟩ ?_
          refine aw_region (by decide) ?_
          refine rts _ rfl (opD_move (os rfl (os rfl oz))) ?_
          refine rts _ rfl (opD_add lz (ev_const _ _) rfl) ?_
          refine rts _ rfl (opD_assign lz) ?_
          refine .nil ?_
          obtain rfl := some_of hz_3
          replace hz_1 := ocs_l hz_1
          refine wk_yesN rfl (l := [(0, pl (.string p0)), (4, pl (.int .u64 (IntKind.u64.wrap ((IntKind.u64.wrap (10 * t_2.1)) + (IntKind.u64.wrap (IntKind.u8.wrap ((byteAt p0 t_2.2) - 48))))))), (5, pl (.int .i64 (IntKind.i64.wrap (t_2.2 + 1))))]) (bs' := []) ⟨le_of_eq (eg (ls rfl (ls rfl (ls rfl oz)))), le_of_eq (eg (ls rfl (ls rfl (ls rfl (os rfl oz))))), le_of_eq (eg lz), trivial⟩ (zbc zPb (zbc zPb (zbc zPb bnd_nil))) (zNb rfl) (by simp only [znz] <;> rfl) bxle_nil rfl (by simp only [znz] <;> rfl) bl_nil ?_
          exact ⟨m_z_3, Nat.lt_succ_self _, (IntKind.u64.wrap ((IntKind.u64.wrap (10 * t_2.1)) + (IntKind.u64.wrap (IntKind.u8.wrap ((byteAt p0 t_2.2) - 48)))), IntKind.i64.wrap (t_2.2 + 1)), ⟨le_of_eq (eg oz), le_of_eq (eg (os rfl oz)), le_of_eq (eg (os rfl (os rfl oz))), trivial⟩, rfl, hz_1⟩
      · skip
        replace hz_3 := ifb_f hz_3 hc
        clear hc
        refine aw_exit ?_
        obtain rfl := some_of hz_3
        replace hz_1 := ocs_r hz_1
        refine wk_no ?_
        refine wk_yesN rfl (l := [(4, pl (.int .u64 t_2.1))]) (bs' := []) ⟨le_of_eq (eg (os rfl oz)), trivial⟩ (zbc zPb bnd_nil) (zNb rfl) (by simp only [znz] <;> rfl) bxle_nil rfl (by simp only [znz] <;> rfl) bl_nil ?_
        exact ⟨t_2.1, ⟨le_of_eq (eg oz), trivial⟩, rfl, some_of hz_1⟩
    · rintro e st ⟨vz_1, hH, rfl, rfl⟩
      refine aw_keep _ hH ?_
      replace h0 := ocs_r h0
      refine aw_keep [(4, _)] ⟨lg oz, trivial⟩ ?_
      refine aw_seq ?_
      refine aw_region (by decide) ?_
      refine rts _ rfl (opD_move oz) ?_
      refine rts _ rfl (opD_assign lz) ?_
      refine rts _ rfl (opD_assign (ev_const _ _)) ?_
      refine .nil ?_
      refine aw_keep [(2, _), (3, _)] ⟨lg (ls rfl lz), lg lz, trivial⟩ ?_
      refine aw_ret ?_
      obtain rfl := some_of h0
      exact done_ext (.inr rfl) ((res_list (rs := [_, _]) (ps := [_, _]) rfl rfl ⟨it_tmp oz, it_tmp (os rfl oz), trivial⟩).le (tup_le ⟨zLr, zLr, trivial⟩)) (tup_bnd (zbc zPb (zbc zPb bnd_nil)))

def F_rParse_b0 (fl : Nat) (p0 : ByteArray) (t_2 : Int) : Option ((Int) ⊕ ((Rf × Int) ⊕ (Unit))) :=
  ifb (decide (t_2 < (p0.size : Int))) (grd (Below t_2 p0.size) <| ifb (decide ((byteAt p0 t_2) ≠ 46)) (some (.inl (IntKind.i64.wrap (t_2 + 1)))) (grd (UpTo t_2 p0.size) <| bnd (F_rnumb fl (p0.extract 0 t_2.toNat)) fun x_4 => grd (UpTo (IntKind.i64.wrap (t_2 + 1)) p0.size) <| bnd (F_rnumb fl (p0.extract ((IntKind.i64.wrap (t_2 + 1)).toNat) p0.size)) fun x_5 => ifb (((((!x_4.2) || (!x_5.2)) || (decide (63 < x_4.1))) || (decide (x_5.1 < 1))) || (decide (4611686018427387904 < x_5.1))) (some (.inr (.inl ((⟨0, 0⟩ : Rf), 3)))) (some (.inr (.inl ((⟨IntKind.i64.wrap (x_4.1), x_5.1⟩ : Rf), 0)))))) (some (.inr (.inr ())))
def F_rParse (fl : Nat) (p0 : ByteArray) : Option (Rf × Int) :=
  bnd (lp (F_rParse_b0 fl p0) fl 0) fun z_1 => ocs z_1 (fun qz_1_0 => some qz_1_0) fun z_1_0 => some ((⟨0, 0⟩ : Rf), 3)
set_option maxRecDepth 100000 in
set_option maxHeartbeats 2000000 in
theorem c_rParse {fl : Nat} {p0 : ByteArray} {R : Rf × Int} (h0 : F_rParse fl p0 = some R) : Pure Go.Proofs.Tryz.prog 15 [pl (.string p0)] (tup [agg [pl (.int .i64 R.1.Slot), pl (.int .u64 R.1.Gen)], pl (.int .i64 R.2)]) := by
  intro s
  unfold F_rParse at h0
  refine ac_of_aw s.boxes.length s.fr.length Go.Proofs.Tryz.func15 rfl (by simp [Go.Proofs.Tryz.ntmps15]) ?_
  refine aw_ext0 ?_
  refine aw_keep [(0, _)] ⟨lg ez, trivial⟩ ?_
  refine aw_seq ?_
  refine aw_region (by decide) ?_
  refine rts _ rfl (allocN rfl zt24_C5 (by first | exact List.length_nil | (simp only [List.length_cons, List.length_nil, Nat.zero_add, Nat.reduceAdd] <;> rfl)) (by simp only [znz] <;> rfl)) ?_
  refine rts _ rfl (opD_assign (ev_const _ _)) ?_
  refine .nil ?_
  refine aw_keep [(0, _), (2, _)] ⟨lg (ls rfl (ls rfl oz)), lg (ls rfl lz), trivial⟩ ?_
  refine aw_seq ?_
  refine aw_seq ?_
  refine aw_region (by decide) ?_
  refine rts _ rfl (opD_assign (ev_const _ _)) ?_
  refine .nil ?_
  refine aw_keep [(0, _), (2, _), (4, _)] ⟨lg (ls rfl oz), lg (ls rfl (os rfl oz)), lg lz, trivial⟩ ?_
  replace h0 := bnd_some h0
  obtain ⟨z_1, hz_1, h0⟩ := h0
  refine aw_mid (fun e st => ∃ v : Unit, Holds e [(2, ptr (s.boxes.length + 0) 0)] ∧ st = s.ext [⟨24, [pl (.int .i64 0), pl (.int .u64 0)]⟩] [] ∧ (.inr v) = z_1) ?_ ?_
  · skip
    refine aw_wkN rfl 1 0 rfl rfl ?_
    refine aw_block ?_
    refine aw_loop (fun n e st => ∃ v : Int, Holds e [(0, pl (.string p0)), (2, ptr (s.boxes.length + 0) 0), (4, pl (.int .i64 v))] ∧ st = s.ext [⟨24, [pl (.int .i64 0), pl (.int .u64 0)]⟩] [] ∧ lp (F_rParse_b0 fl p0) n v = some z_1) fl ⟨0, ⟨le_of_eq (eg oz), le_of_eq (eg (os rfl oz)), le_of_eq (eg (os rfl (os rfl oz))), trivial⟩, rfl, hz_1⟩ ?_
    rintro n e st ⟨t_2, hH, rfl, hz_1⟩
    replace hz_1 := lp_some hz_1
    obtain ⟨m_z_3, z_3, rfl, hz_3, hz_1⟩ := hz_1
    unfold F_rParse_b0 at hz_3
    refine aw_keep _ hH ?_
    refine aw_wkN rfl 1 0 rfl rfl ?_
    refine aw_seq ?_
    refine aw_seq ?_
    refine aw_region (by decide) ?_
    refine rts _ rfl (opD_move (os rfl (os rfl oz))) ?_
    refine rts _ rfl (opD_move (ls rfl oz)) ?_
    refine rts _ rfl (opD_len_str Go.Proofs.Tryz.underlying9 lz) ?_
    refine rts _ rfl (opD_lss (ls rfl (ls rfl lz)) lz) ?_
    refine .nil ?_
    refine aw_keep [(0, _), (2, _), (4, _), (12, _)] ⟨lg (ls rfl (ls rfl (ls rfl (ls rfl oz)))), lg (ls rfl (ls rfl (ls rfl (ls rfl (os rfl oz))))), lg (ls rfl (ls rfl (ls rfl (ls rfl (os rfl (os rfl oz)))))), lg lz, trivial⟩ ?_
    refine aw_cond _ (os rfl (os rfl (os rfl oz))) (fun hc => ?_) (fun hc => ?_)
    · skip
      replace hz_3 := ifb_t hz_3 hc
      clear hc
      refine aw_skip ?_
      refine aw_keep [(0, _), (2, _), (4, _)] ⟨lg oz, lg (os rfl oz), lg (os rfl (os rfl oz)), trivial⟩ ?_
      refine aw_seq ?_
      refine aw_block ?_
      refine aw_seq ?_
      refine aw_seq ?_
      refine aw_region (by decide) ?_
      refine rts _ rfl (opD_move oz) ?_
      refine rts _ rfl (opD_move (ls rfl (os rfl (os rfl oz)))) ?_
      replace hz_3 := grd_some hz_3
      obtain ⟨hg_34, hz_3⟩ := hz_3
      refine rts _ rfl (opD_index_str Go.Proofs.Tryz.underlying9 (ls rfl lz) lz hg_34) ?_
      refine rts _ rfl (opD_neq lz (ev_const _ _)) ?_
      refine .nil ?_
      refine aw_keep [(0, _), (2, _), (4, _), (18, _)] ⟨lg (ls rfl (ls rfl (ls rfl (ls rfl oz)))), lg (ls rfl (ls rfl (ls rfl (ls rfl (os rfl oz))))), lg (ls rfl (ls rfl (ls rfl (ls rfl (os rfl (os rfl oz)))))), lg lz, trivial⟩ ?_
      refine aw_cond _ (os rfl (os rfl (os rfl oz))) (fun hc => ?_) (fun hc => ?_)
      · skip
        replace hz_3 := ifb_t hz_3 hc
        clear hc
        refine aw_exit ?_
        refine aw_keep [(0, _), (2, _), (4, _)] ⟨lg oz, lg (os rfl oz), lg (os rfl (os rfl oz)), trivial⟩ ?_
        refine aw_region (by decide) ?_
        refine rts _ rfl (opD_move (os rfl (os rfl oz))) ?_
        refine rts _ rfl (opD_add lz (ev_const _ _) rfl) ?_
        refine rts _ rfl (opD_assign lz) ?_
        refine .nil ?_
        obtain rfl := some_of hz_3
        replace hz_1 := ocs_l hz_1
        refine wk_yesN rfl (l := [(0, pl (.string p0)), (2, ptr (s.boxes.length + 0) 0), (4, pl (.int .i64 (IntKind.i64.wrap (t_2 + 1))))]) (bs' := [⟨24, [pl (.int .i64 0), pl (.int .u64 0)]⟩]) ⟨le_of_eq (eg (ls rfl (ls rfl (ls rfl oz)))), le_of_eq (eg (ls rfl (ls rfl (ls rfl (os rfl oz))))), le_of_eq (eg lz), trivial⟩ (zbc zPb (zbc (ptr_bnd _ (by first | omega | (simp only [List.length_append, List.length_cons, List.length_nil]; omega))) (zbc zPb bnd_nil))) (zNb rfl) (by simp only [znz] <;> rfl) (bxle_same bxle_nil) rfl (by simp only [znz] <;> rfl) (bl_cons (zbc zPb (zbc zPb bnd_nil)) bl_nil) ?_
        exact ⟨m_z_3, Nat.lt_succ_self _, IntKind.i64.wrap (t_2 + 1), ⟨le_of_eq (eg oz), le_of_eq (eg (os rfl oz)), le_of_eq (eg (os rfl (os rfl oz))), trivial⟩, rfl, hz_1⟩
      · skip
        replace hz_3 := ifb_f hz_3 hc
        clear hc
        refine aw_skip ?_
        refine aw_keep [(0, _), (2, _), (4, _)] ⟨lg oz, lg (os rfl oz), lg (os rfl (os rfl oz)), trivial⟩ ?_
        refine aw_seq ?_
        refine aw_region (by decide) ?_
        refine rts _ rfl (opD_move oz) ?_
        refine rts _ rfl (opD_move (ls rfl (os rfl (os rfl oz)))) ?_
        replace hz_3 := grd_some hz_3
        obtain ⟨hg_35, hz_3⟩ := hz_3
        refine rts _ rfl (opD_sslice_to Go.Proofs.Tryz.underlying9 (ls rfl lz) lz (upto0 hg_35) (upto1 hg_35)) ?_
        replace hz_3 := bnd_some hz_3
        obtain ⟨x_4, hx_4, hz_3⟩ := hz_3
        refine rts _ rfl (opD_pure ht55_C5 (c_rnumb hx_4) ⟨le_of_eq lz, trivial⟩) ?_
        refine rts _ rfl (opD_move lz) ?_
        refine rts _ rfl (opD_extract lz rfl) ?_
        refine rts _ rfl (opD_extract (ls rfl lz) rfl) ?_
        refine rts _ rfl (opD_assign (ls rfl lz)) ?_
        refine rts _ rfl (opD_assign (ls rfl lz)) ?_
        refine .nil ?_
        refine aw_keep [(0, _), (2, _), (4, _), (5, _), (6, _)] ⟨lg (ls rfl (ls rfl (ls rfl (ls rfl (ls rfl (ls rfl (ls rfl (ls rfl (ls rfl oz))))))))), lg (ls rfl (ls rfl (ls rfl (ls rfl (ls rfl (ls rfl (ls rfl (ls rfl (ls rfl (os rfl oz)))))))))), lg (ls rfl (ls rfl (ls rfl (ls rfl (ls rfl (ls rfl (ls rfl (ls rfl (ls rfl (os rfl (os rfl oz))))))))))), lg (ls rfl lz), lg lz, trivial⟩ ?_
        refine aw_seq ?_
        refine aw_region (by decide) ?_
        refine rts _ rfl (opD_move oz) ?_
        refine rts _ rfl (opD_move (ls rfl (os rfl (os rfl oz)))) ?_
        refine rts _ rfl (opD_add lz (ev_const _ _) rfl) ?_
        replace hz_3 := grd_some hz_3
        obtain ⟨hg_36, hz_3⟩ := hz_3
        refine rts _ rfl (opD_sslice_from Go.Proofs.Tryz.underlying9 (ls rfl (ls rfl lz)) lz (upto0 hg_36) (upto1 hg_36)) ?_
        replace hz_3 := bnd_some hz_3
        obtain ⟨x_5, hx_5, hz_3⟩ := hz_3
        refine rts _ rfl (opD_pure ht55_C5 (c_rnumb hx_5) ⟨le_of_eq lz, trivial⟩) ?_
        refine rts _ rfl (opD_move lz) ?_
        refine rts _ rfl (opD_extract lz rfl) ?_
        refine rts _ rfl (opD_extract (ls rfl lz) rfl) ?_
        refine rts _ rfl (opD_assign (ls rfl lz)) ?_
        refine rts _ rfl (opD_assign (ls rfl lz)) ?_
        refine .nil ?_
        refine aw_keep [(2, _), (5, _), (6, _), (7, _), (8, _)] ⟨lg (ls rfl (ls rfl (ls rfl (ls rfl (ls rfl (ls rfl (ls rfl (ls rfl (ls rfl (ls rfl (os rfl oz))))))))))), lg (ls rfl (ls rfl (ls rfl (ls rfl (ls rfl (ls rfl (ls rfl (ls rfl (ls rfl (ls rfl (os rfl (os rfl (os rfl oz))))))))))))), lg (ls rfl (ls rfl (ls rfl (ls rfl (ls rfl (ls rfl (ls rfl (ls rfl (ls rfl (ls rfl (os rfl (os rfl (os rfl (os rfl oz)))))))))))))), lg (ls rfl lz), lg lz, trivial⟩ ?_
        refine aw_seq ?_
        refine aw_seq ?_
        refine aw_region (by decide) ?_
        refine rts _ rfl (opD_move (os rfl (os rfl oz))) ?_
        refine rts _ rfl (opD_not lz) ?_
        refine rts _ rfl (opD_move lz) ?_
        refine rtg _ rfl lz (fun hg7_3_37 => opD_move (ls rfl (ls rfl (ls rfl (os rfl (os rfl (os rfl (os rfl oz)))))))) ?_
        refine rtg _ rfl (ls rfl lz) (fun hg7_4_38 => opD_not (lz.trans (pif_pos hg7_4_38))) ?_
        refine rts _ rfl (opD_or (ls rfl (ls rfl lz)) lz) ?_
        refine rts _ rfl (opD_move lz) ?_
        refine rtg _ rfl lz (fun hg7_7_39 => opD_move (ls rfl (ls rfl (ls rfl (ls rfl (ls rfl (ls rfl (ls rfl (os rfl oz))))))))) ?_
        refine rtg _ rfl (ls rfl lz) (fun hg7_8_40 => opD_gtr (lz.trans (pif_pos hg7_8_40)) (ev_const _ _)) ?_
        refine rts _ rfl (opD_or (ls rfl (ls rfl lz)) lz) ?_
        refine rts _ rfl (opD_move lz) ?_
        refine rtg _ rfl lz (fun hg7_11_41 => opD_move (ls rfl (ls rfl (ls rfl (ls rfl (ls rfl (ls rfl (ls rfl (ls rfl (ls rfl (ls rfl (ls rfl (os rfl (os rfl (os rfl oz))))))))))))))) ?_
        refine rtg _ rfl (ls rfl lz) (fun hg7_12_42 => opD_lss (lz.trans (pif_pos hg7_12_42)) (ev_const _ _)) ?_
        refine rts _ rfl (opD_or (ls rfl (ls rfl lz)) lz) ?_
        refine rts _ rfl (opD_move lz) ?_
        refine rtg _ rfl lz (fun hg7_15_43 => opD_move (ls rfl (ls rfl (ls rfl (ls rfl (ls rfl (ls rfl (ls rfl (ls rfl (ls rfl (ls rfl (ls rfl (ls rfl (ls rfl (ls rfl (ls rfl (os rfl (os rfl (os rfl oz))))))))))))))))))) ?_
        refine rtg _ rfl (ls rfl lz) (fun hg7_16_44 => opD_gtr (lz.trans (pif_pos hg7_16_44)) (ev_const _ _)) ?_
        refine rts _ rfl (opD_or (ls rfl (ls rfl lz)) lz) ?_
        refine .nil ?_
        refine aw_keep [(2, _), (5, _), (7, _), (51, _)] ⟨lg (ls rfl (ls rfl (ls rfl (ls rfl (ls rfl (ls rfl (ls rfl (ls rfl (ls rfl (ls rfl (ls rfl (ls rfl (ls rfl (ls rfl (ls rfl (ls rfl (ls rfl (ls rfl oz)))))))))))))))))), lg (ls rfl (ls rfl (ls rfl (ls rfl (ls rfl (ls rfl (ls rfl (ls rfl (ls rfl (ls rfl (ls rfl (ls rfl (ls rfl (ls rfl (ls rfl (ls rfl (ls rfl (ls rfl (os rfl oz))))))))))))))))))), lg (ls rfl (ls rfl (ls rfl (ls rfl (ls rfl (ls rfl (ls rfl (ls rfl (ls rfl (ls rfl (ls rfl (ls rfl (ls rfl (ls rfl (ls rfl (ls rfl (ls rfl (ls rfl (os rfl (os rfl (os rfl oz))))))))))))))))))))), lg lz, trivial⟩ ?_
        refine aw_cond _ (os rfl (os rfl (os rfl oz))) (fun hc => ?_) (fun hc => ?_)
        · skip
          replace hz_3 := ifb_t hz_3 hc
          clear hc
          refine aw_seq ?_
          refine aw_region (by decide) ?_
          refine rts _ rfl (opD_build_struct (rs := [_, _]) Go.Proofs.Tryz.underlying24 pt24_C5 zt24_C5 parts_nil rfl) ?_
          refine rts _ rfl (storeAN rfl sz24_C5 (ls rfl oz) lz (ones_cons (one_pl rfl) (ones_cons (one_pl rfl) ones_nil)) rfl rfl (zNb rfl) (List.cons_ne_nil _ _) (zbc zPb (zbc zPb bnd_nil)) (by simp only [znz] <;> rfl) (by simp only [znz] <;> rfl)) ?_
          refine rts _ rfl (opD_assign (ev_const _ _)) ?_
          refine .nil ?_
          refine aw_keep [(2, _), (3, _)] ⟨lg (ls rfl (lx (ls rfl oz))), lg lz, trivial⟩ ?_
          refine aw_ret ?_
          obtain rfl := some_of hz_3
          replace hz_1 := ocs_r hz_1
          obtain rfl := some_of hz_1
          replace h0 := ocs_l h0
          refine wk_no ?_
          refine wk_no ?_
          obtain rfl := some_of h0
          exact done_ext (.inr rfl) ((res_list (rs := [_, _]) (ps := [_, _]) rfl rfl ⟨it_cellA (B := ⟨24, [_, _]⟩) ag24_C5 sz24_C5 oz (loc_getN rfl rfl) rfl, it_tmp (os rfl oz), trivial⟩).le (tup_le ⟨(agg_le ⟨zLr, zLr, trivial⟩), zLr, trivial⟩)) (tup_bnd (zbc (agg_bnd (zbc zPb (zbc zPb bnd_nil))) (zbc zPb bnd_nil)))
        · skip
          replace hz_3 := ifb_f hz_3 hc
          clear hc
          refine aw_skip ?_
          refine aw_keep [(2, _), (5, _), (7, _)] ⟨lg oz, lg (os rfl oz), lg (os rfl (os rfl oz)), trivial⟩ ?_
          refine aw_seq ?_
          refine aw_region (by decide) ?_
          refine rts _ rfl (opD_move (os rfl oz)) ?_
          refine rts _ rfl (opD_conv_int Go.Proofs.Tryz.underlying22 Go.Proofs.Tryz.underlying3 lz rfl) ?_
          refine rts _ rfl (opD_move (ls rfl (ls rfl (os rfl (os rfl oz))))) ?_
          refine rts _ rfl (opD_build_struct (rs := [_, _]) Go.Proofs.Tryz.underlying24 pt24_C5 zt24_C5 (parts_cons (cells1 (ls rfl lz) (one_pl rfl)) (parts_cons (cells1 lz (one_pl rfl)) parts_nil)) rfl) ?_
          refine rts _ rfl (storeAN rfl sz24_C5 (ls rfl (ls rfl (ls rfl (ls rfl oz)))) lz (ones_cons (one_pl rfl) (ones_cons (one_pl rfl) ones_nil)) rfl rfl (zNb rfl) (List.cons_ne_nil _ _) (zbc zPb (zbc zPb bnd_nil)) (by simp only [znz] <;> rfl) (by simp only [znz] <;> rfl)) ?_
          refine rts _ rfl (opD_assign (ev_const _ _)) ?_
          refine .nil ?_
          refine aw_keep [(2, _), (3, _)] ⟨lg (ls rfl (lx (ls rfl (ls rfl (ls rfl (ls rfl oz)))))), lg lz, trivial⟩ ?_
          refine aw_ret ?_
          obtain rfl := some_of hz_3
          replace hz_1 := ocs_r hz_1
          obtain rfl := some_of hz_1
          replace h0 := ocs_l h0
          refine wk_no ?_
          refine wk_no ?_
          obtain rfl := some_of h0
          exact done_ext (.inr rfl) ((res_list (rs := [_, _]) (ps := [_, _]) rfl rfl ⟨it_cellA (B := ⟨24, [_, _]⟩) ag24_C5 sz24_C5 oz (loc_getN rfl rfl) rfl, it_tmp (os rfl oz), trivial⟩).le (tup_le ⟨(agg_le ⟨zLr, zLr, trivial⟩), zLr, trivial⟩)) (tup_bnd (zbc (agg_bnd (zbc zPb (zbc zPb bnd_nil))) (zbc zPb bnd_nil)))
    · skip
      replace hz_3 := ifb_f hz_3 hc
      clear hc
      refine aw_exit ?_
      obtain rfl := some_of hz_3
      replace hz_1 := ocs_r hz_1
      refine wk_no ?_
      refine wk_yesN rfl (l := [(2, ptr (s.boxes.length + 0) 0)]) (bs' := [⟨24, [pl (.int .i64 0), pl (.int .u64 0)]⟩]) ⟨le_of_eq (eg (os rfl oz)), trivial⟩ (zbc (ptr_bnd _ (by first | omega | (simp only [List.length_append, List.length_cons, List.length_nil]; omega))) bnd_nil) (zNb rfl) (by simp only [znz] <;> rfl) (bxle_same bxle_nil) rfl (by simp only [znz] <;> rfl) (bl_cons (zbc zPb (zbc zPb bnd_nil)) bl_nil) ?_
      exact ⟨(), ⟨le_of_eq (eg oz), trivial⟩, rfl, some_of hz_1⟩
  · rintro e st ⟨vz_1, hH, rfl, rfl⟩
    refine aw_keep _ hH ?_
    replace h0 := ocs_r h0
    refine aw_keep [(2, _)] ⟨lg oz, trivial⟩ ?_
    refine aw_seq ?_
    refine aw_region (by decide) ?_
    refine rts _ rfl (opD_build_struct (rs := [_, _]) Go.Proofs.Tryz.underlying24 pt24_C5 zt24_C5 parts_nil rfl) ?_
    refine rts _ rfl (storeAN rfl sz24_C5 (ls rfl oz) lz (ones_cons (one_pl rfl) (ones_cons (one_pl rfl) ones_nil)) rfl rfl (zNb rfl) (List.cons_ne_nil _ _) (zbc zPb (zbc zPb bnd_nil)) (by simp only [znz] <;> rfl) (by simp only [znz] <;> rfl)) ?_
    refine rts _ rfl (opD_assign (ev_const _ _)) ?_
    refine .nil ?_
    refine aw_keep [(2, _), (3, _)] ⟨lg (ls rfl (lx (ls rfl oz))), lg lz, trivial⟩ ?_
    refine aw_ret ?_
    obtain rfl := some_of h0
    exact done_ext (.inr rfl) ((res_list (rs := [_, _]) (ps := [_, _]) rfl rfl ⟨it_cellA (B := ⟨24, [_, _]⟩) ag24_C5 sz24_C5 oz (loc_getN rfl rfl) rfl, it_tmp (os rfl oz), trivial⟩).le (tup_le ⟨(agg_le ⟨zLr, zLr, trivial⟩), zLr, trivial⟩)) (tup_bnd (zbc (agg_bnd (zbc zPb (zbc zPb bnd_nil))) (zbc zPb bnd_nil)))

def F_rDec (p0 : Int) (p1 : (List Int)) : Option (Cap × Int) :=
  ifb ((decide (p0 < 0)) || (decide (63 < p0))) (some ((⟨0, false, 0, (⟨0, 0⟩ : Rf), (⟨(⟨#[]⟩ : ByteArray), 0⟩ : Scp)⟩ : Cap), 1)) (bnd (oDNum (⟨p1, false⟩ : Rdr) 4611686018427387904) fun x_1 => bnd (oDByte x_1.1) fun x_2 => bnd (ifb ((decide (x_2.2 = 1)) && (!x_2.1.wrong_)) (bnd (oDNum x_2.1 4611686018427387904) fun x_4 => bnd (oDByte x_4.1) fun x_5 => bnd (oDNum x_5.1 4611686018427387904) fun x_6 => bnd (oDBytes x_6.1 40) fun x_7 => bnd (oDByte x_7.1) fun x_8 => some (x_8.1, (⟨x_1.2, (decide (x_2.2 = 1)), x_4.2, (⟨IntKind.i64.wrap (x_5.2), x_6.2⟩ : Rf), (⟨(strOf x_7.2), x_8.2⟩ : Scp)⟩ : Cap))) (some (x_2.1, (⟨x_1.2, (decide (x_2.2 = 1)), 0, (⟨0, 0⟩ : Rf), (⟨(⟨#[]⟩ : ByteArray), 0⟩ : Scp)⟩ : Cap)))) fun z_3 => bnd (gif ((z_3.1.wrong_ || (decide (1 < x_2.2))) == false) (oDDone z_3.1)) fun x_9 => bnd (gif (((z_3.1.wrong_ || (decide (1 < x_2.2))) || (!x_9)) == false) (F_rMay p0 z_3.2)) fun x_10 => ifb (((z_3.1.wrong_ || (decide (1 < x_2.2))) || (!x_9)) || (!x_10)) (some ((⟨0, false, 0, (⟨0, 0⟩ : Rf), (⟨(⟨#[]⟩ : ByteArray), 0⟩ : Scp)⟩ : Cap), 3)) (some (z_3.2, 0)))
set_option maxRecDepth 100000 in
set_option maxHeartbeats 2000000 in
theorem c_rDec {p0 : Int} {p1 : (List Int)} {R : Cap × Int} (h0 : F_rDec p0 p1 = some R) : Pure Go.Proofs.Tryz.prog 11 [pl (.int .i64 p0), sl (kI .u8) none none p1] (tup [agg [pl (.int .u64 R.1.Gen), pl (.bool R.1.Live), pl (.int .u64 R.1.Holder), pl (.int .i64 R.1.From.Slot), pl (.int .u64 R.1.From.Gen), pl (.string R.1.Scope.Prefix), pl (.int .u8 R.1.Scope.Rights)], pl (.int .i64 R.2)]) := by
  intro s
  unfold F_rDec at h0
  refine ac_of_aw s.boxes.length s.fr.length Go.Proofs.Tryz.func11 rfl (by simp [Go.Proofs.Tryz.ntmps11]) ?_
  refine aw_ext0 ?_
  refine aw_keep [(0, _), (1, _)] ⟨lg ez, lg (es ez), trivial⟩ ?_
  refine aw_seq ?_
  refine aw_region (by decide) ?_
  refine rts _ rfl (allocN rfl zt28_C5 (by first | exact List.length_nil | (simp only [List.length_cons, List.length_nil, Nat.zero_add, Nat.reduceAdd] <;> rfl)) (by simp only [znz] <;> rfl)) ?_
  refine rts _ rfl (opD_assign (ev_const _ _)) ?_
  refine .nil ?_
  refine aw_keep [(0, _), (1, _), (4, _)] ⟨lg (ls rfl (ls rfl oz)), lg (ls rfl (ls rfl (os rfl oz))), lg (ls rfl lz), trivial⟩ ?_
  refine aw_seq ?_
  refine aw_seq ?_
  refine aw_region (by decide) ?_
  refine rts _ rfl (opD_move oz) ?_
  refine rts _ rfl (opD_lss lz (ev_const _ _)) ?_
  refine rts _ rfl (opD_move lz) ?_
  refine rtg _ rfl lz (fun hg1_3_1 => opD_move (ls rfl (ls rfl (ls rfl oz)))) ?_
  refine rtg _ rfl (ls rfl lz) (fun hg1_4_2 => opD_gtr (lz.trans (pif_pos hg1_4_2)) (ev_const _ _)) ?_
  refine rts _ rfl (opD_or (ls rfl (ls rfl lz)) lz) ?_
  refine .nil ?_
  refine aw_keep [(0, _), (1, _), (4, _), (21, _)] ⟨lg (ls rfl (ls rfl (ls rfl (ls rfl (ls rfl (ls rfl oz)))))), lg (ls rfl (ls rfl (ls rfl (ls rfl (ls rfl (ls rfl (os rfl oz))))))), lg (ls rfl (ls rfl (ls rfl (ls rfl (ls rfl (ls rfl (os rfl (os rfl oz)))))))), lg lz, trivial⟩ ?_
  refine aw_cond _ (os rfl (os rfl (os rfl oz))) (fun hc => ?_) (fun hc => ?_)
  · skip
    replace h0 := ifb_t h0 hc
    clear hc
    refine aw_seq ?_
    refine aw_region (by decide) ?_
    refine rts _ rfl (opD_build_struct (rs := [_, _, _, _, _, _, _]) Go.Proofs.Tryz.underlying28 pt28_C5 zt28_C5 parts_nil rfl) ?_
    refine rts _ rfl (storeAN rfl sz28_C5 (ls rfl (os rfl (os rfl oz))) lz (ones_cons (one_pl rfl) (ones_cons (one_pl rfl) (ones_cons (one_pl rfl) (ones_cons (one_pl rfl) (ones_cons (one_pl rfl) (ones_cons (one_pl rfl) (ones_cons (one_pl rfl) ones_nil))))))) rfl rfl (zNb rfl) (List.cons_ne_nil _ _) (zbc zPb (zbc zPb (zbc zPb (zbc zPb (zbc zPb (zbc zPb (zbc zPb bnd_nil))))))) (by simp only [znz] <;> rfl) (by simp only [znz] <;> rfl)) ?_
    refine rts _ rfl (opD_assign (ev_const _ _)) ?_
    refine .nil ?_
    refine aw_keep [(4, _), (5, _)] ⟨lg (ls rfl (lx (ls rfl (os rfl (os rfl oz))))), lg lz, trivial⟩ ?_
    refine aw_ret ?_
    obtain rfl := some_of h0
    exact done_ext (.inr rfl) ((res_list (rs := [_, _]) (ps := [_, _]) rfl rfl ⟨it_cellA (B := ⟨28, [_, _, _, _, _, _, _]⟩) ag28_C5 sz28_C5 oz (loc_getN rfl rfl) rfl, it_tmp (os rfl oz), trivial⟩).le (tup_le ⟨(agg_le ⟨zLr, zLr, zLr, zLr, zLr, zLr, zLr, trivial⟩), zLr, trivial⟩)) (tup_bnd (zbc (agg_bnd (zbc zPb (zbc zPb (zbc zPb (zbc zPb (zbc zPb (zbc zPb (zbc zPb bnd_nil)))))))) (zbc zPb bnd_nil)))
  · skip
    replace h0 := ifb_f h0 hc
    clear hc
    refine aw_skip ?_
    refine aw_keep [(0, _), (1, _), (4, _)] ⟨lg oz, lg (os rfl oz), lg (os rfl (os rfl oz)), trivial⟩ ?_
    refine aw_seq ?_
    refine aw_region (by decide) ?_
    refine rts _ rfl (opD_move (os rfl oz)) ?_
    refine rts _ rfl (opD_build_struct (rs := [_, _]) Go.Proofs.Tryz.underlying115 pt115_C5 zt115_C5 (parts_cons (cells1 lz (one_sl _ _ _ _)) parts_nil) rfl) ?_
    replace h0 := bnd_some h0
    obtain ⟨x_1, hx_1, h0⟩ := h0
    refine rts _ rfl (opD_pure ht45_C5 (c_oDNum hx_1) ⟨(le_of_eq lz).trans (agg_le ⟨zLr, zLr, trivial⟩), le_of_eq (ev_const _ _), trivial⟩) ?_
    refine rts _ rfl (opD_move lz) ?_
    refine rts _ rfl (opD_extract lz rfl) ?_
    refine rts _ rfl (opD_extract (ls rfl lz) rfl) ?_
    refine rts _ rfl (allocN rfl zt115_C5 (by first | exact List.length_nil | (simp only [List.length_cons, List.length_nil, Nat.zero_add, Nat.reduceAdd] <;> rfl)) (by simp only [znz] <;> rfl)) ?_
    refine rts _ rfl (storeAN rfl sz115_C5 lz (ls rfl (ls rfl lz)) (ones_cons (one_sl _ _ _ _) (ones_cons (one_pl rfl) ones_nil)) rfl rfl (zNb rfl) (List.cons_ne_nil _ _) (zbc (sl_b (kb_I _)) (zbc zPb bnd_nil)) (by simp only [znz] <;> rfl) (by simp only [znz] <;> rfl)) ?_
    refine rts _ rfl (opD_assign (lx (ls rfl lz))) ?_
    refine .nil ?_
    refine aw_keep [(0, _), (4, _), (6, _), (7, _)] ⟨lg (ls rfl (lx (ls rfl (ls rfl (ls rfl (ls rfl (ls rfl (ls rfl (ls rfl oz))))))))), lg (ls rfl (lx (ls rfl (ls rfl (ls rfl (ls rfl (ls rfl (ls rfl (ls rfl (os rfl (os rfl oz))))))))))), lg (ls rfl (lx lz)), lg lz, trivial⟩ ?_
    refine aw_seq ?_
    refine aw_region (by decide) ?_
    refine rts _ rfl (opD_load_aggX (qs := [_, _]) ag115_C5 sz115_C5 (os rfl (os rfl oz)) (loc_getN rfl rfl) (zNb rfl) rfl) ?_
    replace h0 := bnd_some h0
    obtain ⟨x_2, hx_2, h0⟩ := h0
    refine rts _ rfl (opD_pure ht46_C5 (c_oDByte hx_2) ⟨(le_of_eq lz).trans (agg_le ⟨zLr, zLr, trivial⟩), trivial⟩) ?_
    refine rts _ rfl (opD_move lz) ?_
    refine rts _ rfl (opD_extract lz rfl) ?_
    refine rts _ rfl (opD_extract (ls rfl lz) rfl) ?_
    refine rts _ rfl (storeAN rfl sz115_C5 (ls rfl (ls rfl (ls rfl (ls rfl (ls rfl (os rfl (os rfl oz))))))) (ls rfl lz) (ones_cons (one_sl _ _ _ _) (ones_cons (one_pl rfl) ones_nil)) rfl rfl (zNb rfl) (List.cons_ne_nil _ _) (zbc (sl_b (kb_I _)) (zbc zPb bnd_nil)) (by simp only [znz] <;> rfl) (by simp only [znz] <;> rfl)) ?_
    refine rts _ rfl (opD_assign (lx lz)) ?_
    refine .nil ?_
    refine aw_keep [(0, _), (4, _), (6, _), (7, _), (8, _)] ⟨lg (ls rfl (lx (ls rfl (ls rfl (ls rfl (ls rfl (ls rfl oz))))))), lg (ls rfl (lx (ls rfl (ls rfl (ls rfl (ls rfl (ls rfl (os rfl oz)))))))), lg (ls rfl (lx (ls rfl (ls rfl (ls rfl (ls rfl (ls rfl (os rfl (os rfl oz))))))))), lg (ls rfl (lx (ls rfl (ls rfl (ls rfl (ls rfl (ls rfl (os rfl (os rfl (os rfl oz)))))))))), lg lz, trivial⟩ ?_
    refine aw_seq ?_
    refine aw_region (by decide) ?_
    refine rts _ rfl (opD_move (os rfl (os rfl (os rfl oz)))) ?_
    refine rts _ rfl (opD_move (ls rfl (os rfl (os rfl (os rfl (os rfl oz)))))) ?_
    refine rts _ rfl (opD_eql lz (ev_const _ _)) ?_
    refine rts _ rfl (opD_build_struct (rs := [_, _, _, _, _, _, _]) Go.Proofs.Tryz.underlying28 pt28_C5 zt28_C5 (parts_cons (cells1 (ls rfl (ls rfl lz)) (one_pl rfl)) (parts_cons (cells1 lz (one_pl rfl)) parts_nil)) rfl) ?_
    refine rts _ rfl (allocN rfl zt28_C5 (by first | exact List.length_nil | (simp only [List.length_cons, List.length_nil, Nat.zero_add, Nat.reduceAdd] <;> rfl)) (by simp only [znz] <;> rfl)) ?_
    refine rts _ rfl (storeAN rfl sz28_C5 lz (ls rfl lz) (ones_cons (one_pl rfl) (ones_cons (one_pl rfl) (ones_cons (one_pl rfl) (ones_cons (one_pl rfl) (ones_cons (one_pl rfl) (ones_cons (one_pl rfl) (ones_cons (one_pl rfl) ones_nil))))))) rfl rfl (zNb rfl) (List.cons_ne_nil _ _) (zbc zPb (zbc zPb (zbc zPb (zbc zPb (zbc zPb (zbc zPb (zbc zPb bnd_nil))))))) (by simp only [znz] <;> rfl) (by simp only [znz] <;> rfl)) ?_
    refine .nil ?_
    refine aw_keep [(0, _), (4, _), (6, _), (8, _), (9, _)] ⟨lg (lx (ls rfl (ls rfl (ls rfl (ls rfl (ls rfl oz)))))), lg (lx (ls rfl (ls rfl (ls rfl (ls rfl (ls rfl (os rfl oz))))))), lg (lx (ls rfl (ls rfl (ls rfl (ls rfl (ls rfl (os rfl (os rfl oz)))))))), lg (lx (ls rfl (ls rfl (ls rfl (ls rfl (ls rfl (os rfl (os rfl (os rfl (os rfl oz)))))))))), lg (lx lz), trivial⟩ ?_
    refine aw_seq ?_
    refine aw_seq ?_
    refine aw_region (by decide) ?_
    refine rts _ rfl (opD_move (os rfl (os rfl (os rfl oz)))) ?_
    refine rts _ rfl (opD_eql lz (ev_const _ _)) ?_
    refine rts _ rfl (opD_move lz) ?_
    refine rtg _ rfl lz (fun hg6_3_3 => opD_fieldAddr fo115_1_C5 (ls rfl (ls rfl (ls rfl (os rfl (os rfl oz)))))) ?_
    refine rtg _ rfl (ls rfl lz) (fun hg6_4_4 => opD_load_one ag4_C5 (lz.trans (pif_pos hg6_4_4)) (loc_getN rfl rfl) rfl) ?_
    refine rtg _ rfl (ls rfl (ls rfl lz)) (fun hg6_5_5 => opD_not (lz.trans (pif_pos hg6_5_5))) ?_
    refine rts _ rfl (opD_and (ls rfl (ls rfl (ls rfl lz))) lz) ?_
    refine .nil ?_
    refine aw_keep [(0, _), (4, _), (6, _), (8, _), (9, _), (44, _)] ⟨lg (ls rfl (ls rfl (ls rfl (ls rfl (ls rfl (ls rfl (ls rfl oz))))))), lg (ls rfl (ls rfl (ls rfl (ls rfl (ls rfl (ls rfl (ls rfl (os rfl oz)))))))), lg (ls rfl (ls rfl (ls rfl (ls rfl (ls rfl (ls rfl (ls rfl (os rfl (os rfl oz))))))))), lg (ls rfl (ls rfl (ls rfl (ls rfl (ls rfl (ls rfl (ls rfl (os rfl (os rfl (os rfl oz)))))))))), lg (ls rfl (ls rfl (ls rfl (ls rfl (ls rfl (ls rfl (ls rfl (os rfl (os rfl (os rfl (os rfl oz))))))))))), lg lz, trivial⟩ ?_
    replace h0 := bnd_some h0
    obtain ⟨z_3, hz_3, h0⟩ := h0
    refine aw_mid (fun e st => ∃ v : Rdr × Cap, Holds e [(0, pl (.int .i64 p0)), (4, ptr (s.boxes.length + 0) 0), (6, ptr (s.boxes.length + 1) 0), (8, pl (.int .u8 x_2.2)), (9, ptr (s.boxes.length + 2) 0)] ∧ st = s.ext [⟨28, [pl (.int .u64 0), pl (.bool false), pl (.int .u64 0), pl (.int .i64 0), pl (.int .u64 0), pl (.string (⟨#[]⟩ : ByteArray)), pl (.int .u8 0)]⟩, ⟨115, [sl (kI .u8) none none v.1.b_, pl (.bool v.1.wrong_)]⟩, ⟨28, [pl (.int .u64 v.2.Gen), pl (.bool v.2.Live), pl (.int .u64 v.2.Holder), pl (.int .i64 v.2.From.Slot), pl (.int .u64 v.2.From.Gen), pl (.string v.2.Scope.Prefix), pl (.int .u8 v.2.Scope.Rights)]⟩] [] ∧ v = z_3) ?_ ?_
    · skip
      refine aw_wkN rfl 3 0 rfl rfl ?_
      refine aw_cond _ (os rfl (os rfl (os rfl (os rfl (os rfl oz))))) (fun hc => ?_) (fun hc => ?_)
      · skip
        replace hz_3 := ifb_t hz_3 hc
        clear hc
        refine aw_seq ?_
        refine aw_region (by decide) ?_
        refine rts _ rfl (opD_load_aggX (qs := [_, _]) ag115_C5 sz115_C5 (os rfl (os rfl oz)) (loc_getN rfl rfl) (zNb rfl) rfl) ?_
        replace hz_3 := bnd_some hz_3
        obtain ⟨x_4, hx_4, hz_3⟩ := hz_3
        refine rts _ rfl (opD_pure ht45_C5 (c_oDNum hx_4) ⟨(le_of_eq lz).trans (agg_le ⟨zLr, zLr, trivial⟩), le_of_eq (ev_const _ _), trivial⟩) ?_
        refine rts _ rfl (opD_move lz) ?_
        refine rts _ rfl (opD_extract lz rfl) ?_
        refine rts _ rfl (opD_extract (ls rfl lz) rfl) ?_
        refine rts _ rfl (allocN rfl zt115_C5 (by first | exact List.length_nil | (simp only [List.length_cons, List.length_nil, Nat.zero_add, Nat.reduceAdd] <;> rfl)) (by simp only [znz] <;> rfl)) ?_
        refine rts _ rfl (storeAN rfl sz115_C5 lz (ls rfl (ls rfl lz)) (ones_cons (one_sl _ _ _ _) (ones_cons (one_pl rfl) ones_nil)) rfl rfl (zNb rfl) (List.cons_ne_nil _ _) (zbc (sl_b (kb_I _)) (zbc zPb bnd_nil)) (by simp only [znz] <;> rfl) (by simp only [znz] <;> rfl)) ?_
        refine rts _ rfl (opD_assign (lx (ls rfl lz))) ?_
        refine .nil ?_
        refine aw_keep [(0, _), (4, _), (6, _), (8, _), (9, _), (10, _), (11, _)] ⟨lg (ls rfl (lx (ls rfl (ls rfl (ls rfl (ls rfl (ls rfl (ls rfl oz)))))))), lg (ls rfl (lx (ls rfl (ls rfl (ls rfl (ls rfl (ls rfl (ls rfl (os rfl oz))))))))), lg (ls rfl (lx (ls rfl (ls rfl (ls rfl (ls rfl (ls rfl (ls rfl (os rfl (os rfl oz)))))))))), lg (ls rfl (lx (ls rfl (ls rfl (ls rfl (ls rfl (ls rfl (ls rfl (os rfl (os rfl (os rfl oz))))))))))), lg (ls rfl (lx (ls rfl (ls rfl (ls rfl (ls rfl (ls rfl (ls rfl (os rfl (os rfl (os rfl (os rfl oz)))))))))))), lg (ls rfl (lx lz)), lg lz, trivial⟩ ?_
        refine aw_seq ?_
        refine aw_region (by decide) ?_
        refine rts _ rfl (opD_load_aggX (qs := [_, _]) ag115_C5 sz115_C5 (os rfl (os rfl (os rfl (os rfl (os rfl oz))))) (loc_getN rfl rfl) (zNb rfl) rfl) ?_
        replace hz_3 := bnd_some hz_3
        obtain ⟨x_5, hx_5, hz_3⟩ := hz_3
        refine rts _ rfl (opD_pure ht46_C5 (c_oDByte hx_5) ⟨(le_of_eq lz).trans (agg_le ⟨zLr, zLr, trivial⟩), trivial⟩) ?_
        refine rts _ rfl (opD_move lz) ?_
        refine rts _ rfl (opD_extract lz rfl) ?_
        refine rts _ rfl (opD_extract (ls rfl lz) rfl) ?_
        refine rts _ rfl (storeAN rfl sz115_C5 (ls rfl (ls rfl (ls rfl (ls rfl (ls rfl (os rfl (os rfl (os rfl (os rfl (os rfl oz)))))))))) (ls rfl lz) (ones_cons (one_sl _ _ _ _) (ones_cons (one_pl rfl) ones_nil)) rfl rfl (zNb rfl) (List.cons_ne_nil _ _) (zbc (sl_b (kb_I _)) (zbc zPb bnd_nil)) (by simp only [znz] <;> rfl) (by simp only [znz] <;> rfl)) ?_
        refine rts _ rfl (opD_assign (lx lz)) ?_
        refine .nil ?_
        refine aw_keep [(0, _), (4, _), (6, _), (8, _), (9, _), (10, _), (11, _), (12, _)] ⟨lg (ls rfl (lx (ls rfl (ls rfl (ls rfl (ls rfl (ls rfl oz))))))), lg (ls rfl (lx (ls rfl (ls rfl (ls rfl (ls rfl (ls rfl (os rfl oz)))))))), lg (ls rfl (lx (ls rfl (ls rfl (ls rfl (ls rfl (ls rfl (os rfl (os rfl oz))))))))), lg (ls rfl (lx (ls rfl (ls rfl (ls rfl (ls rfl (ls rfl (os rfl (os rfl (os rfl oz)))))))))), lg (ls rfl (lx (ls rfl (ls rfl (ls rfl (ls rfl (ls rfl (os rfl (os rfl (os rfl (os rfl oz))))))))))), lg (ls rfl (lx (ls rfl (ls rfl (ls rfl (ls rfl (ls rfl (os rfl (os rfl (os rfl (os rfl (os rfl oz)))))))))))), lg (ls rfl (lx (ls rfl (ls rfl (ls rfl (ls rfl (ls rfl (os rfl (os rfl (os rfl (os rfl (os rfl (os rfl oz))))))))))))), lg lz, trivial⟩ ?_
        refine aw_seq ?_
        refine aw_region (by decide) ?_
        refine rts _ rfl (opD_load_aggX (qs := [_, _]) ag115_C5 sz115_C5 (os rfl (os rfl (os rfl (os rfl (os rfl oz))))) (loc_getN rfl rfl) (zNb rfl) rfl) ?_
        replace hz_3 := bnd_some hz_3
        obtain ⟨x_6, hx_6, hz_3⟩ := hz_3
        refine rts _ rfl (opD_pure ht45_C5 (c_oDNum hx_6) ⟨(le_of_eq lz).trans (agg_le ⟨zLr, zLr, trivial⟩), le_of_eq (ev_const _ _), trivial⟩) ?_
        refine rts _ rfl (opD_move lz) ?_
        refine rts _ rfl (opD_extract lz rfl) ?_
        refine rts _ rfl (opD_extract (ls rfl lz) rfl) ?_
        refine rts _ rfl (storeAN rfl sz115_C5 (ls rfl (ls rfl (ls rfl (ls rfl (ls rfl (os rfl (os rfl (os rfl (os rfl (os rfl oz)))))))))) (ls rfl lz) (ones_cons (one_sl _ _ _ _) (ones_cons (one_pl rfl) ones_nil)) rfl rfl (zNb rfl) (List.cons_ne_nil _ _) (zbc (sl_b (kb_I _)) (zbc zPb bnd_nil)) (by simp only [znz] <;> rfl) (by simp only [znz] <;> rfl)) ?_
        refine rts _ rfl (opD_assign (lx lz)) ?_
        refine .nil ?_
        refine aw_keep [(0, _), (4, _), (6, _), (8, _), (9, _), (10, _), (11, _), (12, _), (13, _)] ⟨lg (ls rfl (lx (ls rfl (ls rfl (ls rfl (ls rfl (ls rfl oz))))))), lg (ls rfl (lx (ls rfl (ls rfl (ls rfl (ls rfl (ls rfl (os rfl oz)))))))), lg (ls rfl (lx (ls rfl (ls rfl (ls rfl (ls rfl (ls rfl (os rfl (os rfl oz))))))))), lg (ls rfl (lx (ls rfl (ls rfl (ls rfl (ls rfl (ls rfl (os rfl (os rfl (os rfl oz)))))))))), lg (ls rfl (lx (ls rfl (ls rfl (ls rfl (ls rfl (ls rfl (os rfl (os rfl (os rfl (os rfl oz))))))))))), lg (ls rfl (lx (ls rfl (ls rfl (ls rfl (ls rfl (ls rfl (os rfl (os rfl (os rfl (os rfl (os rfl oz)))))))))))), lg (ls rfl (lx (ls rfl (ls rfl (ls rfl (ls rfl (ls rfl (os rfl (os rfl (os rfl (os rfl (os rfl (os rfl oz))))))))))))), lg (ls rfl (lx (ls rfl (ls rfl (ls rfl (ls rfl (ls rfl (os rfl (os rfl (os rfl (os rfl (os rfl (os rfl (os rfl oz)))))))))))))), lg lz, trivial⟩ ?_
        refine aw_seq ?_
        refine aw_region (by decide) ?_
        refine rts _ rfl (opD_load_aggX (qs := [_, _]) ag115_C5 sz115_C5 (os rfl (os rfl (os rfl (os rfl (os rfl oz))))) (loc_getN rfl rfl) (zNb rfl) rfl) ?_
        replace hz_3 := bnd_some hz_3
        obtain ⟨x_7, hx_7, hz_3⟩ := hz_3
        refine rts _ rfl (opD_pure ht47_C5 (c_oDBytes hx_7) ⟨(le_of_eq lz).trans (agg_le ⟨zLr, zLr, trivial⟩), le_of_eq (ev_const _ _), trivial⟩) ?_
        refine rts _ rfl (opD_move lz) ?_
        refine rts _ rfl (opD_extract lz rfl) ?_
        refine rts _ rfl (opD_extract (ls rfl lz) rfl) ?_
        refine rts _ rfl (storeAN rfl sz115_C5 (ls rfl (ls rfl (ls rfl (ls rfl (ls rfl (os rfl (os rfl (os rfl (os rfl (os rfl oz)))))))))) (ls rfl lz) (ones_cons (one_sl _ _ _ _) (ones_cons (one_pl rfl) ones_nil)) rfl rfl (zNb rfl) (List.cons_ne_nil _ _) (zbc (sl_b (kb_I _)) (zbc zPb bnd_nil)) (by simp only [znz] <;> rfl) (by simp only [znz] <;> rfl)) ?_
        refine rts _ rfl (opD_assign (lx lz)) ?_
        refine .nil ?_
        refine aw_keep [(0, _), (4, _), (6, _), (8, _), (9, _), (10, _), (11, _), (12, _), (13, _), (14, _)] ⟨lg (ls rfl (lx (ls rfl (ls rfl (ls rfl (ls rfl (ls rfl oz))))))), lg (ls rfl (lx (ls rfl (ls rfl (ls rfl (ls rfl (ls rfl (os rfl oz)))))))), lg (ls rfl (lx (ls rfl (ls rfl (ls rfl (ls rfl (ls rfl (os rfl (os rfl oz))))))))), lg (ls rfl (lx (ls rfl (ls rfl (ls rfl (ls rfl (ls rfl (os rfl (os rfl (os rfl oz)))))))))), lg (ls rfl (lx (ls rfl (ls rfl (ls rfl (ls rfl (ls rfl (os rfl (os rfl (os rfl (os rfl oz))))))))))), lg (ls rfl (lx (ls rfl (ls rfl (ls rfl (ls rfl (ls rfl (os rfl (os rfl (os rfl (os rfl (os rfl oz)))))))))))), lg (ls rfl (lx (ls rfl (ls rfl (ls rfl (ls rfl (ls rfl (os rfl (os rfl (os rfl (os rfl (os rfl (os rfl oz))))))))))))), lg (ls rfl (lx (ls rfl (ls rfl (ls rfl (ls rfl (ls rfl (os rfl (os rfl (os rfl (os rfl (os rfl (os rfl (os rfl oz)))))))))))))), lg (ls rfl (lx (ls rfl (ls rfl (ls rfl (ls rfl (ls rfl (os rfl (os rfl (os rfl (os rfl (os rfl (os rfl (os rfl (os rfl oz))))))))))))))), lg lz, trivial⟩ ?_
        refine aw_seq ?_
        refine aw_region (by decide) ?_
        refine rts _ rfl (opD_load_aggX (qs := [_, _]) ag115_C5 sz115_C5 (os rfl (os rfl (os rfl (os rfl (os rfl oz))))) (loc_getN rfl rfl) (zNb rfl) rfl) ?_
        replace hz_3 := bnd_some hz_3
        obtain ⟨x_8, hx_8, hz_3⟩ := hz_3
        refine rts _ rfl (opD_pure ht46_C5 (c_oDByte hx_8) ⟨(le_of_eq lz).trans (agg_le ⟨zLr, zLr, trivial⟩), trivial⟩) ?_
        refine rts _ rfl (opD_move lz) ?_
        refine rts _ rfl (opD_extract lz rfl) ?_
        refine rts _ rfl (opD_extract (ls rfl lz) rfl) ?_
        refine rts _ rfl (storeAN rfl sz115_C5 (ls rfl (ls rfl (ls rfl (ls rfl (ls rfl (os rfl (os rfl (os rfl (os rfl (os rfl oz)))))))))) (ls rfl lz) (ones_cons (one_sl _ _ _ _) (ones_cons (one_pl rfl) ones_nil)) rfl rfl (zNb rfl) (List.cons_ne_nil _ _) (zbc (sl_b (kb_I _)) (zbc zPb bnd_nil)) (by simp only [znz] <;> rfl) (by simp only [znz] <;> rfl)) ?_
        refine rts _ rfl (opD_assign (lx lz)) ?_
        refine .nil ?_
        refine aw_keep [(0, _), (4, _), (6, _), (8, _), (9, _), (10, _), (11, _), (12, _), (13, _), (14, _), (15, _)] ⟨lg (ls rfl (lx (ls rfl (ls rfl (ls rfl (ls rfl (ls rfl oz))))))), lg (ls rfl (lx (ls rfl (ls rfl (ls rfl (ls rfl (ls rfl (os rfl oz)))))))), lg (ls rfl (lx (ls rfl (ls rfl (ls rfl (ls rfl (ls rfl (os rfl (os rfl oz))))))))), lg (ls rfl (lx (ls rfl (ls rfl (ls rfl (ls rfl (ls rfl (os rfl (os rfl (os rfl oz)))))))))), lg (ls rfl (lx (ls rfl (ls rfl (ls rfl (ls rfl (ls rfl (os rfl (os rfl (os rfl (os rfl oz))))))))))), lg (ls rfl (lx (ls rfl (ls rfl (ls rfl (ls rfl (ls rfl (os rfl (os rfl (os rfl (os rfl (os rfl oz)))))))))))), lg (ls rfl (lx (ls rfl (ls rfl (ls rfl (ls rfl (ls rfl (os rfl (os rfl (os rfl (os rfl (os rfl (os rfl oz))))))))))))), lg (ls rfl (lx (ls rfl (ls rfl (ls rfl (ls rfl (ls rfl (os rfl (os rfl (os rfl (os rfl (os rfl (os rfl (os rfl oz)))))))))))))), lg (ls rfl (lx (ls rfl (ls rfl (ls rfl (ls rfl (ls rfl (os rfl (os rfl (os rfl (os rfl (os rfl (os rfl (os rfl (os rfl oz))))))))))))))), lg (ls rfl (lx (ls rfl (ls rfl (ls rfl (ls rfl (ls rfl (os rfl (os rfl (os rfl (os rfl (os rfl (os rfl (os rfl (os rfl (os rfl oz)))))))))))))))), lg lz, trivial⟩ ?_
        refine aw_seq ?_
        refine aw_region (by decide) ?_
        refine rts _ rfl (opD_load_aggX (qs := [_, _]) ag115_C5 sz115_C5 (os rfl (os rfl (os rfl (os rfl (os rfl oz))))) (loc_getN rfl rfl) (zNb rfl) rfl) ?_
        refine rts _ rfl (storeAN rfl sz115_C5 (ls rfl (os rfl (os rfl oz))) lz (ones_cons (one_sl _ _ _ _) (ones_cons (one_pl rfl) ones_nil)) rfl rfl (zNb rfl) (List.cons_ne_nil _ _) (zbc (sl_b (kb_I _)) (zbc zPb bnd_nil)) (by simp only [znz] <;> rfl) (by simp only [znz] <;> rfl)) ?_
        refine .nil ?_
        refine aw_keep [(0, _), (4, _), (6, _), (8, _), (9, _), (11, _), (12, _), (13, _), (14, _), (15, _)] ⟨lg (lx (ls rfl oz)), lg (lx (ls rfl (os rfl oz))), lg (lx (ls rfl (os rfl (os rfl oz)))), lg (lx (ls rfl (os rfl (os rfl (os rfl oz))))), lg (lx (ls rfl (os rfl (os rfl (os rfl (os rfl oz)))))), lg (lx (ls rfl (os rfl (os rfl (os rfl (os rfl (os rfl (os rfl oz)))))))), lg (lx (ls rfl (os rfl (os rfl (os rfl (os rfl (os rfl (os rfl (os rfl oz))))))))), lg (lx (ls rfl (os rfl (os rfl (os rfl (os rfl (os rfl (os rfl (os rfl (os rfl oz)))))))))), lg (lx (ls rfl (os rfl (os rfl (os rfl (os rfl (os rfl (os rfl (os rfl (os rfl (os rfl oz))))))))))), lg (lx (ls rfl (os rfl (os rfl (os rfl (os rfl (os rfl (os rfl (os rfl (os rfl (os rfl (os rfl oz)))))))))))), trivial⟩ ?_
        refine aw_seq ?_
        refine aw_region (by decide) ?_
        refine rts _ rfl (opD_move (os rfl (os rfl (os rfl (os rfl (os rfl oz)))))) ?_
        refine rts _ rfl (opD_fieldAddr fo28_2_C5 (ls rfl (os rfl (os rfl (os rfl (os rfl oz)))))) ?_
        refine rts _ rfl (storeON rfl sz22_C5 lz (le_of_eq (ls rfl lz)) (one_pl rfl) rfl (zNb rfl) zPb (by simp only [znz] <;> rfl) (by simp only [znz] <;> rfl)) ?_
        refine .nil ?_
        refine aw_keep [(0, _), (4, _), (6, _), (8, _), (9, _), (12, _), (13, _), (14, _), (15, _)] ⟨lg (lx (ls rfl (ls rfl oz))), lg (lx (ls rfl (ls rfl (os rfl oz)))), lg (lx (ls rfl (ls rfl (os rfl (os rfl oz))))), lg (lx (ls rfl (ls rfl (os rfl (os rfl (os rfl oz)))))), lg (lx (ls rfl (ls rfl (os rfl (os rfl (os rfl (os rfl oz))))))), lg (lx (ls rfl (ls rfl (os rfl (os rfl (os rfl (os rfl (os rfl (os rfl oz))))))))), lg (lx (ls rfl (ls rfl (os rfl (os rfl (os rfl (os rfl (os rfl (os rfl (os rfl oz)))))))))), lg (lx (ls rfl (ls rfl (os rfl (os rfl (os rfl (os rfl (os rfl (os rfl (os rfl (os rfl oz))))))))))), lg (lx (ls rfl (ls rfl (os rfl (os rfl (os rfl (os rfl (os rfl (os rfl (os rfl (os rfl (os rfl oz)))))))))))), trivial⟩ ?_
        refine aw_seq ?_
        refine aw_region (by decide) ?_
        refine rts _ rfl (opD_move (os rfl (os rfl (os rfl (os rfl (os rfl oz)))))) ?_
        refine rts _ rfl (opD_conv_int Go.Proofs.Tryz.underlying5 Go.Proofs.Tryz.underlying3 lz rfl) ?_
        refine rts _ rfl (opD_move (ls rfl (ls rfl (os rfl (os rfl (os rfl (os rfl (os rfl (os rfl oz))))))))) ?_
        refine rts _ rfl (opD_build_struct (rs := [_, _]) Go.Proofs.Tryz.underlying24 pt24_C5 zt24_C5 (parts_cons (cells1 (ls rfl lz) (one_pl rfl)) (parts_cons (cells1 lz (one_pl rfl)) parts_nil)) rfl) ?_
        refine rts _ rfl (opD_fieldAddr fo28_3_C5 (ls rfl (ls rfl (ls rfl (ls rfl (os rfl (os rfl (os rfl (os rfl oz))))))))) ?_
        refine rts _ rfl (storeAN rfl sz24_C5 lz (ls rfl lz) (ones_cons (one_pl rfl) (ones_cons (one_pl rfl) ones_nil)) rfl rfl (zNb rfl) (List.cons_ne_nil _ _) (zbc zPb (zbc zPb bnd_nil)) (by simp only [znz] <;> rfl) (by simp only [znz] <;> rfl)) ?_
        refine .nil ?_
        refine aw_keep [(0, _), (4, _), (6, _), (8, _), (9, _), (14, _), (15, _)] ⟨lg (lx (ls rfl (ls rfl (ls rfl (ls rfl (ls rfl oz)))))), lg (lx (ls rfl (ls rfl (ls rfl (ls rfl (ls rfl (os rfl oz))))))), lg (lx (ls rfl (ls rfl (ls rfl (ls rfl (ls rfl (os rfl (os rfl oz)))))))), lg (lx (ls rfl (ls rfl (ls rfl (ls rfl (ls rfl (os rfl (os rfl (os rfl oz))))))))), lg (lx (ls rfl (ls rfl (ls rfl (ls rfl (ls rfl (os rfl (os rfl (os rfl (os rfl oz)))))))))), lg (lx (ls rfl (ls rfl (ls rfl (ls rfl (ls rfl (os rfl (os rfl (os rfl (os rfl (os rfl (os rfl (os rfl oz))))))))))))), lg (lx (ls rfl (ls rfl (ls rfl (ls rfl (ls rfl (os rfl (os rfl (os rfl (os rfl (os rfl (os rfl (os rfl (os rfl oz)))))))))))))), trivial⟩ ?_
        refine aw_region (by decide) ?_
        refine rts _ rfl (opD_move (os rfl (os rfl (os rfl (os rfl (os rfl oz)))))) ?_
        refine rts _ rfl (opD_bytes_str Go.Proofs.Tryz.underlying30 Go.Proofs.Tryz.underlying5 Go.Proofs.Tryz.underlying9 lz) ?_
        refine rts _ rfl (opD_move (ls rfl (ls rfl (os rfl (os rfl (os rfl (os rfl (os rfl (os rfl oz))))))))) ?_
        refine rts _ rfl (opD_build_struct (rs := [_, _]) Go.Proofs.Tryz.underlying26 pt26_C5 zt26_C5 (parts_cons (cells1 (ls rfl lz) (one_pl rfl)) (parts_cons (cells1 lz (one_pl rfl)) parts_nil)) rfl) ?_
        refine rts _ rfl (opD_fieldAddr fo28_4_C5 (ls rfl (ls rfl (ls rfl (ls rfl (os rfl (os rfl (os rfl (os rfl oz))))))))) ?_
        refine rts _ rfl (storeAN rfl sz26_C5 lz (ls rfl lz) (ones_cons (one_pl rfl) (ones_cons (one_pl rfl) ones_nil)) rfl rfl (zNb rfl) (List.cons_ne_nil _ _) (zbc zPb (zbc zPb bnd_nil)) (by simp only [znz] <;> rfl) (by simp only [znz] <;> rfl)) ?_
        refine .nil ?_
        refine wk_yesN rfl (l := [(0, pl (.int .i64 p0)), (4, ptr (s.boxes.length + 0) 0), (6, ptr (s.boxes.length + 1) 0), (8, pl (.int .u8 x_2.2)), (9, ptr (s.boxes.length + 2) 0)]) (bs' := [⟨28, [pl (.int .u64 0), pl (.bool false), pl (.int .u64 0), pl (.int .i64 0), pl (.int .u64 0), pl (.string (⟨#[]⟩ : ByteArray)), pl (.int .u8 0)]⟩, ⟨115, [sl (kI .u8) none none x_8.1.b_, pl (.bool x_8.1.wrong_)]⟩, ⟨28, [pl (.int .u64 x_1.2), pl (.bool (decide (x_2.2 = 1))), pl (.int .u64 x_4.2), pl (.int .i64 (IntKind.i64.wrap (x_5.2))), pl (.int .u64 x_6.2), pl (.string (strOf x_7.2)), pl (.int .u8 x_8.2)]⟩]) ⟨le_of_eq (eg (lx (ls rfl (ls rfl (ls rfl (ls rfl (ls rfl oz))))))), le_of_eq (eg (lx (ls rfl (ls rfl (ls rfl (ls rfl (ls rfl (os rfl oz)))))))), le_of_eq (eg (lx (ls rfl (ls rfl (ls rfl (ls rfl (ls rfl (os rfl (os rfl oz))))))))), le_of_eq (eg (lx (ls rfl (ls rfl (ls rfl (ls rfl (ls rfl (os rfl (os rfl (os rfl oz)))))))))), le_of_eq (eg (lx (ls rfl (ls rfl (ls rfl (ls rfl (ls rfl (os rfl (os rfl (os rfl (os rfl oz))))))))))), trivial⟩ (zbc zPb (zbc (ptr_bnd _ (by first | omega | (simp only [List.length_append, List.length_cons, List.length_nil]; omega))) (zbc (ptr_bnd _ (by first | omega | (simp only [List.length_append, List.length_cons, List.length_nil]; omega))) (zbc zPb (zbc (ptr_bnd _ (by first | omega | (simp only [List.length_append, List.length_cons, List.length_nil]; omega))) bnd_nil))))) (zNb rfl) (by simp only [znz] <;> rfl) (bxle_same (bxle_same (bxle_same bxle_nil))) rfl (by simp only [znz] <;> rfl) (bl_cons (zbc zPb (zbc zPb (zbc zPb (zbc zPb (zbc zPb (zbc zPb (zbc zPb bnd_nil))))))) (bl_cons (zbc (sl_b (kb_I _)) (zbc zPb bnd_nil)) (bl_cons (zbc zPb (zbc zPb (zbc zPb (zbc zPb (zbc zPb (zbc zPb (zbc zPb bnd_nil))))))) bl_nil))) ?_
        exact ⟨(x_8.1, (⟨x_1.2, (decide (x_2.2 = 1)), x_4.2, (⟨IntKind.i64.wrap (x_5.2), x_6.2⟩ : Rf), (⟨(strOf x_7.2), x_8.2⟩ : Scp)⟩ : Cap)), ⟨le_of_eq (eg oz), le_of_eq (eg (os rfl oz)), le_of_eq (eg (os rfl (os rfl oz))), le_of_eq (eg (os rfl (os rfl (os rfl oz)))), le_of_eq (eg (os rfl (os rfl (os rfl (os rfl oz))))), trivial⟩, rfl, some_of hz_3⟩
      · skip
        replace hz_3 := ifb_f hz_3 hc
        clear hc
        refine aw_skip ?_
        refine wk_yesN rfl (l := [(0, pl (.int .i64 p0)), (4, ptr (s.boxes.length + 0) 0), (6, ptr (s.boxes.length + 1) 0), (8, pl (.int .u8 x_2.2)), (9, ptr (s.boxes.length + 2) 0)]) (bs' := [⟨28, [pl (.int .u64 0), pl (.bool false), pl (.int .u64 0), pl (.int .i64 0), pl (.int .u64 0), pl (.string (⟨#[]⟩ : ByteArray)), pl (.int .u8 0)]⟩, ⟨115, [sl (kI .u8) none none x_2.1.b_, pl (.bool x_2.1.wrong_)]⟩, ⟨28, [pl (.int .u64 x_1.2), pl (.bool (decide (x_2.2 = 1))), pl (.int .u64 0), pl (.int .i64 0), pl (.int .u64 0), pl (.string (⟨#[]⟩ : ByteArray)), pl (.int .u8 0)]⟩]) ⟨le_of_eq (eg oz), le_of_eq (eg (os rfl oz)), le_of_eq (eg (os rfl (os rfl oz))), le_of_eq (eg (os rfl (os rfl (os rfl oz)))), le_of_eq (eg (os rfl (os rfl (os rfl (os rfl oz))))), trivial⟩ (zbc zPb (zbc (ptr_bnd _ (by first | omega | (simp only [List.length_append, List.length_cons, List.length_nil]; omega))) (zbc (ptr_bnd _ (by first | omega | (simp only [List.length_append, List.length_cons, List.length_nil]; omega))) (zbc zPb (zbc (ptr_bnd _ (by first | omega | (simp only [List.length_append, List.length_cons, List.length_nil]; omega))) bnd_nil))))) (zNb rfl) (by simp only [znz] <;> rfl) (bxle_same (bxle_same (bxle_same bxle_nil))) rfl (by simp only [znz] <;> rfl) (bl_cons (zbc zPb (zbc zPb (zbc zPb (zbc zPb (zbc zPb (zbc zPb (zbc zPb bnd_nil))))))) (bl_cons (zbc (sl_b (kb_I _)) (zbc zPb bnd_nil)) (bl_cons (zbc zPb (zbc zPb (zbc zPb (zbc zPb (zbc zPb (zbc zPb (zbc zPb bnd_nil))))))) bl_nil))) ?_
        exact ⟨(x_2.1, (⟨x_1.2, (decide (x_2.2 = 1)), 0, (⟨0, 0⟩ : Rf), (⟨(⟨#[]⟩ : ByteArray), 0⟩ : Scp)⟩ : Cap)), ⟨le_of_eq (eg oz), le_of_eq (eg (os rfl oz)), le_of_eq (eg (os rfl (os rfl oz))), le_of_eq (eg (os rfl (os rfl (os rfl oz)))), le_of_eq (eg (os rfl (os rfl (os rfl (os rfl oz))))), trivial⟩, rfl, some_of hz_3⟩
    · rintro e st ⟨vz_3, hH, rfl, rfl⟩
      refine aw_keep _ hH ?_
      refine aw_keep [(0, _), (4, _), (6, _), (8, _), (9, _)] ⟨lg oz, lg (os rfl oz), lg (os rfl (os rfl oz)), lg (os rfl (os rfl (os rfl oz))), lg (os rfl (os rfl (os rfl (os rfl oz)))), trivial⟩ ?_
      refine aw_seq ?_
      refine aw_seq ?_
      refine aw_region (by decide) ?_
      refine rts _ rfl (opD_fieldAddr fo115_1_C5 (os rfl (os rfl oz))) ?_
      refine rts _ rfl (opD_load_one ag4_C5 lz (loc_getN rfl rfl) rfl) ?_
      refine rts _ rfl (opD_move lz) ?_
      refine rtg _ rfl lz (fun hg16_3_6 => opD_move (ls rfl (ls rfl (ls rfl (os rfl (os rfl (os rfl oz))))))) ?_
      refine rtg _ rfl (ls rfl lz) (fun hg16_4_7 => opD_gtr (lz.trans (pif_pos hg16_4_7)) (ev_const _ _)) ?_
      refine rts _ rfl (opD_or (ls rfl (ls rfl lz)) lz) ?_
      refine rts _ rfl (opD_move lz) ?_
      refine rtg _ rfl lz (fun hg16_7_8 => opD_load_aggX (qs := [_, _]) ag115_C5 sz115_C5 (ls rfl (ls rfl (ls rfl (ls rfl (ls rfl (ls rfl (ls rfl (os rfl (os rfl oz))))))))) (loc_getN rfl rfl) (zNb rfl) rfl) ?_
      replace h0 := bnd_some h0
      obtain ⟨x_9, hx_9, h0⟩ := h0
      refine rtg _ rfl (ls rfl lz) (fun hg16_8_9 => opD_pure ht48_C5 (c_oDDone (gif_some hx_9 hg16_8_9)) ⟨(le_of_eq (lz.trans (pif_pos hg16_8_9))).trans (agg_le ⟨zLr, zLr, trivial⟩), trivial⟩) ?_
      refine rtg _ rfl (ls rfl (ls rfl lz)) (fun hg16_9_10 => opD_not (lz.trans (pif_pos hg16_9_10))) ?_
      refine rts _ rfl (opD_or (ls rfl (ls rfl (ls rfl lz))) lz) ?_
      refine rts _ rfl (opD_move lz) ?_
      refine rtg _ rfl lz (fun hg16_12_11 => opD_move (ls rfl (ls rfl (ls rfl (ls rfl (ls rfl (ls rfl (ls rfl (ls rfl (ls rfl (ls rfl (ls rfl (ls rfl oz))))))))))))) ?_
      refine rtg _ rfl (ls rfl lz) (fun hg16_13_12 => opD_load_aggX (qs := [_, _, _, _, _, _, _]) ag28_C5 sz28_C5 (ls rfl (ls rfl (ls rfl (ls rfl (ls rfl (ls rfl (ls rfl (ls rfl (ls rfl (ls rfl (ls rfl (ls rfl (ls rfl (os rfl (os rfl (os rfl (os rfl oz))))))))))))))))) (loc_getN rfl rfl) (zNb rfl) rfl) ?_
      replace h0 := bnd_some h0
      obtain ⟨x_10, hx_10, h0⟩ := h0
      refine rtg _ rfl (ls rfl (ls rfl lz)) (fun hg16_14_13 => opD_pure ht18_C5 (c_rMay (gif_some hx_10 hg16_14_13)) ⟨le_of_eq ((ls rfl lz).trans (pif_pos hg16_14_13)), (le_of_eq (lz.trans (pif_pos hg16_14_13))).trans (agg_le ⟨zLr, zLr, zLr, zLr, zLr, zLr, zLr, trivial⟩), trivial⟩) ?_
      refine rtg _ rfl (ls rfl (ls rfl (ls rfl lz))) (fun hg16_15_14 => opD_not (lz.trans (pif_pos hg16_15_14))) ?_
      refine rts _ rfl (opD_or (ls rfl (ls rfl (ls rfl (ls rfl lz)))) lz) ?_
      refine .nil ?_
      refine aw_keep [(4, _), (9, _), (99, _)] ⟨lg (ls rfl (ls rfl (ls rfl (ls rfl (ls rfl (ls rfl (ls rfl (ls rfl (ls rfl (ls rfl (ls rfl (ls rfl (ls rfl (ls rfl (ls rfl (ls rfl (ls rfl (os rfl oz)))))))))))))))))), lg (ls rfl (ls rfl (ls rfl (ls rfl (ls rfl (ls rfl (ls rfl (ls rfl (ls rfl (ls rfl (ls rfl (ls rfl (ls rfl (ls rfl (ls rfl (ls rfl (ls rfl (os rfl (os rfl (os rfl (os rfl oz))))))))))))))))))))), lg lz, trivial⟩ ?_
      refine aw_cond _ (os rfl (os rfl oz)) (fun hc => ?_) (fun hc => ?_)
      · skip
        replace h0 := ifb_t h0 hc
        clear hc
        refine aw_seq ?_
        refine aw_region (by decide) ?_
        refine rts _ rfl (opD_build_struct (rs := [_, _, _, _, _, _, _]) Go.Proofs.Tryz.underlying28 pt28_C5 zt28_C5 parts_nil rfl) ?_
        refine rts _ rfl (storeAN rfl sz28_C5 (ls rfl oz) lz (ones_cons (one_pl rfl) (ones_cons (one_pl rfl) (ones_cons (one_pl rfl) (ones_cons (one_pl rfl) (ones_cons (one_pl rfl) (ones_cons (one_pl rfl) (ones_cons (one_pl rfl) ones_nil))))))) rfl rfl (zNb rfl) (List.cons_ne_nil _ _) (zbc zPb (zbc zPb (zbc zPb (zbc zPb (zbc zPb (zbc zPb (zbc zPb bnd_nil))))))) (by simp only [znz] <;> rfl) (by simp only [znz] <;> rfl)) ?_
        refine rts _ rfl (opD_assign (ev_const _ _)) ?_
        refine .nil ?_
        refine aw_keep [(4, _), (5, _)] ⟨lg (ls rfl (lx (ls rfl oz))), lg lz, trivial⟩ ?_
        refine aw_ret ?_
        obtain rfl := some_of h0
        exact done_ext (.inr rfl) ((res_list (rs := [_, _]) (ps := [_, _]) rfl rfl ⟨it_cellA (B := ⟨28, [_, _, _, _, _, _, _]⟩) ag28_C5 sz28_C5 oz (loc_getN rfl rfl) rfl, it_tmp (os rfl oz), trivial⟩).le (tup_le ⟨(agg_le ⟨zLr, zLr, zLr, zLr, zLr, zLr, zLr, trivial⟩), zLr, trivial⟩)) (tup_bnd (zbc (agg_bnd (zbc zPb (zbc zPb (zbc zPb (zbc zPb (zbc zPb (zbc zPb (zbc zPb bnd_nil)))))))) (zbc zPb bnd_nil)))
      · skip
        replace h0 := ifb_f h0 hc
        clear hc
        refine aw_skip ?_
        refine aw_keep [(4, _), (9, _)] ⟨lg oz, lg (os rfl oz), trivial⟩ ?_
        refine aw_seq ?_
        refine aw_region (by decide) ?_
        refine rts _ rfl (opD_load_aggX (qs := [_, _, _, _, _, _, _]) ag28_C5 sz28_C5 (os rfl oz) (loc_getN rfl rfl) (zNb rfl) rfl) ?_
        refine rts _ rfl (storeAN rfl sz28_C5 (ls rfl oz) lz (ones_cons (one_pl rfl) (ones_cons (one_pl rfl) (ones_cons (one_pl rfl) (ones_cons (one_pl rfl) (ones_cons (one_pl rfl) (ones_cons (one_pl rfl) (ones_cons (one_pl rfl) ones_nil))))))) rfl rfl (zNb rfl) (List.cons_ne_nil _ _) (zbc zPb (zbc zPb (zbc zPb (zbc zPb (zbc zPb (zbc zPb (zbc zPb bnd_nil))))))) (by simp only [znz] <;> rfl) (by simp only [znz] <;> rfl)) ?_
        refine rts _ rfl (opD_assign (ev_const _ _)) ?_
        refine .nil ?_
        refine aw_keep [(4, _), (5, _)] ⟨lg (ls rfl (lx (ls rfl oz))), lg lz, trivial⟩ ?_
        refine aw_ret ?_
        obtain rfl := some_of h0
        exact done_ext (.inr rfl) ((res_list (rs := [_, _]) (ps := [_, _]) rfl rfl ⟨it_cellA (B := ⟨28, [_, _, _, _, _, _, _]⟩) ag28_C5 sz28_C5 oz (loc_getN rfl rfl) rfl, it_tmp (os rfl oz), trivial⟩).le (tup_le ⟨(agg_le ⟨zLr, zLr, zLr, zLr, zLr, zLr, zLr, trivial⟩), zLr, trivial⟩)) (tup_bnd (zbc (agg_bnd (zbc zPb (zbc zPb (zbc zPb (zbc zPb (zbc zPb (zbc zPb (zbc zPb bnd_nil)))))))) (zbc zPb bnd_nil)))

def oNum28 (o : Option Int) : Option Int := some (numV o)
theorem c_num28 {p0 : Option Int} {R : Int} {s : St} (h0 : oNum28 p0 = some R) (hst : StC s) : AC Go.Proofs.Tryz.prog 16 [pl (errV p0)] s (pl (.int .i64 R)) s := by obtain rfl := some_of h0; exact num28 hst.1

def F_l28giveCap (p0 : Cap) : Option (Cap) :=
  some p0
set_option maxRecDepth 100000 in
set_option maxHeartbeats 2000000 in
theorem c_l28giveCap {p0 : Cap} {R : Cap} (h0 : F_l28giveCap p0 = some R) : Pure Go.Proofs.Tryz.prog 8 [agg [pl (.int .u64 p0.Gen), pl (.bool p0.Live), pl (.int .u64 p0.Holder), pl (.int .i64 p0.From.Slot), pl (.int .u64 p0.From.Gen), pl (.string p0.Scope.Prefix), pl (.int .u8 p0.Scope.Rights)]] (agg [pl (.int .u64 R.Gen), pl (.bool R.Live), pl (.int .u64 R.Holder), pl (.int .i64 R.From.Slot), pl (.int .u64 R.From.Gen), pl (.string R.Scope.Prefix), pl (.int .u8 R.Scope.Rights)]) := by
  intro s
  unfold F_l28giveCap at h0
  refine ac_of_aw s.boxes.length s.fr.length Go.Proofs.Tryz.func8 rfl (by simp [Go.Proofs.Tryz.ntmps8]) ?_
  refine aw_ext0 ?_
  refine aw_keep [(0, _)] ⟨lg ez, trivial⟩ ?_
  refine aw_seq ?_
  refine aw_region (by decide) ?_
  refine rts _ rfl (boxAN (n := 0) rfl oz (zbc zPb (zbc zPb (zbc zPb (zbc zPb (zbc zPb (zbc zPb (zbc zPb bnd_nil))))))) (by first | exact List.length_nil | (simp only [List.length_cons, List.length_nil, Nat.zero_add, Nat.reduceAdd] <;> rfl)) (by simp only [znz] <;> rfl)) ?_
  refine rts _ rfl (allocN rfl zt39_C5 (by first | exact List.length_nil | (simp only [List.length_cons, List.length_nil, Nat.zero_add, Nat.reduceAdd] <;> rfl)) (by simp only [znz] <;> rfl)) ?_
  refine .nil ?_
  refine aw_keep [(1, _), (2, _)] ⟨lg (ls rfl lz), lg lz, trivial⟩ ?_
  refine aw_seq ?_
  refine aw_region (by decide) ?_
  refine rts _ rfl (opD_fieldAddr fo28_0_C5 oz) ?_
  refine rts _ rfl (opD_load_one ag22_C5 lz (loc_getN rfl rfl) rfl) ?_
  refine rts _ rfl (opD_fieldAddr fo28_1_C5 (ls rfl (ls rfl oz))) ?_
  refine rts _ rfl (opD_load_one ag4_C5 lz (loc_getN rfl rfl) rfl) ?_
  refine rts _ rfl (opD_fieldAddr fo28_2_C5 (ls rfl (ls rfl (ls rfl (ls rfl oz))))) ?_
  refine rts _ rfl (opD_load_one ag22_C5 lz (loc_getN rfl rfl) rfl) ?_
  refine rts _ rfl (opD_fieldAddr fo28_3_C5 (ls rfl (ls rfl (ls rfl (ls rfl (ls rfl (ls rfl oz))))))) ?_
  refine rts _ rfl (opD_load_aggX (qs := [_, _]) ag24_C5 sz24_C5 lz (loc_getN rfl rfl) (zNb rfl) rfl) ?_
  refine rts _ rfl (opD_fieldAddr fo28_4_C5 (ls rfl (ls rfl (ls rfl (ls rfl (ls rfl (ls rfl (ls rfl (ls rfl oz))))))))) ?_
  refine rts _ rfl (opD_load_aggX (qs := [_, _]) ag26_C5 sz26_C5 lz (loc_getN rfl rfl) (zNb rfl) rfl) ?_
  refine rts _ rfl (opD_build_struct (rs := [_, _, _, _, _, _, _]) Go.Proofs.Tryz.underlying39 pt39_C5 zt39_C5 (parts_cons (cells1 (ls rfl (ls rfl (ls rfl (ls rfl (ls rfl (ls rfl (ls rfl (ls rfl lz)))))))) (one_pl rfl)) (parts_cons (cells1 (ls rfl (ls rfl (ls rfl (ls rfl (ls rfl (ls rfl lz)))))) (one_pl rfl)) (parts_cons (cells1 (ls rfl (ls rfl (ls rfl (ls rfl lz)))) (one_pl rfl)) (parts_cons (cellsA (ls rfl (ls rfl lz))) (parts_cons (cellsA lz) parts_nil))))) (fill_step rfl (by rfl) (by rfl) (by simp only [na, nb, nl, nc, nd, nh, ni, nj, nk, nm, Nat.reduceAdd] <;> rfl) (fill_step rfl (by rfl) (by rfl) (by simp only [na, nb, nl, nc, nd, nh, ni, nj, nk, nm, Nat.reduceAdd] <;> rfl) (fill_step rfl (by rfl) (by rfl) (by simp only [na, nb, nl, nc, nd, nh, ni, nj, nk, nm, Nat.reduceAdd] <;> rfl) (fill_step rfl (by rfl) (by rfl) (by simp only [na, nb, nl, nc, nd, nh, ni, nj, nk, nm, Nat.reduceAdd] <;> rfl) (fill_step rfl (by rfl) (by rfl) (by simp only [na, nb, nl, nc, nd, nh, ni, nj, nk, nm, Nat.reduceAdd] <;> rfl) fill_nil)))))) ?_
  refine rts _ rfl (storeAN rfl sz39_C5 (ls rfl (ls rfl (ls rfl (ls rfl (ls rfl (ls rfl (ls rfl (ls rfl (ls rfl (ls rfl (ls rfl (os rfl oz)))))))))))) lz (ones_cons (one_pl rfl) (ones_cons (one_pl rfl) (ones_cons (one_pl rfl) (ones_cons (one_pl rfl) (ones_cons (one_pl rfl) (ones_cons (one_pl rfl) (ones_cons (one_pl rfl) ones_nil))))))) rfl rfl (zNb rfl) (List.cons_ne_nil _ _) (zbc zPb (zbc zPb (zbc zPb (zbc zPb (zbc zPb (zbc zPb (zbc zPb bnd_nil))))))) (by simp only [znz] <;> rfl) (by simp only [znz] <;> rfl)) ?_
  refine .nil ?_
  refine aw_keep [(2, _)] ⟨lg (lx (ls rfl (ls rfl (ls rfl (ls rfl (ls rfl (ls rfl (ls rfl (ls rfl (ls rfl (ls rfl (ls rfl (os rfl oz))))))))))))), trivial⟩ ?_
  refine aw_ret ?_
  obtain rfl := some_of h0
  exact done_ext (.inr rfl) ((res_one rfl (it_cellA (B := ⟨39, [_, _, _, _, _, _, _]⟩) ag39_C5 sz39_C5 oz (loc_getN rfl rfl) rfl)).le (agg_le ⟨zLr, zLr, zLr, zLr, zLr, zLr, zLr, trivial⟩)) (agg_bnd (zbc zPb (zbc zPb (zbc zPb (zbc zPb (zbc zPb (zbc zPb (zbc zPb bnd_nil))))))))

def F_l28sure : Option (Bool) :=
  bnd (F_cenc 3 (⟨2, true, 7, (⟨0, 1⟩ : Rf), (⟨(⟨#[97]⟩ : ByteArray), 3⟩ : Scp)⟩ : Cap)) fun x_1 => bnd (F_cdec 3 x_1.1) fun x_2 => bnd (F_cenc 0 (⟨2, true, 7, (⟨0, 1⟩ : Rf), (⟨(⟨#[97]⟩ : ByteArray), 3⟩ : Scp)⟩ : Cap)) fun x_3 => bnd (F_cname (⟨3, 2⟩ : Rf)) fun x_4 => bnd (F_cparse x_4.1) fun x_5 => bnd (gif ((((((x_1.2.isNone && x_2.2.isNone) && x_4.2.isNone) && x_5.2.isNone) && (decide ((x_1.1.length : Int) = 8))) && (decide (x_2.1.Gen = 2) && (decide (x_2.1.Live = true) && (decide (x_2.1.Holder = 7) && (decide (x_2.1.From.Slot = 0) && (decide (x_2.1.From.Gen = 1) && (decide (x_2.1.Scope.Prefix = (⟨#[97]⟩ : ByteArray)) && (decide (x_2.1.Scope.Rights = 3) && true)))))))) == true) (oNum28 x_3.2)) fun x_6 => some ((((((((x_1.2.isNone && x_2.2.isNone) && x_4.2.isNone) && x_5.2.isNone) && (decide ((x_1.1.length : Int) = 8))) && (decide (x_2.1.Gen = 2) && (decide (x_2.1.Live = true) && (decide (x_2.1.Holder = 7) && (decide (x_2.1.From.Slot = 0) && (decide (x_2.1.From.Gen = 1) && (decide (x_2.1.Scope.Prefix = (⟨#[97]⟩ : ByteArray)) && (decide (x_2.1.Scope.Rights = 3) && true)))))))) && (decide (x_6 = 1))) && (decide (x_4.1 = (⟨#[51, 46, 50]⟩ : ByteArray)))) && (decide (x_5.1.Gen = 2)))
set_option maxRecDepth 100000 in
set_option maxHeartbeats 2000000 in
theorem c_l28sure {R : Bool} {s : St} (h0 : F_l28sure = some R) (hst : StC s) : AC Go.Proofs.Tryz.prog 6 [] s (pl (.bool R)) s := by
  unfold F_l28sure at h0
  refine ac_of_aw s.boxes.length s.fr.length Go.Proofs.Tryz.func6 rfl (by simp [Go.Proofs.Tryz.ntmps6]) ?_
  refine aw_ext0 ?_
  refine aw_keep [] trivial ?_
  refine aw_seq ?_
  refine aw_region (by decide) ?_
  refine rts _ rfl (opD_assign (ev_const _ _)) ?_
  refine .nil ?_
  refine aw_keep [] trivial ?_
  refine aw_seq ?_
  refine aw_region (by decide) ?_
  refine rts _ rfl (opD_build_struct (rs := [_, _]) Go.Proofs.Tryz.underlying36 pt36_C5 zt36_C5 (parts_cons (cells1 (ev_const _ _) (one_pl rfl)) (parts_cons (cells1 (ev_const _ _) (one_pl rfl)) parts_nil)) rfl) ?_
  refine rts _ rfl (opD_build_struct (rs := [_, _]) Go.Proofs.Tryz.underlying37 pt37_C5 zt37_C5 (parts_cons (cells1 (ev_const _ _) (one_pl rfl)) (parts_cons (cells1 (ev_const _ _) (one_pl rfl)) parts_nil)) rfl) ?_
  refine rts _ rfl (opD_build_struct (rs := [_, _, _, _, _, _, _]) Go.Proofs.Tryz.underlying39 pt39_C5 zt39_C5 (parts_cons (cells1 (ev_const _ _) (one_pl rfl)) (parts_cons (cells1 (ev_const _ _) (one_pl rfl)) (parts_cons (cells1 (ev_const _ _) (one_pl rfl)) (parts_cons (cellsA (ls rfl lz)) (parts_cons (cellsA lz) parts_nil))))) (fill_step rfl (by rfl) (by rfl) (by simp only [na, nb, nl, nc, nd, nh, ni, nj, nk, nm, Nat.reduceAdd] <;> rfl) (fill_step rfl (by rfl) (by rfl) (by simp only [na, nb, nl, nc, nd, nh, ni, nj, nk, nm, Nat.reduceAdd] <;> rfl) (fill_step rfl (by rfl) (by rfl) (by simp only [na, nb, nl, nc, nd, nh, ni, nj, nk, nm, Nat.reduceAdd] <;> rfl) (fill_step rfl (by rfl) (by rfl) (by simp only [na, nb, nl, nc, nd, nh, ni, nj, nk, nm, Nat.reduceAdd] <;> rfl) (fill_step rfl (by rfl) (by rfl) (by simp only [na, nb, nl, nc, nd, nh, ni, nj, nk, nm, Nat.reduceAdd] <;> rfl) fill_nil)))))) ?_
  refine rts _ rfl (allocN rfl zt39_C5 (by first | exact List.length_nil | (simp only [List.length_cons, List.length_nil, Nat.zero_add, Nat.reduceAdd] <;> rfl)) (by simp only [znz] <;> rfl)) ?_
  refine rts _ rfl (storeAN rfl sz39_C5 lz (ls rfl lz) (ones_cons (one_pl rfl) (ones_cons (one_pl rfl) (ones_cons (one_pl rfl) (ones_cons (one_pl rfl) (ones_cons (one_pl rfl) (ones_cons (one_pl rfl) (ones_cons (one_pl rfl) ones_nil))))))) rfl rfl (zNb rfl) (List.cons_ne_nil _ _) (zbc zPb (zbc zPb (zbc zPb (zbc zPb (zbc zPb (zbc zPb (zbc zPb bnd_nil))))))) (by simp only [znz] <;> rfl) (by simp only [znz] <;> rfl)) ?_
  refine .nil ?_
  refine aw_keep [(1, _)] ⟨lg (lx lz), trivial⟩ ?_
  refine aw_seq ?_
  refine aw_region (by decide) ?_
  refine rts _ rfl (opD_load_aggX (qs := [_, _, _, _, _, _, _]) ag39_C5 sz39_C5 oz (loc_getN rfl rfl) (zNb rfl) rfl) ?_
  replace h0 := bnd_some h0
  obtain ⟨x_1, hx_1, h0⟩ := h0
  refine rts _ rfl (opD_pure ht7_C5 (c_cenc hx_1) ⟨le_of_eq (ev_const _ _), (le_of_eq lz).trans (agg_le ⟨zLr, zLr, zLr, zLr, zLr, zLr, zLr, trivial⟩), trivial⟩) ?_
  refine rts _ rfl (opD_move lz) ?_
  refine rts _ rfl (opD_extract lz rfl) ?_
  refine rts _ rfl (opD_extract (ls rfl lz) rfl) ?_
  refine rts _ rfl (opD_assign (ls rfl lz)) ?_
  refine rts _ rfl (opD_assign (ls rfl lz)) ?_
  refine .nil ?_
  refine aw_keep [(1, _), (2, _), (3, _)] ⟨lg (ls rfl (ls rfl (ls rfl (ls rfl (ls rfl (ls rfl (ls rfl oz))))))), lg (ls rfl lz), lg lz, trivial⟩ ?_
  refine aw_seq ?_
  refine aw_region (by decide) ?_
  refine rts _ rfl (opD_move (os rfl oz)) ?_
  replace h0 := bnd_some h0
  obtain ⟨x_2, hx_2, h0⟩ := h0
  refine rts _ rfl (opD_pure ht10_C5 (c_cdec hx_2) ⟨le_of_eq (ev_const _ _), le_of_eq lz, trivial⟩) ?_
  refine rts _ rfl (opD_move lz) ?_
  refine rts _ rfl (opD_extract lz rfl) ?_
  refine rts _ rfl (opD_extract (ls rfl lz) rfl) ?_
  refine rts _ rfl (allocN rfl zt39_C5 (by first | exact List.length_nil | (simp only [List.length_cons, List.length_nil, Nat.zero_add, Nat.reduceAdd] <;> rfl)) (by simp only [znz] <;> rfl)) ?_
  refine rts _ rfl (storeAN rfl sz39_C5 lz (ls rfl (ls rfl lz)) (ones_cons (one_pl rfl) (ones_cons (one_pl rfl) (ones_cons (one_pl rfl) (ones_cons (one_pl rfl) (ones_cons (one_pl rfl) (ones_cons (one_pl rfl) (ones_cons (one_pl rfl) ones_nil))))))) rfl rfl (zNb rfl) (List.cons_ne_nil _ _) (zbc zPb (zbc zPb (zbc zPb (zbc zPb (zbc zPb (zbc zPb (zbc zPb bnd_nil))))))) (by simp only [znz] <;> rfl) (by simp only [znz] <;> rfl)) ?_
  refine rts _ rfl (opD_assign (lx (ls rfl lz))) ?_
  refine .nil ?_
  refine aw_keep [(1, _), (2, _), (3, _), (4, _), (5, _)] ⟨lg (ls rfl (lx (ls rfl (ls rfl (ls rfl (ls rfl (ls rfl (ls rfl oz)))))))), lg (ls rfl (lx (ls rfl (ls rfl (ls rfl (ls rfl (ls rfl (ls rfl (os rfl oz))))))))), lg (ls rfl (lx (ls rfl (ls rfl (ls rfl (ls rfl (ls rfl (ls rfl (os rfl (os rfl oz)))))))))), lg (ls rfl (lx lz)), lg lz, trivial⟩ ?_
  refine aw_seq ?_
  refine aw_region (by decide) ?_
  refine rts _ rfl (opD_load_aggX (qs := [_, _, _, _, _, _, _]) ag39_C5 sz39_C5 oz (loc_getN rfl rfl) (zNb rfl) rfl) ?_
  replace h0 := bnd_some h0
  obtain ⟨x_3, hx_3, h0⟩ := h0
  refine rts _ rfl (opD_pure ht7_C5 (c_cenc hx_3) ⟨le_of_eq (ev_const _ _), (le_of_eq lz).trans (agg_le ⟨zLr, zLr, zLr, zLr, zLr, zLr, zLr, trivial⟩), trivial⟩) ?_
  refine rts _ rfl (opD_move lz) ?_
  refine rts _ rfl (opD_extract lz rfl) ?_
  refine rts _ rfl (opD_extract (ls rfl lz) rfl) ?_
  refine rts _ rfl (opD_assign (ls rfl lz)) ?_
  refine rts _ rfl (opD_assign (ls rfl lz)) ?_
  refine .nil ?_
  refine aw_keep [(1, _), (2, _), (3, _), (4, _), (5, _), (7, _)] ⟨lg (ls rfl (ls rfl (ls rfl (ls rfl (ls rfl (ls rfl (ls rfl oz))))))), lg (ls rfl (ls rfl (ls rfl (ls rfl (ls rfl (ls rfl (ls rfl (os rfl oz)))))))), lg (ls rfl (ls rfl (ls rfl (ls rfl (ls rfl (ls rfl (ls rfl (os rfl (os rfl oz))))))))), lg (ls rfl (ls rfl (ls rfl (ls rfl (ls rfl (ls rfl (ls rfl (os rfl (os rfl (os rfl oz)))))))))), lg (ls rfl (ls rfl (ls rfl (ls rfl (ls rfl (ls rfl (ls rfl (os rfl (os rfl (os rfl (os rfl oz))))))))))), lg lz, trivial⟩ ?_
  refine aw_seq ?_
  refine aw_region (by decide) ?_
  refine rts _ rfl (opD_build_struct (rs := [_, _]) Go.Proofs.Tryz.underlying36 pt36_C5 zt36_C5 (parts_cons (cells1 (ev_const _ _) (one_pl rfl)) (parts_cons (cells1 (ev_const _ _) (one_pl rfl)) parts_nil)) rfl) ?_
  replace h0 := bnd_some h0
  obtain ⟨x_4, hx_4, h0⟩ := h0
  refine rts _ rfl (opD_call ht12_C5 (c_cname hx_4 hst) ⟨(le_of_eq lz).trans (agg_le ⟨zLr, zLr, trivial⟩), trivial⟩) ?_
  refine rts _ rfl (opD_move lz) ?_
  refine rts _ rfl (opD_extract lz rfl) ?_
  refine rts _ rfl (opD_extract (ls rfl lz) rfl) ?_
  refine rts _ rfl (opD_assign (ls rfl lz)) ?_
  refine rts _ rfl (opD_assign (ls rfl lz)) ?_
  refine .nil ?_
  refine aw_keep [(1, _), (2, _), (3, _), (4, _), (5, _), (7, _), (8, _), (9, _)] ⟨lg (ls rfl (ls rfl (ls rfl (ls rfl (ls rfl (ls rfl (ls rfl oz))))))), lg (ls rfl (ls rfl (ls rfl (ls rfl (ls rfl (ls rfl (ls rfl (os rfl oz)))))))), lg (ls rfl (ls rfl (ls rfl (ls rfl (ls rfl (ls rfl (ls rfl (os rfl (os rfl oz))))))))), lg (ls rfl (ls rfl (ls rfl (ls rfl (ls rfl (ls rfl (ls rfl (os rfl (os rfl (os rfl oz)))))))))), lg (ls rfl (ls rfl (ls rfl (ls rfl (ls rfl (ls rfl (ls rfl (os rfl (os rfl (os rfl (os rfl oz))))))))))), lg (ls rfl (ls rfl (ls rfl (ls rfl (ls rfl (ls rfl (ls rfl (os rfl (os rfl (os rfl (os rfl (os rfl oz)))))))))))), lg (ls rfl lz), lg lz, trivial⟩ ?_
  refine aw_seq ?_
  refine aw_region (by decide) ?_
  refine rts _ rfl (opD_move (os rfl (os rfl (os rfl (os rfl (os rfl (os rfl oz))))))) ?_
  replace h0 := bnd_some h0
  obtain ⟨x_5, hx_5, h0⟩ := h0
  refine rts _ rfl (opD_call ht14_C5 (c_cparse hx_5 hst) ⟨le_of_eq lz, trivial⟩) ?_
  refine rts _ rfl (opD_move lz) ?_
  refine rts _ rfl (opD_extract lz rfl) ?_
  refine rts _ rfl (opD_extract (ls rfl lz) rfl) ?_
  refine rts _ rfl (allocN rfl zt36_C5 (by first | exact List.length_nil | (simp only [List.length_cons, List.length_nil, Nat.zero_add, Nat.reduceAdd] <;> rfl)) (by simp only [znz] <;> rfl)) ?_
  refine rts _ rfl (storeAN rfl sz36_C5 lz (ls rfl (ls rfl lz)) (ones_cons (one_pl rfl) (ones_cons (one_pl rfl) ones_nil)) rfl rfl (zNb rfl) (List.cons_ne_nil _ _) (zbc zPb (zbc zPb bnd_nil)) (by simp only [znz] <;> rfl) (by simp only [znz] <;> rfl)) ?_
  refine rts _ rfl (opD_assign (lx (ls rfl lz))) ?_
  refine .nil ?_
  refine aw_keep [(1, _), (2, _), (3, _), (4, _), (5, _), (7, _), (8, _), (9, _), (10, _), (11, _)] ⟨lg (ls rfl (lx (ls rfl (ls rfl (ls rfl (ls rfl (ls rfl (ls rfl oz)))))))), lg (ls rfl (lx (ls rfl (ls rfl (ls rfl (ls rfl (ls rfl (ls rfl (os rfl oz))))))))), lg (ls rfl (lx (ls rfl (ls rfl (ls rfl (ls rfl (ls rfl (ls rfl (os rfl (os rfl oz)))))))))), lg (ls rfl (lx (ls rfl (ls rfl (ls rfl (ls rfl (ls rfl (ls rfl (os rfl (os rfl (os rfl oz))))))))))), lg (ls rfl (lx (ls rfl (ls rfl (ls rfl (ls rfl (ls rfl (ls rfl (os rfl (os rfl (os rfl (os rfl oz)))))))))))), lg (ls rfl (lx (ls rfl (ls rfl (ls rfl (ls rfl (ls rfl (ls rfl (os rfl (os rfl (os rfl (os rfl (os rfl oz))))))))))))), lg (ls rfl (lx (ls rfl (ls rfl (ls rfl (ls rfl (ls rfl (ls rfl (os rfl (os rfl (os rfl (os rfl (os rfl (os rfl oz)))))))))))))), lg (ls rfl (lx (ls rfl (ls rfl (ls rfl (ls rfl (ls rfl (ls rfl (os rfl (os rfl (os rfl (os rfl (os rfl (os rfl (os rfl oz))))))))))))))), lg (ls rfl (lx lz)), lg lz, trivial⟩ ?_
  refine aw_seq ?_
  refine aw_region (by decide) ?_
  refine rts _ rfl (opD_move (os rfl (os rfl oz))) ?_
  refine rts _ rfl (opD_bin lz (ev_const _ _) (fun w => errV_geql _ w _) (fun w => errV_eql _ w)) ?_
  refine rts _ rfl (opD_move lz) ?_
  refine rtg _ rfl lz (fun hg7_3_1 => opD_move (ls rfl (ls rfl (ls rfl (os rfl (os rfl (os rfl (os rfl oz)))))))) ?_
  refine rtg _ rfl (ls rfl lz) (fun hg7_4_2 => opD_bin (lz.trans (pif_pos hg7_4_2)) (ev_const _ _) (fun w => errV_geql _ w _) (fun w => errV_eql _ w)) ?_
  refine rts _ rfl (opD_and (ls rfl (ls rfl lz)) lz) ?_
  refine rts _ rfl (opD_move lz) ?_
  refine rtg _ rfl lz (fun hg7_7_3 => opD_move (ls rfl (ls rfl (ls rfl (ls rfl (ls rfl (ls rfl (ls rfl (os rfl (os rfl (os rfl (os rfl (os rfl (os rfl (os rfl oz))))))))))))))) ?_
  refine rtg _ rfl (ls rfl lz) (fun hg7_8_4 => opD_bin (lz.trans (pif_pos hg7_8_4)) (ev_const _ _) (fun w => errV_geql _ w _) (fun w => errV_eql _ w)) ?_
  refine rts _ rfl (opD_and (ls rfl (ls rfl lz)) lz) ?_
  refine rts _ rfl (opD_move lz) ?_
  refine rtg _ rfl lz (fun hg7_11_5 => opD_move (ls rfl (ls rfl (ls rfl (ls rfl (ls rfl (ls rfl (ls rfl (ls rfl (ls rfl (ls rfl (ls rfl (os rfl (os rfl (os rfl (os rfl (os rfl (os rfl (os rfl (os rfl (os rfl oz))))))))))))))))))))) ?_
  refine rtg _ rfl (ls rfl lz) (fun hg7_12_6 => opD_bin (lz.trans (pif_pos hg7_12_6)) (ev_const _ _) (fun w => errV_geql _ w _) (fun w => errV_eql _ w)) ?_
  refine rts _ rfl (opD_and (ls rfl (ls rfl lz)) lz) ?_
  refine rts _ rfl (opD_move lz) ?_
  refine rtg _ rfl lz (fun hg7_15_7 => opD_move (ls rfl (ls rfl (ls rfl (ls rfl (ls rfl (ls rfl (ls rfl (ls rfl (ls rfl (ls rfl (ls rfl (ls rfl (ls rfl (ls rfl (ls rfl (os rfl oz))))))))))))))))) ?_
  refine rtg _ rfl (ls rfl lz) (fun hg7_16_8 => opD_len_sl Go.Proofs.Tryz.underlying30 (lz.trans (pif_pos hg7_16_8))) ?_
  refine rtg _ rfl (ls rfl (ls rfl lz)) (fun hg7_17_9 => opD_eql (lz.trans (pif_pos hg7_17_9)) (ev_const _ _)) ?_
  refine rts _ rfl (opD_and (ls rfl (ls rfl (ls rfl lz))) lz) ?_
  refine rts _ rfl (opD_move lz) ?_
  refine rtg _ rfl lz (fun hg7_20_10 => opD_load_aggX (qs := [_, _, _, _, _, _, _]) ag39_C5 sz39_C5 (ls rfl (ls rfl (ls rfl (ls rfl (ls rfl (ls rfl (ls rfl (ls rfl (ls rfl (ls rfl (ls rfl (ls rfl (ls rfl (ls rfl (ls rfl (ls rfl (ls rfl (ls rfl (ls rfl (ls rfl (os rfl (os rfl (os rfl oz))))))))))))))))))))))) (loc_getN rfl rfl) (zNb rfl) rfl) ?_
  refine rtg _ rfl (ls rfl lz) (fun hg7_21_11 => opD_load_aggX (qs := [_, _, _, _, _, _, _]) ag39_C5 sz39_C5 (ls rfl (ls rfl (ls rfl (ls rfl (ls rfl (ls rfl (ls rfl (ls rfl (ls rfl (ls rfl (ls rfl (ls rfl (ls rfl (ls rfl (ls rfl (ls rfl (ls rfl (ls rfl (ls rfl (ls rfl (ls rfl oz))))))))))))))))))))) (loc_getN rfl rfl) (zNb rfl) rfl) ?_
  refine rtg _ rfl (ls rfl (ls rfl lz)) (fun hg7_22_12 => opD_binA [.int .u64 x_2.1.Gen, .bool x_2.1.Live, .int .u64 x_2.1.Holder, .int .i64 x_2.1.From.Slot, .int .u64 x_2.1.From.Gen, .string x_2.1.Scope.Prefix, .int .u8 x_2.1.Scope.Rights] [.int .u64 2, .bool true, .int .u64 7, .int .i64 0, .int .u64 1, .string (⟨#[97]⟩ : ByteArray), .int .u8 3] ((ls rfl lz).trans (pif_pos hg7_22_12)) (lz.trans (pif_pos hg7_22_12)) (fun w => (eq_Cap_g _ _ _ _ _ w)) (fun w => (eq_Cap _ _ _ _ _ _ _ _ _ _ _ _ _ _ w).1)) ?_
  refine rts _ rfl (opD_and (ls rfl (ls rfl (ls rfl lz))) lz) ?_
  refine rts _ rfl (opD_move lz) ?_
  refine rtg _ rfl lz (fun hg7_25_13 => opD_move (ls rfl (ls rfl (ls rfl (ls rfl (ls rfl (ls rfl (ls rfl (ls rfl (ls rfl (ls rfl (ls rfl (ls rfl (ls rfl (ls rfl (ls rfl (ls rfl (ls rfl (ls rfl (ls rfl (ls rfl (ls rfl (ls rfl (ls rfl (ls rfl (ls rfl (os rfl (os rfl (os rfl (os rfl (os rfl oz))))))))))))))))))))))))))))))) ?_
  replace h0 := bnd_some h0
  obtain ⟨x_6, hx_6, h0⟩ := h0
  refine rtg _ rfl (ls rfl lz) (fun hg7_26_14 => opD_call ht16_C5 (c_num28 (gif_some hx_6 hg7_26_14) hst) ⟨le_of_eq (lz.trans (pif_pos hg7_26_14)), trivial⟩) ?_
  refine rtg _ rfl (ls rfl (ls rfl lz)) (fun hg7_27_15 => opD_eql (lz.trans (pif_pos hg7_27_15)) (ev_const _ _)) ?_
  refine rts _ rfl (opD_and (ls rfl (ls rfl (ls rfl lz))) lz) ?_
  refine rts _ rfl (opD_move lz) ?_
  refine rtg _ rfl lz (fun hg7_30_16 => opD_move (ls rfl (ls rfl (ls rfl (ls rfl (ls rfl (ls rfl (ls rfl (ls rfl (ls rfl (ls rfl (ls rfl (ls rfl (ls rfl (ls rfl (ls rfl (ls rfl (ls rfl (ls rfl (ls rfl (ls rfl (ls rfl (ls rfl (ls rfl (ls rfl (ls rfl (ls rfl (ls rfl (ls rfl (ls rfl (ls rfl (os rfl (os rfl (os rfl (os rfl (os rfl (os rfl oz))))))))))))))))))))))))))))))))))))) ?_
  refine rtg _ rfl (ls rfl lz) (fun hg7_31_17 => opD_seql (lz.trans (pif_pos hg7_31_17)) (ev_const _ _)) ?_
  refine rts _ rfl (opD_and (ls rfl (ls rfl lz)) lz) ?_
  refine rts _ rfl (opD_move lz) ?_
  refine rtg _ rfl lz (fun hg7_34_18 => opD_fieldAddr fo36_1_C5 (ls rfl (ls rfl (ls rfl (ls rfl (ls rfl (ls rfl (ls rfl (ls rfl (ls rfl (ls rfl (ls rfl (ls rfl (ls rfl (ls rfl (ls rfl (ls rfl (ls rfl (ls rfl (ls rfl (ls rfl (ls rfl (ls rfl (ls rfl (ls rfl (ls rfl (ls rfl (ls rfl (ls rfl (ls rfl (ls rfl (ls rfl (ls rfl (ls rfl (ls rfl (os rfl (os rfl (os rfl (os rfl (os rfl (os rfl (os rfl (os rfl oz))))))))))))))))))))))))))))))))))))))))))) ?_
  refine rtg _ rfl (ls rfl lz) (fun hg7_35_19 => opD_load_one ag22_C5 (lz.trans (pif_pos hg7_35_19)) (loc_getN rfl rfl) rfl) ?_
  refine rtg _ rfl (ls rfl (ls rfl lz)) (fun hg7_36_20 => opD_eql (lz.trans (pif_pos hg7_36_20)) (ev_const _ _)) ?_
  refine rts _ rfl (opD_and (ls rfl (ls rfl (ls rfl lz))) lz) ?_
  refine rts _ rfl (opD_assign lz) ?_
  refine .nil ?_
  refine aw_keep [(0, _)] ⟨lg lz, trivial⟩ ?_
  refine aw_ret ?_
  obtain rfl := some_of h0
  exact done_ext (.inr rfl) ((res_one rfl (it_tmp oz)).le zLr) zPb

def F_l28CapsForms (fl : Nat) (p0 : Int) (p1 : Cap) (p2 : (List ByteArray)) : Option (Bool) :=
  grd (Below 0 2) <| ixb ([(p2.getD 0 ((⟨#[]⟩ : ByteArray) : ByteArray)), (p2.getD 1 ((⟨#[]⟩ : ByteArray) : ByteArray))] : List ByteArray) (((0 : Int).toNat : Nat) : Int) fun x_1 => grd (Below 1 2) <| ixb ([(p2.getD 0 ((⟨#[]⟩ : ByteArray) : ByteArray)), (p2.getD 1 ((⟨#[]⟩ : ByteArray) : ByteArray))] : List ByteArray) (((1 : Int).toNat : Nat) : Int) fun x_2 => ifb (((decide (200 < ((bytesOf x_1).length : Int))) || (decide (60 < (x_2.size : Int)))) || (decide (100 < (p1.Scope.Prefix.size : Int)))) (bnd (F_l28sure) fun x_3 => some x_3) (bnd (F_l28giveCap p1) fun x_4 => bnd (F_cenc p0 x_4) fun x_5 => bnd (F_rEnc p0 p1) fun x_6 => bnd (F_cdec p0 (bytesOf x_1)) fun x_7 => bnd (F_rDec p0 (bytesOf x_1)) fun x_8 => bnd (F_cname p1.From) fun x_9 => bnd (F_rName fl p1.From) fun x_10 => bnd (F_cparse x_2) fun x_11 => bnd (F_rParse fl x_2) fun x_12 => bnd (gif ((decide ((strOf x_5.1) = (strOf x_6.1))) == true) (oNum28 x_5.2)) fun x_13 => bnd (gif (((decide ((strOf x_5.1) = (strOf x_6.1))) && (decide (x_13 = x_6.2))) == true) (F_l28giveCap x_8.1)) fun x_14 => bnd (gif ((((decide ((strOf x_5.1) = (strOf x_6.1))) && (decide (x_13 = x_6.2))) && (decide (x_7.1.Gen = x_14.Gen) && (decide (x_7.1.Live = x_14.Live) && (decide (x_7.1.Holder = x_14.Holder) && (decide (x_7.1.From.Slot = x_14.From.Slot) && (decide (x_7.1.From.Gen = x_14.From.Gen) && (decide (x_7.1.Scope.Prefix = x_14.Scope.Prefix) && (decide (x_7.1.Scope.Rights = x_14.Scope.Rights) && true)))))))) == true) (oNum28 x_7.2)) fun x_15 => bnd (gif ((((((decide ((strOf x_5.1) = (strOf x_6.1))) && (decide (x_13 = x_6.2))) && (decide (x_7.1.Gen = x_14.Gen) && (decide (x_7.1.Live = x_14.Live) && (decide (x_7.1.Holder = x_14.Holder) && (decide (x_7.1.From.Slot = x_14.From.Slot) && (decide (x_7.1.From.Gen = x_14.From.Gen) && (decide (x_7.1.Scope.Prefix = x_14.Scope.Prefix) && (decide (x_7.1.Scope.Rights = x_14.Scope.Rights) && true)))))))) && (decide (x_15 = x_8.2))) && (decide (x_9.1 = x_10.1))) == true) (oNum28 x_9.2)) fun x_16 => bnd (gif ((((((((decide ((strOf x_5.1) = (strOf x_6.1))) && (decide (x_13 = x_6.2))) && (decide (x_7.1.Gen = x_14.Gen) && (decide (x_7.1.Live = x_14.Live) && (decide (x_7.1.Holder = x_14.Holder) && (decide (x_7.1.From.Slot = x_14.From.Slot) && (decide (x_7.1.From.Gen = x_14.From.Gen) && (decide (x_7.1.Scope.Prefix = x_14.Scope.Prefix) && (decide (x_7.1.Scope.Rights = x_14.Scope.Rights) && true)))))))) && (decide (x_15 = x_8.2))) && (decide (x_9.1 = x_10.1))) && (decide (x_16 = x_10.2))) && (decide (x_11.1.Slot = x_12.1.Slot) && (decide (x_11.1.Gen = x_12.1.Gen) && true))) == true) (oNum28 x_11.2)) fun x_17 => bnd (gif (((((((((decide ((strOf x_5.1) = (strOf x_6.1))) && (decide (x_13 = x_6.2))) && (decide (x_7.1.Gen = x_14.Gen) && (decide (x_7.1.Live = x_14.Live) && (decide (x_7.1.Holder = x_14.Holder) && (decide (x_7.1.From.Slot = x_14.From.Slot) && (decide (x_7.1.From.Gen = x_14.From.Gen) && (decide (x_7.1.Scope.Prefix = x_14.Scope.Prefix) && (decide (x_7.1.Scope.Rights = x_14.Scope.Rights) && true)))))))) && (decide (x_15 = x_8.2))) && (decide (x_9.1 = x_10.1))) && (decide (x_16 = x_10.2))) && (decide (x_11.1.Slot = x_12.1.Slot) && (decide (x_11.1.Gen = x_12.1.Gen) && true))) && (decide (x_17 = x_12.2))) == true) (F_l28giveCap p1)) fun x_18 => bnd (gif (((((((((decide ((strOf x_5.1) = (strOf x_6.1))) && (decide (x_13 = x_6.2))) && (decide (x_7.1.Gen = x_14.Gen) && (decide (x_7.1.Live = x_14.Live) && (decide (x_7.1.Holder = x_14.Holder) && (decide (x_7.1.From.Slot = x_14.From.Slot) && (decide (x_7.1.From.Gen = x_14.From.Gen) && (decide (x_7.1.Scope.Prefix = x_14.Scope.Prefix) && (decide (x_7.1.Scope.Rights = x_14.Scope.Rights) && true)))))))) && (decide (x_15 = x_8.2))) && (decide (x_9.1 = x_10.1))) && (decide (x_16 = x_10.2))) && (decide (x_11.1.Slot = x_12.1.Slot) && (decide (x_11.1.Gen = x_12.1.Gen) && true))) && (decide (x_17 = x_12.2))) == true) (F_cchk p0 x_18)) fun x_19 => bnd (gif (((((((((decide ((strOf x_5.1) = (strOf x_6.1))) && (decide (x_13 = x_6.2))) && (decide (x_7.1.Gen = x_14.Gen) && (decide (x_7.1.Live = x_14.Live) && (decide (x_7.1.Holder = x_14.Holder) && (decide (x_7.1.From.Slot = x_14.From.Slot) && (decide (x_7.1.From.Gen = x_14.From.Gen) && (decide (x_7.1.Scope.Prefix = x_14.Scope.Prefix) && (decide (x_7.1.Scope.Rights = x_14.Scope.Rights) && true)))))))) && (decide (x_15 = x_8.2))) && (decide (x_9.1 = x_10.1))) && (decide (x_16 = x_10.2))) && (decide (x_11.1.Slot = x_12.1.Slot) && (decide (x_11.1.Gen = x_12.1.Gen) && true))) && (decide (x_17 = x_12.2))) == true) (F_rMay p0 p1)) fun x_20 => bnd (gif ((((((((((decide ((strOf x_5.1) = (strOf x_6.1))) && (decide (x_13 = x_6.2))) && (decide (x_7.1.Gen = x_14.Gen) && (decide (x_7.1.Live = x_14.Live) && (decide (x_7.1.Holder = x_14.Holder) && (decide (x_7.1.From.Slot = x_14.From.Slot) && (decide (x_7.1.From.Gen = x_14.From.Gen) && (decide (x_7.1.Scope.Prefix = x_14.Scope.Prefix) && (decide (x_7.1.Scope.Rights = x_14.Scope.Rights) && true)))))))) && (decide (x_15 = x_8.2))) && (decide (x_9.1 = x_10.1))) && (decide (x_16 = x_10.2))) && (decide (x_11.1.Slot = x_12.1.Slot) && (decide (x_11.1.Gen = x_12.1.Gen) && true))) && (decide (x_17 = x_12.2))) && (x_19.isNone == x_20)) == true) (F_l28sure)) fun x_21 => some ((((((((((decide ((strOf x_5.1) = (strOf x_6.1))) && (decide (x_13 = x_6.2))) && (decide (x_7.1.Gen = x_14.Gen) && (decide (x_7.1.Live = x_14.Live) && (decide (x_7.1.Holder = x_14.Holder) && (decide (x_7.1.From.Slot = x_14.From.Slot) && (decide (x_7.1.From.Gen = x_14.From.Gen) && (decide (x_7.1.Scope.Prefix = x_14.Scope.Prefix) && (decide (x_7.1.Scope.Rights = x_14.Scope.Rights) && true)))))))) && (decide (x_15 = x_8.2))) && (decide (x_9.1 = x_10.1))) && (decide (x_16 = x_10.2))) && (decide (x_11.1.Slot = x_12.1.Slot) && (decide (x_11.1.Gen = x_12.1.Gen) && true))) && (decide (x_17 = x_12.2))) && (x_19.isNone == x_20)) && x_21))
set_option maxRecDepth 100000 in
set_option maxHeartbeats 2000000 in
theorem c_l28CapsForms {fl : Nat} {p0 : Int} {p1 : Cap} {p2 : (List ByteArray)} {R : Bool} {s : St} (h0 : F_l28CapsForms fl p0 p1 p2 = some R) (hst : StC s) : AC Go.Proofs.Tryz.prog 3 [pl (.int .i64 p0), agg [pl (.int .u64 p1.Gen), pl (.bool p1.Live), pl (.int .u64 p1.Holder), pl (.int .i64 p1.From.Slot), pl (.int .u64 p1.From.Gen), pl (.string p1.Scope.Prefix), pl (.int .u8 p1.Scope.Rights)], agg [pl (.string (p2.getD 0 ((⟨#[]⟩ : ByteArray) : ByteArray))), pl (.string (p2.getD 1 ((⟨#[]⟩ : ByteArray) : ByteArray)))]] s (pl (.bool R)) s := by
  unfold F_l28CapsForms at h0
  refine ac_of_aw s.boxes.length s.fr.length Go.Proofs.Tryz.func3 rfl (by simp [Go.Proofs.Tryz.ntmps3]) ?_
  refine aw_ext0 ?_
  refine aw_keep [(0, _), (1, _), (2, _)] ⟨lg ez, lg (es ez), lg (es (es ez)), trivial⟩ ?_
  refine aw_seq ?_
  refine aw_region (by decide) ?_
  refine rts _ rfl (boxAN (n := 0) rfl (os rfl oz) (zbc zPb (zbc zPb (zbc zPb (zbc zPb (zbc zPb (zbc zPb (zbc zPb bnd_nil))))))) (by first | exact List.length_nil | (simp only [List.length_cons, List.length_nil, Nat.zero_add, Nat.reduceAdd] <;> rfl)) (by simp only [znz] <;> rfl)) ?_
  refine rts _ rfl (boxFN (k := kS) (l := ([(p2.getD 0 ((⟨#[]⟩ : ByteArray) : ByteArray)), (p2.getD 1 ((⟨#[]⟩ : ByteArray) : ByteArray))] : List ByteArray)) rfl (ls rfl (os rfl (os rfl oz))) rfl kb_S (by first | exact List.length_nil | (simp only [List.length_cons, List.length_nil, Nat.zero_add, Nat.reduceAdd] <;> rfl)) (by simp only [znz] <;> rfl)) ?_
  refine rts _ rfl (opD_assign (ev_const _ _)) ?_
  refine .nil ?_
  refine aw_keep [(0, _), (4, _), (5, _)] ⟨lg (ls rfl (ls rfl (ls rfl oz))), lg (ls rfl (ls rfl lz)), lg (ls rfl lz), trivial⟩ ?_
  refine aw_seq ?_
  refine aw_flat mixed_C5 (by decide +kernel) ?_
  replace h0 := grd_some h0
  obtain ⟨hg_3, h0⟩ := h0
  refine zts _ rfl (opD_indexAddr_arr (i := (0 : Int).toNat) Go.Proofs.Tryz.underlying29 sz9_C5 (os rfl (os rfl oz)) (ev_const _ _) hg_3.eq hg_3.2) ?_
  replace h0 := ixb_some h0
  obtain ⟨x_1, hx_1, hbx_1, h0⟩ := h0
  refine zts _ rfl (opD_load_one ag9_C5 lz (loc_getN rfl rfl) (flat_at0 rfl (nat_ix hx_1) rfl)) ?_
  refine zts _ rfl (opD_str_bytes Go.Proofs.Tryz.underlying9 Go.Proofs.Tryz.underlying30 Go.Proofs.Tryz.underlying5 lz) ?_
  replace h0 := grd_some h0
  obtain ⟨hg_4, h0⟩ := h0
  refine zts _ rfl (opD_indexAddr_arr (i := (1 : Int).toNat) Go.Proofs.Tryz.underlying29 sz9_C5 (ls rfl (ls rfl (ls rfl (os rfl (os rfl oz))))) (ev_const _ _) hg_4.eq hg_4.2) ?_
  replace h0 := ixb_some h0
  obtain ⟨x_2, hx_2, hbx_2, h0⟩ := h0
  refine zts _ rfl (opD_load_one ag9_C5 lz (loc_getN rfl rfl) (flat_at0 rfl (nat_ix hx_2) rfl)) ?_
  refine zts _ rfl (opD_assign (ls rfl (ls rfl lz))) ?_
  refine zts _ rfl (opD_assign (ls rfl lz)) ?_
  refine .nil ?_
  refine aw_keep [(0, _), (4, _), (7, _), (8, _)] ⟨lg (ls rfl (ls rfl (ls rfl (ls rfl (ls rfl (ls rfl (ls rfl oz))))))), lg (ls rfl (ls rfl (ls rfl (ls rfl (ls rfl (ls rfl (ls rfl (os rfl oz)))))))), lg (ls rfl lz), lg lz, trivial⟩ ?_
  refine aw_seq ?_
  refine aw_seq ?_
  refine aw_region (by decide) ?_
  refine rts _ rfl (opD_move (os rfl (os rfl oz))) ?_
  refine rts _ rfl (opD_len_sl Go.Proofs.Tryz.underlying30 lz) ?_
  refine rts _ rfl (opD_gtr lz (ev_const _ _)) ?_
  refine rts _ rfl (opD_move lz) ?_
  refine rtg _ rfl lz (fun hg2_4_5 => opD_move (ls rfl (ls rfl (ls rfl (ls rfl (os rfl (os rfl (os rfl oz)))))))) ?_
  refine rtg _ rfl (ls rfl lz) (fun hg2_5_6 => opD_len_str Go.Proofs.Tryz.underlying9 (lz.trans (pif_pos hg2_5_6))) ?_
  refine rtg _ rfl (ls rfl (ls rfl lz)) (fun hg2_6_7 => opD_gtr (lz.trans (pif_pos hg2_6_7)) (ev_const _ _)) ?_
  refine rts _ rfl (opD_or (ls rfl (ls rfl (ls rfl lz))) lz) ?_
  refine rts _ rfl (opD_move lz) ?_
  refine rtg _ rfl lz (fun hg2_9_8 => opD_fieldAddr fo28_4_C5 (ls rfl (ls rfl (ls rfl (ls rfl (ls rfl (ls rfl (ls rfl (ls rfl (ls rfl (os rfl oz))))))))))) ?_
  refine rtg _ rfl (ls rfl lz) (fun hg2_10_9 => opD_fieldAddr fo26_0_C5 (lz.trans (pif_pos hg2_10_9))) ?_
  refine rtg _ rfl (ls rfl (ls rfl lz)) (fun hg2_11_10 => opD_load_one ag9_C5 (lz.trans (pif_pos hg2_11_10)) (loc_getN rfl rfl) rfl) ?_
  refine rtg _ rfl (ls rfl (ls rfl (ls rfl lz))) (fun hg2_12_11 => opD_len_str Go.Proofs.Tryz.underlying9 (lz.trans (pif_pos hg2_12_11))) ?_
  refine rtg _ rfl (ls rfl (ls rfl (ls rfl (ls rfl lz)))) (fun hg2_13_12 => opD_gtr (lz.trans (pif_pos hg2_13_12)) (ev_const _ _)) ?_
  refine rts _ rfl (opD_or (ls rfl (ls rfl (ls rfl (ls rfl (ls rfl lz))))) lz) ?_
  refine .nil ?_
  refine aw_keep [(0, _), (4, _), (7, _), (8, _), (44, _)] ⟨lg (ls rfl (ls rfl (ls rfl (ls rfl (ls rfl (ls rfl (ls rfl (ls rfl (ls rfl (ls rfl (ls rfl (ls rfl (ls rfl (ls rfl (ls rfl oz))))))))))))))), lg (ls rfl (ls rfl (ls rfl (ls rfl (ls rfl (ls rfl (ls rfl (ls rfl (ls rfl (ls rfl (ls rfl (ls rfl (ls rfl (ls rfl (ls rfl (os rfl oz)))))))))))))))), lg (ls rfl (ls rfl (ls rfl (ls rfl (ls rfl (ls rfl (ls rfl (ls rfl (ls rfl (ls rfl (ls rfl (ls rfl (ls rfl (ls rfl (ls rfl (os rfl (os rfl oz))))))))))))))))), lg (ls rfl (ls rfl (ls rfl (ls rfl (ls rfl (ls rfl (ls rfl (ls rfl (ls rfl (ls rfl (ls rfl (ls rfl (ls rfl (ls rfl (ls rfl (os rfl (os rfl (os rfl oz)))))))))))))))))), lg lz, trivial⟩ ?_
  refine aw_cond _ (os rfl (os rfl (os rfl (os rfl oz)))) (fun hc => ?_) (fun hc => ?_)
  · skip
    replace h0 := ifb_t h0 hc
    clear hc
    refine aw_seq ?_
    refine aw_region (by decide) ?_
    replace h0 := bnd_some h0
    obtain ⟨x_3, hx_3, h0⟩ := h0
    refine rts _ rfl (opD_call ht6_C5 (c_l28sure hx_3 hst) trivial) ?_
    refine rts _ rfl (opD_assign lz) ?_
    refine .nil ?_
    refine aw_keep [(6, _)] ⟨lg lz, trivial⟩ ?_
    refine aw_ret ?_
    obtain rfl := some_of h0
    exact done_ext (.inr rfl) ((res_one rfl (it_tmp oz)).le zLr) zPb
  · skip
    replace h0 := ifb_f h0 hc
    clear hc
    refine aw_skip ?_
    refine aw_keep [(0, _), (4, _), (7, _), (8, _)] ⟨lg oz, lg (os rfl oz), lg (os rfl (os rfl oz)), lg (os rfl (os rfl (os rfl oz))), trivial⟩ ?_
    refine aw_seq ?_
    refine aw_region (by decide) ?_
    refine rts _ rfl (opD_move oz) ?_
    refine rts _ rfl (opD_load_aggX (qs := [_, _, _, _, _, _, _]) ag28_C5 sz28_C5 (ls rfl (os rfl oz)) (loc_getN rfl rfl) (zNb rfl) rfl) ?_
    replace h0 := bnd_some h0
    obtain ⟨x_4, hx_4, h0⟩ := h0
    refine rts _ rfl (opD_pure ht8_C5 (c_l28giveCap hx_4) ⟨(le_of_eq lz).trans (agg_le ⟨zLr, zLr, zLr, zLr, zLr, zLr, zLr, trivial⟩), trivial⟩) ?_
    replace h0 := bnd_some h0
    obtain ⟨x_5, hx_5, h0⟩ := h0
    refine rts _ rfl (opD_pure ht7_C5 (c_cenc hx_5) ⟨le_of_eq (ls rfl (ls rfl lz)), (le_of_eq lz).trans (agg_le ⟨zLr, zLr, zLr, zLr, zLr, zLr, zLr, trivial⟩), trivial⟩) ?_
    refine rts _ rfl (opD_move lz) ?_
    refine rts _ rfl (opD_extract lz rfl) ?_
    refine rts _ rfl (opD_extract (ls rfl lz) rfl) ?_
    refine rts _ rfl (opD_assign (ls rfl lz)) ?_
    refine rts _ rfl (opD_assign (ls rfl lz)) ?_
    refine .nil ?_
    refine aw_keep [(0, _), (4, _), (7, _), (8, _), (9, _), (10, _)] ⟨lg (ls rfl (ls rfl (ls rfl (ls rfl (ls rfl (ls rfl (ls rfl (ls rfl (ls rfl oz))))))))), lg (ls rfl (ls rfl (ls rfl (ls rfl (ls rfl (ls rfl (ls rfl (ls rfl (ls rfl (os rfl oz)))))))))), lg (ls rfl (ls rfl (ls rfl (ls rfl (ls rfl (ls rfl (ls rfl (ls rfl (ls rfl (os rfl (os rfl oz))))))))))), lg (ls rfl (ls rfl (ls rfl (ls rfl (ls rfl (ls rfl (ls rfl (ls rfl (ls rfl (os rfl (os rfl (os rfl oz)))))))))))), lg (ls rfl lz), lg lz, trivial⟩ ?_
    refine aw_seq ?_
    refine aw_region (by decide) ?_
    refine rts _ rfl (opD_move oz) ?_
    refine rts _ rfl (opD_load_aggX (qs := [_, _, _, _, _, _, _]) ag28_C5 sz28_C5 (ls rfl (os rfl oz)) (loc_getN rfl rfl) (zNb rfl) rfl) ?_
    replace h0 := bnd_some h0
    obtain ⟨x_6, hx_6, h0⟩ := h0
    refine rts _ rfl (opD_pure ht9_C5 (c_rEnc hx_6) ⟨le_of_eq (ls rfl lz), (le_of_eq lz).trans (agg_le ⟨zLr, zLr, zLr, zLr, zLr, zLr, zLr, trivial⟩), trivial⟩) ?_
    refine rts _ rfl (opD_move lz) ?_
    refine rts _ rfl (opD_extract lz rfl) ?_
    refine rts _ rfl (opD_extract (ls rfl lz) rfl) ?_
    refine rts _ rfl (opD_assign (ls rfl lz)) ?_
    refine rts _ rfl (opD_assign (ls rfl lz)) ?_
    refine .nil ?_
    refine aw_keep [(0, _), (4, _), (7, _), (8, _), (9, _), (10, _), (11, _), (12, _)] ⟨lg (ls rfl (ls rfl (ls rfl (ls rfl (ls rfl (ls rfl (ls rfl (ls rfl oz)))))))), lg (ls rfl (ls rfl (ls rfl (ls rfl (ls rfl (ls rfl (ls rfl (ls rfl (os rfl oz))))))))), lg (ls rfl (ls rfl (ls rfl (ls rfl (ls rfl (ls rfl (ls rfl (ls rfl (os rfl (os rfl oz)))))))))), lg (ls rfl (ls rfl (ls rfl (ls rfl (ls rfl (ls rfl (ls rfl (ls rfl (os rfl (os rfl (os rfl oz))))))))))), lg (ls rfl (ls rfl (ls rfl (ls rfl (ls rfl (ls rfl (ls rfl (ls rfl (os rfl (os rfl (os rfl (os rfl oz)))))))))))), lg (ls rfl (ls rfl (ls rfl (ls rfl (ls rfl (ls rfl (ls rfl (ls rfl (os rfl (os rfl (os rfl (os rfl (os rfl oz))))))))))))), lg (ls rfl lz), lg lz, trivial⟩ ?_
    refine aw_seq ?_
    refine aw_region (by decide) ?_
    refine rts _ rfl (opD_move oz) ?_
    refine rts _ rfl (opD_move (ls rfl (os rfl (os rfl oz)))) ?_
    replace h0 := bnd_some h0
    obtain ⟨x_7, hx_7, h0⟩ := h0
    refine rts _ rfl (opD_pure ht10_C5 (c_cdec hx_7) ⟨le_of_eq (ls rfl lz), (le_of_eq lz).trans (sl_any _ _ _ _), trivial⟩) ?_
    refine rts _ rfl (opD_move lz) ?_
    refine rts _ rfl (opD_extract lz rfl) ?_
    refine rts _ rfl (opD_extract (ls rfl lz) rfl) ?_
    refine rts _ rfl (allocN rfl zt39_C5 (by first | exact List.length_nil | (simp only [List.length_cons, List.length_nil, Nat.zero_add, Nat.reduceAdd] <;> rfl)) (by simp only [znz] <;> rfl)) ?_
    refine rts _ rfl (storeAN rfl sz39_C5 lz (ls rfl (ls rfl lz)) (ones_cons (one_pl rfl) (ones_cons (one_pl rfl) (ones_cons (one_pl rfl) (ones_cons (one_pl rfl) (ones_cons (one_pl rfl) (ones_cons (one_pl rfl) (ones_cons (one_pl rfl) ones_nil))))))) rfl rfl (zNb rfl) (List.cons_ne_nil _ _) (zbc zPb (zbc zPb (zbc zPb (zbc zPb (zbc zPb (zbc zPb (zbc zPb bnd_nil))))))) (by simp only [znz] <;> rfl) (by simp only [znz] <;> rfl)) ?_
    refine rts _ rfl (opD_assign (lx (ls rfl lz))) ?_
    refine .nil ?_
    refine aw_keep [(0, _), (4, _), (7, _), (8, _), (9, _), (10, _), (11, _), (12, _), (13, _), (14, _)] ⟨lg (ls rfl (lx (ls rfl (ls rfl (ls rfl (ls rfl (ls rfl (ls rfl (ls rfl oz))))))))), lg (ls rfl (lx (ls rfl (ls rfl (ls rfl (ls rfl (ls rfl (ls rfl (ls rfl (os rfl oz)))))))))), lg (ls rfl (lx (ls rfl (ls rfl (ls rfl (ls rfl (ls rfl (ls rfl (ls rfl (os rfl (os rfl oz))))))))))), lg (ls rfl (lx (ls rfl (ls rfl (ls rfl (ls rfl (ls rfl (ls rfl (ls rfl (os rfl (os rfl (os rfl oz)))))))))))), lg (ls rfl (lx (ls rfl (ls rfl (ls rfl (ls rfl (ls rfl (ls rfl (ls rfl (os rfl (os rfl (os rfl (os rfl oz))))))))))))), lg (ls rfl (lx (ls rfl (ls rfl (ls rfl (ls rfl (ls rfl (ls rfl (ls rfl (os rfl (os rfl (os rfl (os rfl (os rfl oz)))))))))))))), lg (ls rfl (lx (ls rfl (ls rfl (ls rfl (ls rfl (ls rfl (ls rfl (ls rfl (os rfl (os rfl (os rfl (os rfl (os rfl (os rfl oz))))))))))))))), lg (ls rfl (lx (ls rfl (ls rfl (ls rfl (ls rfl (ls rfl (ls rfl (ls rfl (os rfl (os rfl (os rfl (os rfl (os rfl (os rfl (os rfl oz)))))))))))))))), lg (ls rfl (lx lz)), lg lz, trivial⟩ ?_
    refine aw_seq ?_
    refine aw_region (by decide) ?_
    refine rts _ rfl (opD_move oz) ?_
    refine rts _ rfl (opD_move (ls rfl (os rfl (os rfl oz)))) ?_
    replace h0 := bnd_some h0
    obtain ⟨x_8, hx_8, h0⟩ := h0
    refine rts _ rfl (opD_pure ht11_C5 (c_rDec hx_8) ⟨le_of_eq (ls rfl lz), (le_of_eq lz).trans (sl_any _ _ _ _), trivial⟩) ?_
    refine rts _ rfl (opD_move lz) ?_
    refine rts _ rfl (opD_extract lz rfl) ?_
    refine rts _ rfl (opD_extract (ls rfl lz) rfl) ?_
    refine rts _ rfl (allocN rfl zt28_C5 (by first | exact List.length_nil | (simp only [List.length_cons, List.length_nil, Nat.zero_add, Nat.reduceAdd] <;> rfl)) (by simp only [znz] <;> rfl)) ?_
    refine rts _ rfl (storeAN rfl sz28_C5 lz (ls rfl (ls rfl lz)) (ones_cons (one_pl rfl) (ones_cons (one_pl rfl) (ones_cons (one_pl rfl) (ones_cons (one_pl rfl) (ones_cons (one_pl rfl) (ones_cons (one_pl rfl) (ones_cons (one_pl rfl) ones_nil))))))) rfl rfl (zNb rfl) (List.cons_ne_nil _ _) (zbc zPb (zbc zPb (zbc zPb (zbc zPb (zbc zPb (zbc zPb (zbc zPb bnd_nil))))))) (by simp only [znz] <;> rfl) (by simp only [znz] <;> rfl)) ?_
    refine rts _ rfl (opD_assign (lx (ls rfl lz))) ?_
    refine .nil ?_
    refine aw_keep [(0, _), (4, _), (8, _), (9, _), (10, _), (11, _), (12, _), (13, _), (14, _), (15, _), (16, _)] ⟨lg (ls rfl (lx (ls rfl (ls rfl (ls rfl (ls rfl (ls rfl (ls rfl (ls rfl oz))))))))), lg (ls rfl (lx (ls rfl (ls rfl (ls rfl (ls rfl (ls rfl (ls rfl (ls rfl (os rfl oz)))))))))), lg (ls rfl (lx (ls rfl (ls rfl (ls rfl (ls rfl (ls rfl (ls rfl (ls rfl (os rfl (os rfl (os rfl oz)))))))))))), lg (ls rfl (lx (ls rfl (ls rfl (ls rfl (ls rfl (ls rfl (ls rfl (ls rfl (os rfl (os rfl (os rfl (os rfl oz))))))))))))), lg (ls rfl (lx (ls rfl (ls rfl (ls rfl (ls rfl (ls rfl (ls rfl (ls rfl (os rfl (os rfl (os rfl (os rfl (os rfl oz)))))))))))))), lg (ls rfl (lx (ls rfl (ls rfl (ls rfl (ls rfl (ls rfl (ls rfl (ls rfl (os rfl (os rfl (os rfl (os rfl (os rfl (os rfl oz))))))))))))))), lg (ls rfl (lx (ls rfl (ls rfl (ls rfl (ls rfl (ls rfl (ls rfl (ls rfl (os rfl (os rfl (os rfl (os rfl (os rfl (os rfl (os rfl oz)))))))))))))))), lg (ls rfl (lx (ls rfl (ls rfl (ls rfl (ls rfl (ls rfl (ls rfl (ls rfl (os rfl (os rfl (os rfl (os rfl (os rfl (os rfl (os rfl (os rfl oz))))))))))))))))), lg (ls rfl (lx (ls rfl (ls rfl (ls rfl (ls rfl (ls rfl (ls rfl (ls rfl (os rfl (os rfl (os rfl (os rfl (os rfl (os rfl (os rfl (os rfl (os rfl oz)))))))))))))))))), lg (ls rfl (lx lz)), lg lz, trivial⟩ ?_
    refine aw_seq ?_
    refine aw_region (by decide) ?_
    refine rts _ rfl (opD_fieldAddr fo28_3_C5 (os rfl oz)) ?_
    refine rts _ rfl (opD_load_aggX (qs := [_, _]) ag24_C5 sz24_C5 lz (loc_getN rfl rfl) (zNb rfl) rfl) ?_
    replace h0 := bnd_some h0
    obtain ⟨x_9, hx_9, h0⟩ := h0
    refine rts _ rfl (opD_call ht12_C5 (c_cname hx_9 hst) ⟨(le_of_eq lz).trans (agg_le ⟨zLr, zLr, trivial⟩), trivial⟩) ?_
    refine rts _ rfl (opD_move lz) ?_
    refine rts _ rfl (opD_extract lz rfl) ?_
    refine rts _ rfl (opD_extract (ls rfl lz) rfl) ?_
    refine rts _ rfl (opD_assign (ls rfl lz)) ?_
    refine rts _ rfl (opD_assign (ls rfl lz)) ?_
    refine .nil ?_
    refine aw_keep [(0, _), (4, _), (8, _), (9, _), (10, _), (11, _), (12, _), (13, _), (14, _), (15, _), (16, _), (17, _), (18, _)] ⟨lg (ls rfl (ls rfl (ls rfl (ls rfl (ls rfl (ls rfl (ls rfl (ls rfl oz)))))))), lg (ls rfl (ls rfl (ls rfl (ls rfl (ls rfl (ls rfl (ls rfl (ls rfl (os rfl oz))))))))), lg (ls rfl (ls rfl (ls rfl (ls rfl (ls rfl (ls rfl (ls rfl (ls rfl (os rfl (os rfl oz)))))))))), lg (ls rfl (ls rfl (ls rfl (ls rfl (ls rfl (ls rfl (ls rfl (ls rfl (os rfl (os rfl (os rfl oz))))))))))), lg (ls rfl (ls rfl (ls rfl (ls rfl (ls rfl (ls rfl (ls rfl (ls rfl (os rfl (os rfl (os rfl (os rfl oz)))))))))))), lg (ls rfl (ls rfl (ls rfl (ls rfl (ls rfl (ls rfl (ls rfl (ls rfl (os rfl (os rfl (os rfl (os rfl (os rfl oz))))))))))))), lg (ls rfl (ls rfl (ls rfl (ls rfl (ls rfl (ls rfl (ls rfl (ls rfl (os rfl (os rfl (os rfl (os rfl (os rfl (os rfl oz)))))))))))))), lg (ls rfl (ls rfl (ls rfl (ls rfl (ls rfl (ls rfl (ls rfl (ls rfl (os rfl (os rfl (os rfl (os rfl (os rfl (os rfl (os rfl oz))))))))))))))), lg (ls rfl (ls rfl (ls rfl (ls rfl (ls rfl (ls rfl (ls rfl (ls rfl (os rfl (os rfl (os rfl (os rfl (os rfl (os rfl (os rfl (os rfl oz)))))))))))))))), lg (ls rfl (ls rfl (ls rfl (ls rfl (ls rfl (ls rfl (ls rfl (ls rfl (os rfl (os rfl (os rfl (os rfl (os rfl (os rfl (os rfl (os rfl (os rfl oz))))))))))))))))), lg (ls rfl (ls rfl (ls rfl (ls rfl (ls rfl (ls rfl (ls rfl (ls rfl (os rfl (os rfl (os rfl (os rfl (os rfl (os rfl (os rfl (os rfl (os rfl (os rfl oz)))))))))))))))))), lg (ls rfl lz), lg lz, trivial⟩ ?_
    refine aw_seq ?_
    refine aw_region (by decide) ?_
    refine rts _ rfl (opD_fieldAddr fo28_3_C5 (os rfl oz)) ?_
    refine rts _ rfl (opD_load_aggX (qs := [_, _]) ag24_C5 sz24_C5 lz (loc_getN rfl rfl) (zNb rfl) rfl) ?_
    replace h0 := bnd_some h0
    obtain ⟨x_10, hx_10, h0⟩ := h0
    refine rts _ rfl (opD_pure ht13_C5 (c_rName hx_10) ⟨(le_of_eq lz).trans (agg_le ⟨zLr, zLr, trivial⟩), trivial⟩) ?_
    refine rts _ rfl (opD_move lz) ?_
    refine rts _ rfl (opD_extract lz rfl) ?_
    refine rts _ rfl (opD_extract (ls rfl lz) rfl) ?_
    refine rts _ rfl (opD_assign (ls rfl lz)) ?_
    refine rts _ rfl (opD_assign (ls rfl lz)) ?_
    refine .nil ?_
    refine aw_keep [(0, _), (4, _), (8, _), (9, _), (10, _), (11, _), (12, _), (13, _), (14, _), (15, _), (16, _), (17, _), (18, _), (19, _), (20, _)] ⟨lg (ls rfl (ls rfl (ls rfl (ls rfl (ls rfl (ls rfl (ls rfl (ls rfl oz)))))))), lg (ls rfl (ls rfl (ls rfl (ls rfl (ls rfl (ls rfl (ls rfl (ls rfl (os rfl oz))))))))), lg (ls rfl (ls rfl (ls rfl (ls rfl (ls rfl (ls rfl (ls rfl (ls rfl (os rfl (os rfl oz)))))))))), lg (ls rfl (ls rfl (ls rfl (ls rfl (ls rfl (ls rfl (ls rfl (ls rfl (os rfl (os rfl (os rfl oz))))))))))), lg (ls rfl (ls rfl (ls rfl (ls rfl (ls rfl (ls rfl (ls rfl (ls rfl (os rfl (os rfl (os rfl (os rfl oz)))))))))))), lg (ls rfl (ls rfl (ls rfl (ls rfl (ls rfl (ls rfl (ls rfl (ls rfl (os rfl (os rfl (os rfl (os rfl (os rfl oz))))))))))))), lg (ls rfl (ls rfl (ls rfl (ls rfl (ls rfl (ls rfl (ls rfl (ls rfl (os rfl (os rfl (os rfl (os rfl (os rfl (os rfl oz)))))))))))))), lg (ls rfl (ls rfl (ls rfl (ls rfl (ls rfl (ls rfl (ls rfl (ls rfl (os rfl (os rfl (os rfl (os rfl (os rfl (os rfl (os rfl oz))))))))))))))), lg (ls rfl (ls rfl (ls rfl (ls rfl (ls rfl (ls rfl (ls rfl (ls rfl (os rfl (os rfl (os rfl (os rfl (os rfl (os rfl (os rfl (os rfl oz)))))))))))))))), lg (ls rfl (ls rfl (ls rfl (ls rfl (ls rfl (ls rfl (ls rfl (ls rfl (os rfl (os rfl (os rfl (os rfl (os rfl (os rfl (os rfl (os rfl (os rfl oz))))))))))))))))), lg (ls rfl (ls rfl (ls rfl (ls rfl (ls rfl (ls rfl (ls rfl (ls rfl (os rfl (os rfl (os rfl (os rfl (os rfl (os rfl (os rfl (os rfl (os rfl (os rfl oz)))))))))))))))))), lg (ls rfl (ls rfl (ls rfl (ls rfl (ls rfl (ls rfl (ls rfl (ls rfl (os rfl (os rfl (os rfl (os rfl (os rfl (os rfl (os rfl (os rfl (os rfl (os rfl (os rfl oz))))))))))))))))))), lg (ls rfl (ls rfl (ls rfl (ls rfl (ls rfl (ls rfl (ls rfl (ls rfl (os rfl (os rfl (os rfl (os rfl (os rfl (os rfl (os rfl (os rfl (os rfl (os rfl (os rfl (os rfl oz)))))))))))))))))))), lg (ls rfl lz), lg lz, trivial⟩ ?_
    refine aw_seq ?_
    refine aw_region (by decide) ?_
    refine rts _ rfl (opD_move (os rfl (os rfl oz))) ?_
    replace h0 := bnd_some h0
    obtain ⟨x_11, hx_11, h0⟩ := h0
    refine rts _ rfl (opD_call ht14_C5 (c_cparse hx_11 hst) ⟨le_of_eq lz, trivial⟩) ?_
    refine rts _ rfl (opD_move lz) ?_
    refine rts _ rfl (opD_extract lz rfl) ?_
    refine rts _ rfl (opD_extract (ls rfl lz) rfl) ?_
    refine rts _ rfl (allocN rfl zt36_C5 (by first | exact List.length_nil | (simp only [List.length_cons, List.length_nil, Nat.zero_add, Nat.reduceAdd] <;> rfl)) (by simp only [znz] <;> rfl)) ?_
    refine rts _ rfl (storeAN rfl sz36_C5 lz (ls rfl (ls rfl lz)) (ones_cons (one_pl rfl) (ones_cons (one_pl rfl) ones_nil)) rfl rfl (zNb rfl) (List.cons_ne_nil _ _) (zbc zPb (zbc zPb bnd_nil)) (by simp only [znz] <;> rfl) (by simp only [znz] <;> rfl)) ?_
    refine rts _ rfl (opD_assign (lx (ls rfl lz))) ?_
    refine .nil ?_
    refine aw_keep [(0, _), (4, _), (8, _), (9, _), (10, _), (11, _), (12, _), (13, _), (14, _), (15, _), (16, _), (17, _), (18, _), (19, _), (20, _), (21, _), (22, _)] ⟨lg (ls rfl (lx (ls rfl (ls rfl (ls rfl (ls rfl (ls rfl (ls rfl oz)))))))), lg (ls rfl (lx (ls rfl (ls rfl (ls rfl (ls rfl (ls rfl (ls rfl (os rfl oz))))))))), lg (ls rfl (lx (ls rfl (ls rfl (ls rfl (ls rfl (ls rfl (ls rfl (os rfl (os rfl oz)))))))))), lg (ls rfl (lx (ls rfl (ls rfl (ls rfl (ls rfl (ls rfl (ls rfl (os rfl (os rfl (os rfl oz))))))))))), lg (ls rfl (lx (ls rfl (ls rfl (ls rfl (ls rfl (ls rfl (ls rfl (os rfl (os rfl (os rfl (os rfl oz)))))))))))), lg (ls rfl (lx (ls rfl (ls rfl (ls rfl (ls rfl (ls rfl (ls rfl (os rfl (os rfl (os rfl (os rfl (os rfl oz))))))))))))), lg (ls rfl (lx (ls rfl (ls rfl (ls rfl (ls rfl (ls rfl (ls rfl (os rfl (os rfl (os rfl (os rfl (os rfl (os rfl oz)))))))))))))), lg (ls rfl (lx (ls rfl (ls rfl (ls rfl (ls rfl (ls rfl (ls rfl (os rfl (os rfl (os rfl (os rfl (os rfl (os rfl (os rfl oz))))))))))))))), lg (ls rfl (lx (ls rfl (ls rfl (ls rfl (ls rfl (ls rfl (ls rfl (os rfl (os rfl (os rfl (os rfl (os rfl (os rfl (os rfl (os rfl oz)))))))))))))))), lg (ls rfl (lx (ls rfl (ls rfl (ls rfl (ls rfl (ls rfl (ls rfl (os rfl (os rfl (os rfl (os rfl (os rfl (os rfl (os rfl (os rfl (os rfl oz))))))))))))))))), lg (ls rfl (lx (ls rfl (ls rfl (ls rfl (ls rfl (ls rfl (ls rfl (os rfl (os rfl (os rfl (os rfl (os rfl (os rfl (os rfl (os rfl (os rfl (os rfl oz)))))))))))))))))), lg (ls rfl (lx (ls rfl (ls rfl (ls rfl (ls rfl (ls rfl (ls rfl (os rfl (os rfl (os rfl (os rfl (os rfl (os rfl (os rfl (os rfl (os rfl (os rfl (os rfl oz))))))))))))))))))), lg (ls rfl (lx (ls rfl (ls rfl (ls rfl (ls rfl (ls rfl (ls rfl (os rfl (os rfl (os rfl (os rfl (os rfl (os rfl (os rfl (os rfl (os rfl (os rfl (os rfl (os rfl oz)))))))))))))))))))), lg (ls rfl (lx (ls rfl (ls rfl (ls rfl (ls rfl (ls rfl (ls rfl (os rfl (os rfl (os rfl (os rfl (os rfl (os rfl (os rfl (os rfl (os rfl (os rfl (os rfl (os rfl (os rfl oz))))))))))))))))))))), lg (ls rfl (lx (ls rfl (ls rfl (ls rfl (ls rfl (ls rfl (ls rfl (os rfl (os rfl (os rfl (os rfl (os rfl (os rfl (os rfl (os rfl (os rfl (os rfl (os rfl (os rfl (os rfl (os rfl oz)))))))))))))))))))))), lg (ls rfl (lx lz)), lg lz, trivial⟩ ?_
    refine aw_seq ?_
    refine aw_region (by decide) ?_
    refine rts _ rfl (opD_move (os rfl (os rfl oz))) ?_
    replace h0 := bnd_some h0
    obtain ⟨x_12, hx_12, h0⟩ := h0
    refine rts _ rfl (opD_pure ht15_C5 (c_rParse hx_12) ⟨le_of_eq lz, trivial⟩) ?_
    refine rts _ rfl (opD_move lz) ?_
    refine rts _ rfl (opD_extract lz rfl) ?_
    refine rts _ rfl (opD_extract (ls rfl lz) rfl) ?_
    refine rts _ rfl (allocN rfl zt24_C5 (by first | exact List.length_nil | (simp only [List.length_cons, List.length_nil, Nat.zero_add, Nat.reduceAdd] <;> rfl)) (by simp only [znz] <;> rfl)) ?_
    refine rts _ rfl (storeAN rfl sz24_C5 lz (ls rfl (ls rfl lz)) (ones_cons (one_pl rfl) (ones_cons (one_pl rfl) ones_nil)) rfl rfl (zNb rfl) (List.cons_ne_nil _ _) (zbc zPb (zbc zPb bnd_nil)) (by simp only [znz] <;> rfl) (by simp only [znz] <;> rfl)) ?_
    refine rts _ rfl (opD_assign (lx (ls rfl lz))) ?_
    refine .nil ?_
    refine aw_keep [(0, _), (4, _), (9, _), (10, _), (11, _), (12, _), (13, _), (14, _), (15, _), (16, _), (17, _), (18, _), (19, _), (20, _), (21, _), (22, _), (23, _), (24, _)] ⟨lg (ls rfl (lx (ls rfl (ls rfl (ls rfl (ls rfl (ls rfl (ls rfl oz)))))))), lg (ls rfl (lx (ls rfl (ls rfl (ls rfl (ls rfl (ls rfl (ls rfl (os rfl oz))))))))), lg (ls rfl (lx (ls rfl (ls rfl (ls rfl (ls rfl (ls rfl (ls rfl (os rfl (os rfl (os rfl oz))))))))))), lg (ls rfl (lx (ls rfl (ls rfl (ls rfl (ls rfl (ls rfl (ls rfl (os rfl (os rfl (os rfl (os rfl oz)))))))))))), lg (ls rfl (lx (ls rfl (ls rfl (ls rfl (ls rfl (ls rfl (ls rfl (os rfl (os rfl (os rfl (os rfl (os rfl oz))))))))))))), lg (ls rfl (lx (ls rfl (ls rfl (ls rfl (ls rfl (ls rfl (ls rfl (os rfl (os rfl (os rfl (os rfl (os rfl (os rfl oz)))))))))))))), lg (ls rfl (lx (ls rfl (ls rfl (ls rfl (ls rfl (ls rfl (ls rfl (os rfl (os rfl (os rfl (os rfl (os rfl (os rfl (os rfl oz))))))))))))))), lg (ls rfl (lx (ls rfl (ls rfl (ls rfl (ls rfl (ls rfl (ls rfl (os rfl (os rfl (os rfl (os rfl (os rfl (os rfl (os rfl (os rfl oz)))))))))))))))), lg (ls rfl (lx (ls rfl (ls rfl (ls rfl (ls rfl (ls rfl (ls rfl (os rfl (os rfl (os rfl (os rfl (os rfl (os rfl (os rfl (os rfl (os rfl oz))))))))))))))))), lg (ls rfl (lx (ls rfl (ls rfl (ls rfl (ls rfl (ls rfl (ls rfl (os rfl (os rfl (os rfl (os rfl (os rfl (os rfl (os rfl (os rfl (os rfl (os rfl oz)))))))))))))))))), lg (ls rfl (lx (ls rfl (ls rfl (ls rfl (ls rfl (ls rfl (ls rfl (os rfl (os rfl (os rfl (os rfl (os rfl (os rfl (os rfl (os rfl (os rfl (os rfl (os rfl oz))))))))))))))))))), lg (ls rfl (lx (ls rfl (ls rfl (ls rfl (ls rfl (ls rfl (ls rfl (os rfl (os rfl (os rfl (os rfl (os rfl (os rfl (os rfl (os rfl (os rfl (os rfl (os rfl (os rfl oz)))))))))))))))))))), lg (ls rfl (lx (ls rfl (ls rfl (ls rfl (ls rfl (ls rfl (ls rfl (os rfl (os rfl (os rfl (os rfl (os rfl (os rfl (os rfl (os rfl (os rfl (os rfl (os rfl (os rfl (os rfl oz))))))))))))))))))))), lg (ls rfl (lx (ls rfl (ls rfl (ls rfl (ls rfl (ls rfl (ls rfl (os rfl (os rfl (os rfl (os rfl (os rfl (os rfl (os rfl (os rfl (os rfl (os rfl (os rfl (os rfl (os rfl (os rfl oz)))))))))))))))))))))), lg (ls rfl (lx (ls rfl (ls rfl (ls rfl (ls rfl (ls rfl (ls rfl (os rfl (os rfl (os rfl (os rfl (os rfl (os rfl (os rfl (os rfl (os rfl (os rfl (os rfl (os rfl (os rfl (os rfl (os rfl oz))))))))))))))))))))))), lg (ls rfl (lx (ls rfl (ls rfl (ls rfl (ls rfl (ls rfl (ls rfl (os rfl (os rfl (os rfl (os rfl (os rfl (os rfl (os rfl (os rfl (os rfl (os rfl (os rfl (os rfl (os rfl (os rfl (os rfl (os rfl oz)))))))))))))))))))))))), lg (ls rfl (lx lz)), lg lz, trivial⟩ ?_
    refine aw_seq ?_
    refine aw_flat mixed_C5 (by decide +kernel) ?_
    refine zts _ rfl (opD_move (os rfl (os rfl oz))) ?_
    refine zts _ rfl (opD_bytes_str Go.Proofs.Tryz.underlying30 Go.Proofs.Tryz.underlying5 Go.Proofs.Tryz.underlying9 lz) ?_
    refine zts _ rfl (opD_move (ls rfl (ls rfl (os rfl (os rfl (os rfl (os rfl oz))))))) ?_
    refine zts _ rfl (opD_bytes_str Go.Proofs.Tryz.underlying30 Go.Proofs.Tryz.underlying5 Go.Proofs.Tryz.underlying9 lz) ?_
    refine zts _ rfl (opD_seql (ls rfl (ls rfl lz)) lz) ?_
    refine zts _ rfl (opD_move lz) ?_
    refine ztg _ rfl lz (fun hg12_6_49 => opD_move (ls rfl (ls rfl (ls rfl (ls rfl (ls rfl (ls rfl (os rfl (os rfl (os rfl oz)))))))))) ?_
    replace h0 := bnd_some h0
    obtain ⟨x_13, hx_13, h0⟩ := h0
    refine ztg _ rfl (ls rfl lz) (fun hg12_7_50 => opD_call ht16_C5 (c_num28 (gif_some hx_13 hg12_7_50) hst) ⟨le_of_eq (lz.trans (pif_pos hg12_7_50)), trivial⟩) ?_
    refine ztg _ rfl (ls rfl (ls rfl lz)) (fun hg12_8_51 => opD_move (ls rfl (ls rfl (ls rfl (ls rfl (ls rfl (ls rfl (ls rfl (ls rfl (os rfl (os rfl (os rfl (os rfl (os rfl oz)))))))))))))) ?_
    refine ztg _ rfl (ls rfl (ls rfl (ls rfl lz))) (fun hg12_9_52 => opD_eql ((ls rfl lz).trans (pif_pos hg12_9_52)) (lz.trans (pif_pos hg12_9_52))) ?_
    refine zts _ rfl (opD_and (ls rfl (ls rfl (ls rfl (ls rfl lz)))) lz) ?_
    refine zts _ rfl (opD_move lz) ?_
    refine ztg _ rfl lz (fun hg12_12_53 => opD_load_aggX (qs := [_, _, _, _, _, _, _]) ag39_C5 sz39_C5 (ls rfl (ls rfl (ls rfl (ls rfl (ls rfl (ls rfl (ls rfl (ls rfl (ls rfl (ls rfl (ls rfl (ls rfl (os rfl (os rfl (os rfl (os rfl (os rfl (os rfl oz)))))))))))))))))) (loc_getN rfl rfl) (zNb rfl) rfl) ?_
    refine ztg _ rfl (ls rfl lz) (fun hg12_13_54 => opD_load_aggX (qs := [_, _, _, _, _, _, _]) ag28_C5 sz28_C5 (ls rfl (ls rfl (ls rfl (ls rfl (ls rfl (ls rfl (ls rfl (ls rfl (ls rfl (ls rfl (ls rfl (ls rfl (ls rfl (os rfl (os rfl (os rfl (os rfl (os rfl (os rfl (os rfl (os rfl oz))))))))))))))))))))) (loc_getN rfl rfl) (zNb rfl) rfl) ?_
    replace h0 := bnd_some h0
    obtain ⟨x_14, hx_14, h0⟩ := h0
    refine ztg _ rfl (ls rfl (ls rfl lz)) (fun hg12_14_55 => opD_pure ht8_C5 (c_l28giveCap (gif_some hx_14 hg12_14_55)) ⟨(le_of_eq (lz.trans (pif_pos hg12_14_55))).trans (agg_le ⟨zLr, zLr, zLr, zLr, zLr, zLr, zLr, trivial⟩), trivial⟩) ?_
    refine ztg _ rfl (ls rfl (ls rfl (ls rfl lz))) (fun hg12_15_56 => opD_binA [.int .u64 x_7.1.Gen, .bool x_7.1.Live, .int .u64 x_7.1.Holder, .int .i64 x_7.1.From.Slot, .int .u64 x_7.1.From.Gen, .string x_7.1.Scope.Prefix, .int .u8 x_7.1.Scope.Rights] [.int .u64 x_14.Gen, .bool x_14.Live, .int .u64 x_14.Holder, .int .i64 x_14.From.Slot, .int .u64 x_14.From.Gen, .string x_14.Scope.Prefix, .int .u8 x_14.Scope.Rights] ((ls rfl (ls rfl lz)).trans (pif_pos hg12_15_56)) (lz.trans (pif_pos hg12_15_56)) (fun w => (eq_Cap_g _ _ _ _ _ w)) (fun w => (eq_Cap _ _ _ _ _ _ _ _ _ _ _ _ _ _ w).1)) ?_
    refine zts _ rfl (opD_and (ls rfl (ls rfl (ls rfl (ls rfl lz)))) lz) ?_
    refine zts _ rfl (opD_move lz) ?_
    refine ztg _ rfl lz (fun hg12_18_57 => opD_move (ls rfl (ls rfl (ls rfl (ls rfl (ls rfl (ls rfl (ls rfl (ls rfl (ls rfl (ls rfl (ls rfl (ls rfl (ls rfl (ls rfl (ls rfl (ls rfl (ls rfl (ls rfl (os rfl (os rfl (os rfl (os rfl (os rfl (os rfl (os rfl oz)))))))))))))))))))))))))) ?_
    replace h0 := bnd_some h0
    obtain ⟨x_15, hx_15, h0⟩ := h0
    refine ztg _ rfl (ls rfl lz) (fun hg12_19_58 => opD_call ht16_C5 (c_num28 (gif_some hx_15 hg12_19_58) hst) ⟨le_of_eq (lz.trans (pif_pos hg12_19_58)), trivial⟩) ?_
    refine ztg _ rfl (ls rfl (ls rfl lz)) (fun hg12_20_59 => opD_move (ls rfl (ls rfl (ls rfl (ls rfl (ls rfl (ls rfl (ls rfl (ls rfl (ls rfl (ls rfl (ls rfl (ls rfl (ls rfl (ls rfl (ls rfl (ls rfl (ls rfl (ls rfl (ls rfl (ls rfl (os rfl (os rfl (os rfl (os rfl (os rfl (os rfl (os rfl (os rfl (os rfl oz)))))))))))))))))))))))))))))) ?_
    refine ztg _ rfl (ls rfl (ls rfl (ls rfl lz))) (fun hg12_21_60 => opD_eql ((ls rfl lz).trans (pif_pos hg12_21_60)) (lz.trans (pif_pos hg12_21_60))) ?_
    refine zts _ rfl (opD_and (ls rfl (ls rfl (ls rfl (ls rfl lz)))) lz) ?_
    refine zts _ rfl (opD_move lz) ?_
    refine ztg _ rfl lz (fun hg12_24_61 => opD_move (ls rfl (ls rfl (ls rfl (ls rfl (ls rfl (ls rfl (ls rfl (ls rfl (ls rfl (ls rfl (ls rfl (ls rfl (ls rfl (ls rfl (ls rfl (ls rfl (ls rfl (ls rfl (ls rfl (ls rfl (ls rfl (ls rfl (ls rfl (ls rfl (os rfl (os rfl (os rfl (os rfl (os rfl (os rfl (os rfl (os rfl (os rfl (os rfl oz))))))))))))))))))))))))))))))))))) ?_
    refine ztg _ rfl (ls rfl lz) (fun hg12_25_62 => opD_move (ls rfl (ls rfl (ls rfl (ls rfl (ls rfl (ls rfl (ls rfl (ls rfl (ls rfl (ls rfl (ls rfl (ls rfl (ls rfl (ls rfl (ls rfl (ls rfl (ls rfl (ls rfl (ls rfl (ls rfl (ls rfl (ls rfl (ls rfl (ls rfl (ls rfl (os rfl (os rfl (os rfl (os rfl (os rfl (os rfl (os rfl (os rfl (os rfl (os rfl (os rfl (os rfl oz)))))))))))))))))))))))))))))))))))))) ?_
    refine ztg _ rfl (ls rfl (ls rfl lz)) (fun hg12_26_63 => opD_seql ((ls rfl lz).trans (pif_pos hg12_26_63)) (lz.trans (pif_pos hg12_26_63))) ?_
    refine zts _ rfl (opD_and (ls rfl (ls rfl (ls rfl lz))) lz) ?_
    refine zts _ rfl (opD_move lz) ?_
    refine ztg _ rfl lz (fun hg12_29_64 => opD_move (ls rfl (ls rfl (ls rfl (ls rfl (ls rfl (ls rfl (ls rfl (ls rfl (ls rfl (ls rfl (ls rfl (ls rfl (ls rfl (ls rfl (ls rfl (ls rfl (ls rfl (ls rfl (ls rfl (ls rfl (ls rfl (ls rfl (ls rfl (ls rfl (ls rfl (ls rfl (ls rfl (ls rfl (ls rfl (os rfl (os rfl (os rfl (os rfl (os rfl (os rfl (os rfl (os rfl (os rfl (os rfl (os rfl oz))))))))))))))))))))))))))))))))))))))))) ?_
    replace h0 := bnd_some h0
    obtain ⟨x_16, hx_16, h0⟩ := h0
    refine ztg _ rfl (ls rfl lz) (fun hg12_30_65 => opD_call ht16_C5 (c_num28 (gif_some hx_16 hg12_30_65) hst) ⟨le_of_eq (lz.trans (pif_pos hg12_30_65)), trivial⟩) ?_
    refine ztg _ rfl (ls rfl (ls rfl lz)) (fun hg12_31_66 => opD_move (ls rfl (ls rfl (ls rfl (ls rfl (ls rfl (ls rfl (ls rfl (ls rfl (ls rfl (ls rfl (ls rfl (ls rfl (ls rfl (ls rfl (ls rfl (ls rfl (ls rfl (ls rfl (ls rfl (ls rfl (ls rfl (ls rfl (ls rfl (ls rfl (ls rfl (ls rfl (ls rfl (ls rfl (ls rfl (ls rfl (ls rfl (os rfl (os rfl (os rfl (os rfl (os rfl (os rfl (os rfl (os rfl (os rfl (os rfl (os rfl (os rfl (os rfl oz))))))))))))))))))))))))))))))))))))))))))))) ?_
    refine ztg _ rfl (ls rfl (ls rfl (ls rfl lz))) (fun hg12_32_67 => opD_eql ((ls rfl lz).trans (pif_pos hg12_32_67)) (lz.trans (pif_pos hg12_32_67))) ?_
    refine zts _ rfl (opD_and (ls rfl (ls rfl (ls rfl (ls rfl lz)))) lz) ?_
    refine zts _ rfl (opD_move lz) ?_
    refine ztg _ rfl lz (fun hg12_35_68 => opD_load_aggX (qs := [_, _]) ag36_C5 sz36_C5 (ls rfl (ls rfl (ls rfl (ls rfl (ls rfl (ls rfl (ls rfl (ls rfl (ls rfl (ls rfl (ls rfl (ls rfl (ls rfl (ls rfl (ls rfl (ls rfl (ls rfl (ls rfl (ls rfl (ls rfl (ls rfl (ls rfl (ls rfl (ls rfl (ls rfl (ls rfl (ls rfl (ls rfl (ls rfl (ls rfl (ls rfl (ls rfl (ls rfl (ls rfl (ls rfl (os rfl (os rfl (os rfl (os rfl (os rfl (os rfl (os rfl (os rfl (os rfl (os rfl (os rfl (os rfl (os rfl (os rfl oz))))))))))))))))))))))))))))))))))))))))))))))))) (loc_getN rfl rfl) (zNb rfl) rfl) ?_
    refine ztg _ rfl (ls rfl lz) (fun hg12_36_69 => opD_load_aggX (qs := [_, _]) ag24_C5 sz24_C5 (ls rfl (ls rfl (ls rfl (ls rfl (ls rfl (ls rfl (ls rfl (ls rfl (ls rfl (ls rfl (ls rfl (ls rfl (ls rfl (ls rfl (ls rfl (ls rfl (ls rfl (ls rfl (ls rfl (ls rfl (ls rfl (ls rfl (ls rfl (ls rfl (ls rfl (ls rfl (ls rfl (ls rfl (ls rfl (ls rfl (ls rfl (ls rfl (ls rfl (ls rfl (ls rfl (ls rfl (os rfl (os rfl (os rfl (os rfl (os rfl (os rfl (os rfl (os rfl (os rfl (os rfl (os rfl (os rfl (os rfl (os rfl (os rfl (os rfl oz)))))))))))))))))))))))))))))))))))))))))))))))))))) (loc_getN rfl rfl) (zNb rfl) rfl) ?_
    refine ztg _ rfl (ls rfl (ls rfl lz)) (fun hg12_37_70 => opD_binA [.int .i64 x_11.1.Slot, .int .u64 x_11.1.Gen] [.int .i64 x_12.1.Slot, .int .u64 x_12.1.Gen] ((ls rfl lz).trans (pif_pos hg12_37_70)) (lz.trans (pif_pos hg12_37_70)) (fun w => (eq_Rf_g _ _ _ _ _ w)) (fun w => (eq_Rf _ _ _ _ w).1)) ?_
    refine zts _ rfl (opD_and (ls rfl (ls rfl (ls rfl lz))) lz) ?_
    refine zts _ rfl (opD_move lz) ?_
    refine ztg _ rfl lz (fun hg12_40_71 => opD_move (ls rfl (ls rfl (ls rfl (ls rfl (ls rfl (ls rfl (ls rfl (ls rfl (ls rfl (ls rfl (ls rfl (ls rfl (ls rfl (ls rfl (ls rfl (ls rfl (ls rfl (ls rfl (ls rfl (ls rfl (ls rfl (ls rfl (ls rfl (ls rfl (ls rfl (ls rfl (ls rfl (ls rfl (ls rfl (ls rfl (ls rfl (ls rfl (ls rfl (ls rfl (ls rfl (ls rfl (ls rfl (ls rfl (ls rfl (ls rfl (os rfl (os rfl (os rfl (os rfl (os rfl (os rfl (os rfl (os rfl (os rfl (os rfl (os rfl (os rfl (os rfl (os rfl (os rfl oz)))))))))))))))))))))))))))))))))))))))))))))))))))))))) ?_
    replace h0 := bnd_some h0
    obtain ⟨x_17, hx_17, h0⟩ := h0
    refine ztg _ rfl (ls rfl lz) (fun hg12_41_72 => opD_call ht16_C5 (c_num28 (gif_some hx_17 hg12_41_72) hst) ⟨le_of_eq (lz.trans (pif_pos hg12_41_72)), trivial⟩) ?_
    refine ztg _ rfl (ls rfl (ls rfl lz)) (fun hg12_42_73 => opD_move (ls rfl (ls rfl (ls rfl (ls rfl (ls rfl (ls rfl (ls rfl (ls rfl (ls rfl (ls rfl (ls rfl (ls rfl (ls rfl (ls rfl (ls rfl (ls rfl (ls rfl (ls rfl (ls rfl (ls rfl (ls rfl (ls rfl (ls rfl (ls rfl (ls rfl (ls rfl (ls rfl (ls rfl (ls rfl (ls rfl (ls rfl (ls rfl (ls rfl (ls rfl (ls rfl (ls rfl (ls rfl (ls rfl (ls rfl (ls rfl (ls rfl (ls rfl (os rfl (os rfl (os rfl (os rfl (os rfl (os rfl (os rfl (os rfl (os rfl (os rfl (os rfl (os rfl (os rfl (os rfl (os rfl (os rfl (os rfl oz)))))))))))))))))))))))))))))))))))))))))))))))))))))))))))) ?_
    refine ztg _ rfl (ls rfl (ls rfl (ls rfl lz))) (fun hg12_43_74 => opD_eql ((ls rfl lz).trans (pif_pos hg12_43_74)) (lz.trans (pif_pos hg12_43_74))) ?_
    refine zts _ rfl (opD_and (ls rfl (ls rfl (ls rfl (ls rfl lz)))) lz) ?_
    refine zts _ rfl (opD_move lz) ?_
    refine ztg _ rfl lz (fun hg12_46_75 => opD_move (ls rfl (ls rfl (ls rfl (ls rfl (ls rfl (ls rfl (ls rfl (ls rfl (ls rfl (ls rfl (ls rfl (ls rfl (ls rfl (ls rfl (ls rfl (ls rfl (ls rfl (ls rfl (ls rfl (ls rfl (ls rfl (ls rfl (ls rfl (ls rfl (ls rfl (ls rfl (ls rfl (ls rfl (ls rfl (ls rfl (ls rfl (ls rfl (ls rfl (ls rfl (ls rfl (ls rfl (ls rfl (ls rfl (ls rfl (ls rfl (ls rfl (ls rfl (ls rfl (ls rfl (ls rfl (ls rfl oz))))))))))))))))))))))))))))))))))))))))))))))) ?_
    refine ztg _ rfl (ls rfl lz) (fun hg12_47_76 => opD_load_aggX (qs := [_, _, _, _, _, _, _]) ag28_C5 sz28_C5 (ls rfl (ls rfl (ls rfl (ls rfl (ls rfl (ls rfl (ls rfl (ls rfl (ls rfl (ls rfl (ls rfl (ls rfl (ls rfl (ls rfl (ls rfl (ls rfl (ls rfl (ls rfl (ls rfl (ls rfl (ls rfl (ls rfl (ls rfl (ls rfl (ls rfl (ls rfl (ls rfl (ls rfl (ls rfl (ls rfl (ls rfl (ls rfl (ls rfl (ls rfl (ls rfl (ls rfl (ls rfl (ls rfl (ls rfl (ls rfl (ls rfl (ls rfl (ls rfl (ls rfl (ls rfl (ls rfl (ls rfl (os rfl oz)))))))))))))))))))))))))))))))))))))))))))))))) (loc_getN rfl rfl) (zNb rfl) rfl) ?_
    replace h0 := bnd_some h0
    obtain ⟨x_18, hx_18, h0⟩ := h0
    refine ztg _ rfl (ls rfl (ls rfl lz)) (fun hg12_48_77 => opD_pure ht8_C5 (c_l28giveCap (gif_some hx_18 hg12_48_77)) ⟨(le_of_eq (lz.trans (pif_pos hg12_48_77))).trans (agg_le ⟨zLr, zLr, zLr, zLr, zLr, zLr, zLr, trivial⟩), trivial⟩) ?_
    replace h0 := bnd_some h0
    obtain ⟨x_19, hx_19, h0⟩ := h0
    refine ztg _ rfl (ls rfl (ls rfl (ls rfl lz))) (fun hg12_49_78 => opD_pure ht17_C5 (c_cchk (gif_some hx_19 hg12_49_78)) ⟨le_of_eq ((ls rfl (ls rfl lz)).trans (pif_pos hg12_49_78)), (le_of_eq (lz.trans (pif_pos hg12_49_78))).trans (agg_le ⟨zLr, zLr, zLr, zLr, zLr, zLr, zLr, trivial⟩), trivial⟩) ?_
    refine ztg _ rfl (ls rfl (ls rfl (ls rfl (ls rfl lz)))) (fun hg12_50_79 => opD_bin (lz.trans (pif_pos hg12_50_79)) (ev_const _ _) (fun w => errV_geql _ w _) (fun w => errV_eql _ w)) ?_
    refine ztg _ rfl (ls rfl (ls rfl (ls rfl (ls rfl (ls rfl lz))))) (fun hg12_51_80 => opD_move (ls rfl (ls rfl (ls rfl (ls rfl (ls rfl (ls rfl (ls rfl (ls rfl (ls rfl (ls rfl (ls rfl (ls rfl (ls rfl (ls rfl (ls rfl (ls rfl (ls rfl (ls rfl (ls rfl (ls rfl (ls rfl (ls rfl (ls rfl (ls rfl (ls rfl (ls rfl (ls rfl (ls rfl (ls rfl (ls rfl (ls rfl (ls rfl (ls rfl (ls rfl (ls rfl (ls rfl (ls rfl (ls rfl (ls rfl (ls rfl (ls rfl (ls rfl (ls rfl (ls rfl (ls rfl (ls rfl (ls rfl (ls rfl (ls rfl (ls rfl (ls rfl oz)))))))))))))))))))))))))))))))))))))))))))))))))))) ?_
    refine ztg _ rfl (ls rfl (ls rfl (ls rfl (ls rfl (ls rfl (ls rfl lz)))))) (fun hg12_52_81 => opD_load_aggX (qs := [_, _, _, _, _, _, _]) ag28_C5 sz28_C5 (ls rfl (ls rfl (ls rfl (ls rfl (ls rfl (ls rfl (ls rfl (ls rfl (ls rfl (ls rfl (ls rfl (ls rfl (ls rfl (ls rfl (ls rfl (ls rfl (ls rfl (ls rfl (ls rfl (ls rfl (ls rfl (ls rfl (ls rfl (ls rfl (ls rfl (ls rfl (ls rfl (ls rfl (ls rfl (ls rfl (ls rfl (ls rfl (ls rfl (ls rfl (ls rfl (ls rfl (ls rfl (ls rfl (ls rfl (ls rfl (ls rfl (ls rfl (ls rfl (ls rfl (ls rfl (ls rfl (ls rfl (ls rfl (ls rfl (ls rfl (ls rfl (ls rfl (os rfl oz))))))))))))))))))))))))))))))))))))))))))))))))))))) (loc_getN rfl rfl) (zNb rfl) rfl) ?_
    replace h0 := bnd_some h0
    obtain ⟨x_20, hx_20, h0⟩ := h0
    refine ztg _ rfl (ls rfl (ls rfl (ls rfl (ls rfl (ls rfl (ls rfl (ls rfl lz))))))) (fun hg12_53_82 => opD_pure ht18_C5 (c_rMay (gif_some hx_20 hg12_53_82)) ⟨le_of_eq ((ls rfl lz).trans (pif_pos hg12_53_82)), (le_of_eq (lz.trans (pif_pos hg12_53_82))).trans (agg_le ⟨zLr, zLr, zLr, zLr, zLr, zLr, zLr, trivial⟩), trivial⟩) ?_
    refine ztg _ rfl (ls rfl (ls rfl (ls rfl (ls rfl (ls rfl (ls rfl (ls rfl (ls rfl lz)))))))) (fun hg12_54_83 => opD_beql Go.Proofs.Tryz.underlying4 ((ls rfl (ls rfl (ls rfl lz))).trans (pif_pos hg12_54_83)) (lz.trans (pif_pos hg12_54_83))) ?_
    refine zts _ rfl (opD_and (ls rfl (ls rfl (ls rfl (ls rfl (ls rfl (ls rfl (ls rfl (ls rfl (ls rfl lz))))))))) lz) ?_
    refine zts _ rfl (opD_move lz) ?_
    replace h0 := bnd_some h0
    obtain ⟨x_21, hx_21, h0⟩ := h0
    refine ztg _ rfl lz (fun hg12_57_84 => opD_call ht6_C5 (c_l28sure (gif_some hx_21 hg12_57_84) hst) trivial) ?_
    refine zts _ rfl (opD_and (ls rfl lz) lz) ?_
    refine zts _ rfl (opD_assign lz) ?_
    refine .nil ?_
    refine aw_keep [(6, _)] ⟨lg lz, trivial⟩ ?_
    refine aw_ret ?_
    obtain rfl := some_of h0
    exact done_ext (.inr rfl) ((res_one rfl (it_tmp oz)).le zLr) zPb
end Go.Proofs.YtokcgacehdgkcaaGreatDoor.Eng.A
