/- EF2: what functions do, walked; used by the laws of this seat. -/
import Derived.Test.YtokcgacehdgkcaaDoorEE3
import Derived.Test.YtokcgacehdgkcaaDoorEF1
namespace Go.Proofs.YtokcgacehdgkcaaDoor.Eng.A
set_option linter.unusedVariables false
set_option linter.unusedSimpArgs false
open Go.RowKit Go.Proofs.YtokcgacehdgkcaaDoor.Plain Go.Proofs.YtokcgacehdgkcaaDoor.Eng Go.Proofs.YtokcgacehdgkcaaDoor.Eng.Pk Go.Proofs.YtokcgacehdgkcaaDoor.Eng.Rd

theorem fo81_0_W6B : fieldOff Tryd.prog 81 0 = some 0 := by kernel_rfl
theorem ag56_W6B : aggT Tryd.prog 56 = some false := by kernel_rfl
theorem fo81_1_W6B : fieldOff Tryd.prog 81 1 = some 1 := by kernel_rfl
theorem fo86_1_W6B : fieldOff Tryd.prog 86 1 = some 1 := by kernel_rfl
theorem fo81_2_W6B : fieldOff Tryd.prog 81 2 = some 2 := by kernel_rfl
theorem ag79_W6B : aggT Tryd.prog 79 = some false := by kernel_rfl
theorem ht43_W6B : hasText Tryd.prog 43 = true := by kernel_rfl
theorem fo86_2_W6B : fieldOff Tryd.prog 86 2 = some 2 := by kernel_rfl
theorem ag3_W6B : aggT Tryd.prog 3 = some false := by kernel_rfl
theorem fo86_0_W6B : fieldOff Tryd.prog 86 0 = some 0 := by kernel_rfl
theorem fo86_4_W6B : fieldOff Tryd.prog 86 4 = some 51 := by kernel_rfl
theorem ag84_W6B : aggT Tryd.prog 84 = some true := by kernel_rfl
theorem sz84_W6B : sizeT Tryd.prog 84 = some 16 := by kernel_rfl
theorem ht99_W6B : hasText Tryd.prog 99 = true := by kernel_rfl
theorem cc145_W6B : Tryd.prog.concrete 145 = true := by kernel_rfl
theorem fo86_3_W6B : fieldOff Tryd.prog 86 3 = some 3 := by kernel_rfl
theorem ag82_W6B : aggT Tryd.prog 82 = some true := by kernel_rfl
theorem sz82_W6B : sizeT Tryd.prog 82 = some 48 := by kernel_rfl
theorem ag81_W6B : aggT Tryd.prog 81 = some true := by kernel_rfl
theorem sz81_W6B : sizeT Tryd.prog 81 = some 3 := by kernel_rfl
theorem zt81_W6B : zeroT Tryd.prog 81 = some [.int .u64 0, .int .u64 0, .slice none 0 0] := by kernel_rfl
theorem ht91_W6B : hasText Tryd.prog 91 = true := by kernel_rfl
theorem sz77_W6B : sizeT Tryd.prog 77 = some 1 := by kernel_rfl
theorem ag77_W6B : aggT Tryd.prog 77 = some false := by kernel_rfl
theorem ag86_W6B : aggT Tryd.prog 86 = some true := by kernel_rfl
theorem sz86_W6B : sizeT Tryd.prog 86 = some 67 := by kernel_rfl
theorem ht100_W6B : hasText Tryd.prog 100 = true := by kernel_rfl
theorem ht101_W6B : hasText Tryd.prog 101 = true := by kernel_rfl
theorem ht49_W6B : hasText Tryd.prog 49 = true := by kernel_rfl
theorem mixed_W6B : Tryd.prog.follows .mixedOrders = true := by kernel_rfl
theorem ht48_W6B : hasText Tryd.prog 48 = true := by kernel_rfl
theorem ht90_W6B : hasText Tryd.prog 90 = true := by kernel_rfl
theorem ht42_W6B : hasText Tryd.prog 42 = true := by kernel_rfl
theorem ht95_W6B : hasText Tryd.prog 95 = true := by kernel_rfl
theorem ht54_W6B : hasText Tryd.prog 54 = true := by kernel_rfl
theorem ht131_W6B : hasText Tryd.prog 131 = true := by kernel_rfl
theorem zt86_W6B : zeroT Tryd.prog 86 = some [.int .u64 0, .int .u64 0, .int .i64 0, .int .u64 0, .int .u64 0, .slice none 0 0, .int .u64 0, .int .u64 0, .slice none 0 0, .int .u64 0, .int .u64 0, .slice none 0 0, .int .u64 0, .int .u64 0, .slice none 0 0, .int .u64 0, .int .u64 0, .slice none 0 0, .int .u64 0, .int .u64 0, .slice none 0 0, .int .u64 0, .int .u64 0, .slice none 0 0, .int .u64 0, .int .u64 0, .slice none 0 0, .int .u64 0, .int .u64 0, .slice none 0 0, .int .u64 0, .int .u64 0, .slice none 0 0, .int .u64 0, .int .u64 0, .slice none 0 0, .int .u64 0, .int .u64 0, .slice none 0 0, .int .u64 0, .int .u64 0, .slice none 0 0, .int .u64 0, .int .u64 0, .slice none 0 0, .int .u64 0, .int .u64 0, .slice none 0 0, .int .u64 0, .int .u64 0, .slice none 0 0, .int .u16 0, .int .u16 0, .int .u16 0, .int .u16 0, .int .u16 0, .int .u16 0, .int .u16 0, .int .u16 0, .int .u16 0, .int .u16 0, .int .u16 0, .int .u16 0, .int .u16 0, .int .u16 0, .int .u16 0, .int .u16 0] := by kernel_rfl
theorem pt86_W6B : placesT Tryd.prog 86 5 = some [(0, 1), (1, 1), (2, 1), (3, 48), (51, 16)] := by kernel_rfl
theorem ht92_W6B : hasText Tryd.prog 92 = true := by kernel_rfl
theorem ht93_W6B : hasText Tryd.prog 93 = true := by kernel_rfl
theorem sz56_W6B : sizeT Tryd.prog 56 = some 1 := by kernel_rfl
theorem pt81_W6B : placesT Tryd.prog 81 3 = some [(0, 1), (1, 1), (2, 1)] := by kernel_rfl
theorem ht96_W6B : hasText Tryd.prog 96 = true := by kernel_rfl
theorem ht98_W6B : hasText Tryd.prog 98 = true := by kernel_rfl
theorem ht97_W6B : hasText Tryd.prog 97 = true := by kernel_rfl

open Go.Proofs.YtokcgacehdgkcaaDoor.Eng.Er Go.Proofs.YtokcgacehdgkcaaDoor.Eng.Er2 Go.Proofs.YtokcgacehdgkcaaDoor.Eng.Ha

def F_dmay (fl : Nat) (p0 : Dir) (p1 : Tenant) : Option (Bool) :=
  bnd (gif ((((((decide (1 ≤ p1.ID)) && (decide (p1.ID ≤ 4611686018427387904))) && (decide (1 ≤ p1.Gen))) && (decide (p1.Gen ≤ p0.Gen))) && (decide ((p1.Ext.length : Int) ≤ 8))) == true) (F_xMany fl p1.Ext)) fun x_1 => some ((((((decide (1 ≤ p1.ID)) && (decide (p1.ID ≤ 4611686018427387904))) && (decide (1 ≤ p1.Gen))) && (decide (p1.Gen ≤ p0.Gen))) && (decide ((p1.Ext.length : Int) ≤ 8))) && (decide (3 ≤ x_1)))
set_option maxRecDepth 100000 in
set_option maxHeartbeats 2000000 in
theorem c_dmay {fl : Nat} {p0 : Dir} {p1 : Tenant} {R : Bool} (h0 : F_dmay fl p0 p1 = some R) : Pure Tryd.prog 100 [agg (kDir.cs p0), agg [pl (.int .u64 p1.ID), pl (.int .u64 p1.Gen), sl kStx none none p1.Ext]] (pl (.bool R)) := by
  intro s
  unfold F_dmay at h0
  refine ac_of_aw s.boxes.length s.fr.length Tryd.func100 rfl (by simp [Tryd.ntmps100]) ?_
  refine aw_ext0 ?_
  refine aw_keep [(0, _), (1, _)] ⟨lg ez, lg (es ez), trivial⟩ ?_
  refine aw_seq ?_
  refine aw_region (by decide) ?_
  refine rts _ rfl (boxAN (n := 0) rfl oz (kb_Dir _ _ _) (by first | exact List.length_nil | (simp only [List.length_cons, List.length_nil, Nat.zero_add, Nat.reduceAdd] <;> rfl)) (by simp only [znz] <;> rfl)) ?_
  refine rts _ rfl (boxAN (n := 1) rfl (ls rfl (os rfl oz)) (zbc zPb (zbc zPb (zbc (sl_b kb_Stx) bnd_nil))) (by first | exact List.length_nil | (simp only [List.length_cons, List.length_nil, Nat.zero_add, Nat.reduceAdd] <;> rfl)) (by simp only [znz] <;> rfl)) ?_
  refine rts _ rfl (opD_assign (ev_const _ _)) ?_
  refine .nil ?_
  refine aw_keep [(2, _), (3, _)] ⟨lg (ls rfl (ls rfl lz)), lg (ls rfl lz), trivial⟩ ?_
  refine aw_seq ?_
  refine aw_region (by decide) ?_
  refine rts _ rfl (opD_fieldAddr fo81_0_W6B (os rfl oz)) ?_
  refine rts _ rfl (opD_load_one ag56_W6B lz (loc_getN rfl rfl) rfl) ?_
  refine rts _ rfl (opD_geq lz (ev_const _ _)) ?_
  refine rts _ rfl (opD_move lz) ?_
  refine rtg _ rfl lz (fun hg1_4_1 => opD_fieldAddr fo81_0_W6B (ls rfl (ls rfl (ls rfl (ls rfl (os rfl oz)))))) ?_
  refine rtg _ rfl (ls rfl lz) (fun hg1_5_2 => opD_load_one ag56_W6B (lz.trans (pif_pos hg1_5_2)) (loc_getN rfl rfl) rfl) ?_
  refine rtg _ rfl (ls rfl (ls rfl lz)) (fun hg1_6_3 => opD_leq (lz.trans (pif_pos hg1_6_3)) (ev_const _ _)) ?_
  refine rts _ rfl (opD_and (ls rfl (ls rfl (ls rfl lz))) lz) ?_
  refine rts _ rfl (opD_move lz) ?_
  refine rtg _ rfl lz (fun hg1_9_4 => opD_fieldAddr fo81_1_W6B (ls rfl (ls rfl (ls rfl (ls rfl (ls rfl (ls rfl (ls rfl (ls rfl (ls rfl (os rfl oz))))))))))) ?_
  refine rtg _ rfl (ls rfl lz) (fun hg1_10_5 => opD_load_one ag56_W6B (lz.trans (pif_pos hg1_10_5)) (loc_getN rfl rfl) rfl) ?_
  refine rtg _ rfl (ls rfl (ls rfl lz)) (fun hg1_11_6 => opD_geq (lz.trans (pif_pos hg1_11_6)) (ev_const _ _)) ?_
  refine rts _ rfl (opD_and (ls rfl (ls rfl (ls rfl lz))) lz) ?_
  refine rts _ rfl (opD_move lz) ?_
  refine rtg _ rfl lz (fun hg1_14_7 => opD_fieldAddr fo81_1_W6B (ls rfl (ls rfl (ls rfl (ls rfl (ls rfl (ls rfl (ls rfl (ls rfl (ls rfl (ls rfl (ls rfl (ls rfl (ls rfl (ls rfl (os rfl oz)))))))))))))))) ?_
  refine rtg _ rfl (ls rfl lz) (fun hg1_15_8 => opD_load_one ag56_W6B (lz.trans (pif_pos hg1_15_8)) (loc_getN rfl rfl) rfl) ?_
  refine rtg _ rfl (ls rfl (ls rfl lz)) (fun hg1_16_9 => opD_fieldAddr fo86_1_W6B (ls rfl (ls rfl (ls rfl (ls rfl (ls rfl (ls rfl (ls rfl (ls rfl (ls rfl (ls rfl (ls rfl (ls rfl (ls rfl (ls rfl (ls rfl (ls rfl oz))))))))))))))))) ?_
  refine rtg _ rfl (ls rfl (ls rfl (ls rfl lz))) (fun hg1_17_10 => opD_load_one ag56_W6B (lz.trans (pif_pos hg1_17_10)) (loc_getN rfl rfl) rfl) ?_
  refine rtg _ rfl (ls rfl (ls rfl (ls rfl (ls rfl lz)))) (fun hg1_18_11 => opD_leq ((ls rfl (ls rfl lz)).trans (pif_pos hg1_18_11)) (lz.trans (pif_pos hg1_18_11))) ?_
  refine rts _ rfl (opD_and (ls rfl (ls rfl (ls rfl (ls rfl (ls rfl lz))))) lz) ?_
  refine rts _ rfl (opD_move lz) ?_
  refine rtg _ rfl lz (fun hg1_21_12 => opD_fieldAddr fo81_2_W6B (ls rfl (ls rfl (ls rfl (ls rfl (ls rfl (ls rfl (ls rfl (ls rfl (ls rfl (ls rfl (ls rfl (ls rfl (ls rfl (ls rfl (ls rfl (ls rfl (ls rfl (ls rfl (ls rfl (ls rfl (ls rfl (os rfl oz))))))))))))))))))))))) ?_
  refine rtg _ rfl (ls rfl lz) (fun hg1_22_13 => opD_load_one ag79_W6B (lz.trans (pif_pos hg1_22_13)) (loc_getN rfl rfl) rfl) ?_
  refine rtg _ rfl (ls rfl (ls rfl lz)) (fun hg1_23_14 => opD_len_sl Tryd.underlying79 (lz.trans (pif_pos hg1_23_14))) ?_
  refine rtg _ rfl (ls rfl (ls rfl (ls rfl lz))) (fun hg1_24_15 => opD_leq (lz.trans (pif_pos hg1_24_15)) (ev_const _ _)) ?_
  refine rts _ rfl (opD_and (ls rfl (ls rfl (ls rfl (ls rfl lz)))) lz) ?_
  refine rts _ rfl (opD_move lz) ?_
  refine rtg _ rfl lz (fun hg1_27_16 => opD_fieldAddr fo81_2_W6B (ls rfl (ls rfl (ls rfl (ls rfl (ls rfl (ls rfl (ls rfl (ls rfl (ls rfl (ls rfl (ls rfl (ls rfl (ls rfl (ls rfl (ls rfl (ls rfl (ls rfl (ls rfl (ls rfl (ls rfl (ls rfl (ls rfl (ls rfl (ls rfl (ls rfl (ls rfl (ls rfl (os rfl oz))))))))))))))))))))))))))))) ?_
  refine rtg _ rfl (ls rfl lz) (fun hg1_28_17 => opD_load_one ag79_W6B (lz.trans (pif_pos hg1_28_17)) (loc_getN rfl rfl) rfl) ?_
  replace h0 := bnd_some h0
  obtain ⟨x_1, hx_1, h0⟩ := h0
  refine rtg _ rfl (ls rfl (ls rfl lz)) (fun hg1_29_18 => opD_pure ht43_W6B (c_xMany (gif_some hx_1 hg1_29_18)) ⟨le_of_eq (lz.trans (pif_pos hg1_29_18)), trivial⟩) ?_
  refine rtg _ rfl (ls rfl (ls rfl (ls rfl lz))) (fun hg1_30_19 => opD_geq (lz.trans (pif_pos hg1_30_19)) (ev_const _ _)) ?_
  refine rts _ rfl (opD_and (ls rfl (ls rfl (ls rfl (ls rfl lz)))) lz) ?_
  refine rts _ rfl (opD_assign lz) ?_
  refine .nil ?_
  refine aw_keep [(4, _)] ⟨lg lz, trivial⟩ ?_
  refine aw_ret ?_
  obtain rfl := some_of h0
  exact done_ext (.inr rfl) ((res_one rfl (it_tmp oz)).le zLr) zPb

def KM_seen : MK Int Bool := ⟨fun k => .int .u64 k, fun x => .bool x⟩
theorem KM_seen_kle (x : Int) : (pl (.int .u64 x)).le (pl (KM_seen.ek x)) := Pd.le_refl _
theorem KM_seen_vle (x : Bool) : (pl (.bool x)).le (pl (KM_seen.ev x)) := Pd.le_refl _
theorem KM_seen_vge (x : Bool) : (pl (KM_seen.ev x)).le (pl (.bool x)) := Pd.le_refl _
theorem KM_seen_lk1 {o : Option Bool} {z r : Bool} (h : o.getD z = r) : (pl (if false = true then .tuple #[(o.map KM_seen.ev).getD (KM_seen.ev z), .bool o.isSome] else (o.map KM_seen.ev).getD (KM_seen.ev z))).le (pl (.bool r)) := by
  subst h; cases o <;> exact KM_seen_vge _
theorem KM_seen_z (w : World) : (zeroValue 4).run Tryd.prog w = .ok (KM_seen.ev false) w := by
  have h : Tryd.t4.zero = some (KM_seen.ev false) := by kernel_rfl
  simp [zeroValue, h]

theorem KM_seen_kl : KL Tryd.prog 56 KM_seen := kl_one Tryd.underlying56 (fun _ => by simp [MapKept.IsKey, KM_seen]) (fun a b => by simp only [KM_seen, Instr.sameNow, if_true]; rfl) (fun _ => by simp [Instr.sameBits, KM_seen])

def F_dCheck_b0 (fl : Nat) (p0 : Dir) (t_3 : Int × (Int → Option Bool)) : Option ((Int × (Int → Option Bool)) ⊕ (((Option Int)) ⊕ ((Int → Option Bool)))) :=
  ifb (decide (t_3.1 < 16)) (bnd (grd (Below t_3.1 16) <| ixb (nrm 16 (default : Tenant) p0.L) t_3.1 fun x_6 => bnd (F_tnone x_6) fun x_7 => ifb x_7 (grd (Below t_3.1 16) <| ifb (decide ((p0.M.getD t_3.1.toNat (0 : Int)) ≠ 0)) (some (.inl (some 1))) (some (.inr t_3.2))) (bnd (F_dmay fl p0 x_6) fun x_8 => ifb ((!x_8) || ((t_3.2 x_6.ID).getD false)) (some (.inl (some 1))) (some (.inr (fset t_3.2 x_6.ID true))))) fun z_5 => ocs z_5 (fun qz_5_0 => some (.inr (.inl qz_5_0))) fun z_5_0 => some (.inl (IntKind.i64.wrap (t_3.1 + 1), z_5_0))) (some (.inr (.inr t_3.2)))
def F_dCheck (fl : Nat) (p0 : Dir) : Option ((Option Int)) :=
  bnd (gif (((((decide (p0.Pages < 8)) || (decide (1024 < p0.Pages))) || (decide (4611686018427387904 < p0.Seq))) || (decide (4611686018427387904 < p0.Gen))) == false) (F_mCheck fl (nrm 16 (0 : Int) p0.M))) fun x_1 => ifb (((((decide (p0.Pages < 8)) || (decide (1024 < p0.Pages))) || (decide (4611686018427387904 < p0.Seq))) || (decide (4611686018427387904 < p0.Gen))) || x_1.isSome) (some (some 1)) (bnd (lp (F_dCheck_b0 fl p0) fl (0, (fnil : (Int → Option Bool)))) fun z_2 => ocs z_2 (fun qz_2_0 => some qz_2_0) fun z_2_0 => bnd (F_dtaken fl p0) fun x_9 => bnd (F_xcheck fl x_9 p0.Pages) fun x_10 => some x_10)
set_option maxRecDepth 100000 in
set_option maxHeartbeats 2000000 in
theorem c_dCheck {fl : Nat} {p0 : Dir} {R : (Option Int)} (h0 : F_dCheck fl p0 = some R) : Pure Tryd.prog 48 [agg (kDir.cs p0)] (pl (errV R)) := by
  intro s
  unfold F_dCheck at h0
  refine ac_of_aw s.boxes.length s.fr.length Tryd.func48 rfl (by simp [Tryd.ntmps48]) ?_
  refine aw_ext0 ?_
  refine aw_keep [(0, _)] ⟨lg ez, trivial⟩ ?_
  refine aw_seq ?_
  refine aw_region (by decide) ?_
  refine rts _ rfl (boxAN (n := 0) rfl oz (kb_Dir _ _ _) (by first | exact List.length_nil | (simp only [List.length_cons, List.length_nil, Nat.zero_add, Nat.reduceAdd] <;> rfl)) (by simp only [znz] <;> rfl)) ?_
  refine rts _ rfl (opD_assign (ev_const _ _)) ?_
  refine .nil ?_
  refine aw_keep [(1, _)] ⟨lg (ls rfl lz), trivial⟩ ?_
  refine aw_seq ?_
  refine aw_seq ?_
  refine aw_region (by decide) ?_
  refine rts _ rfl (opD_fieldAddr fo86_2_W6B oz) ?_
  refine rts _ rfl (opD_load_one ag3_W6B lz (loc_getN rfl rfl) rfl) ?_
  refine rts _ rfl (opD_lss lz (ev_const _ _)) ?_
  refine rts _ rfl (opD_move lz) ?_
  refine rtg _ rfl lz (fun hg1_4_1 => opD_fieldAddr fo86_2_W6B (ls rfl (ls rfl (ls rfl (ls rfl oz))))) ?_
  refine rtg _ rfl (ls rfl lz) (fun hg1_5_2 => opD_load_one ag3_W6B (lz.trans (pif_pos hg1_5_2)) (loc_getN rfl rfl) rfl) ?_
  refine rtg _ rfl (ls rfl (ls rfl lz)) (fun hg1_6_3 => opD_gtr (lz.trans (pif_pos hg1_6_3)) (ev_const _ _)) ?_
  refine rts _ rfl (opD_or (ls rfl (ls rfl (ls rfl lz))) lz) ?_
  refine rts _ rfl (opD_move lz) ?_
  refine rtg _ rfl lz (fun hg1_9_4 => opD_fieldAddr fo86_0_W6B (ls rfl (ls rfl (ls rfl (ls rfl (ls rfl (ls rfl (ls rfl (ls rfl (ls rfl oz)))))))))) ?_
  refine rtg _ rfl (ls rfl lz) (fun hg1_10_5 => opD_load_one ag56_W6B (lz.trans (pif_pos hg1_10_5)) (loc_getN rfl rfl) rfl) ?_
  refine rtg _ rfl (ls rfl (ls rfl lz)) (fun hg1_11_6 => opD_gtr (lz.trans (pif_pos hg1_11_6)) (ev_const _ _)) ?_
  refine rts _ rfl (opD_or (ls rfl (ls rfl (ls rfl lz))) lz) ?_
  refine rts _ rfl (opD_move lz) ?_
  refine rtg _ rfl lz (fun hg1_14_7 => opD_fieldAddr fo86_1_W6B (ls rfl (ls rfl (ls rfl (ls rfl (ls rfl (ls rfl (ls rfl (ls rfl (ls rfl (ls rfl (ls rfl (ls rfl (ls rfl (ls rfl oz))))))))))))))) ?_
  refine rtg _ rfl (ls rfl lz) (fun hg1_15_8 => opD_load_one ag56_W6B (lz.trans (pif_pos hg1_15_8)) (loc_getN rfl rfl) rfl) ?_
  refine rtg _ rfl (ls rfl (ls rfl lz)) (fun hg1_16_9 => opD_gtr (lz.trans (pif_pos hg1_16_9)) (ev_const _ _)) ?_
  refine rts _ rfl (opD_or (ls rfl (ls rfl (ls rfl lz))) lz) ?_
  refine rts _ rfl (opD_move lz) ?_
  refine rtg _ rfl lz (fun hg1_19_10 => opD_fieldAddr fo86_4_W6B (ls rfl (ls rfl (ls rfl (ls rfl (ls rfl (ls rfl (ls rfl (ls rfl (ls rfl (ls rfl (ls rfl (ls rfl (ls rfl (ls rfl (ls rfl (ls rfl (ls rfl (ls rfl (ls rfl oz)))))))))))))))))))) ?_
  refine rtg _ rfl (ls rfl lz) (fun hg1_20_11 => opD_load_aggX ag84_W6B sz84_W6B (lz.trans (pif_pos hg1_20_11)) (loc_getN rfl rfl) (by rw [kDir_len]; decide) (kDir_w_M _)) ?_
  replace h0 := bnd_some h0
  obtain ⟨x_1, hx_1, h0⟩ := h0
  refine rtg _ rfl (ls rfl (ls rfl lz)) (fun hg1_21_12 => opD_pure ht99_W6B (c_mCheck (gif_some hx_1 hg1_21_12)) ⟨le_of_eq (lz.trans (pif_pos hg1_21_12)), trivial⟩) ?_
  refine rtg _ rfl (ls rfl (ls rfl (ls rfl lz))) (fun hg1_22_13 => opD_bin (lz.trans (pif_pos hg1_22_13)) (ev_const _ _) (fun w => errV_guard _ w _) (fun w => errV_beq _ w)) ?_
  refine rts _ rfl (opD_or (ls rfl (ls rfl (ls rfl (ls rfl lz)))) lz) ?_
  refine .nil ?_
  refine aw_keep [(1, _), (29, _)] ⟨lg (ls rfl (ls rfl (ls rfl (ls rfl (ls rfl (ls rfl (ls rfl (ls rfl (ls rfl (ls rfl (ls rfl (ls rfl (ls rfl (ls rfl (ls rfl (ls rfl (ls rfl (ls rfl (ls rfl (ls rfl (ls rfl (ls rfl (ls rfl (ls rfl oz)))))))))))))))))))))))), lg lz, trivial⟩ ?_
  refine aw_cond _ (os rfl oz) (fun hc => ?_) (fun hc => ?_)
  · skip
    replace h0 := ifb_t h0 hc
    clear hc
    refine aw_seq ?_
    refine aw_region (by decide) ?_
    refine rts _ rfl (opD_ple (q := pl (errV (some 1))) rfl (opD_makeInterface_pl cc145_W6B (ev_const _ _))) ?_
    refine rts _ rfl (opD_assign lz) ?_
    refine .nil ?_
    refine aw_keep [(2, _)] ⟨lg lz, trivial⟩ ?_
    refine aw_ret ?_
    obtain rfl := some_of h0
    exact done_ext (.inr rfl) ((res_one rfl (it_tmp oz)).le zLr) zPb
  · skip
    replace h0 := ifb_f h0 hc
    clear hc
    refine aw_skip ?_
    refine aw_keep [(1, _)] ⟨lg oz, trivial⟩ ?_
    refine aw_seq ?_
    refine aw_region (by decide) ?_
    refine rts _ rfl (opD_makeMapFN (K := KM_seen) rfl (by first | exact List.length_nil | (simp only [List.length_cons, List.length_nil, Nat.zero_add, Nat.reduceAdd] <;> rfl)) (by simp only [znz] <;> rfl)) ?_
    refine rts _ rfl (opD_assign lz) ?_
    refine .nil ?_
    refine aw_keep [(1, _), (3, _)] ⟨lg (ls rfl (ls rfl oz)), lg lz, trivial⟩ ?_
    refine aw_seq ?_
    refine aw_seq ?_
    refine aw_region (by decide) ?_
    refine rts _ rfl (opD_fieldAddr fo86_3_W6B oz) ?_
    refine rts _ rfl (opD_load_aggX ag82_W6B sz82_W6B lz (loc_getN rfl rfl) (by rw [kDir_len]; decide) (kDir_w_L _)) ?_
    refine rts _ rfl (opD_move (ev_const _ _)) ?_
    refine .nil ?_
    refine aw_keep [(1, _), (3, _), (33, _), (34, _)] ⟨lg (ls rfl (ls rfl (ls rfl oz))), lg (ls rfl (ls rfl (ls rfl (os rfl oz)))), lg (ls rfl lz), lg lz, trivial⟩ ?_
    replace h0 := bnd_some h0
    obtain ⟨z_2, hz_2, h0⟩ := h0
    refine aw_mid (fun e st => ∃ v : (Int → Option Bool), Holds e [(1, ptr (s.boxes.length + 0) 0)] ∧ st = s.ext [⟨86, (kDir.cs p0)⟩, ⟨HOT, [mpf KM_seen v]⟩] [] ∧ (.inr v) = z_2) ?_ ?_
    · skip
      refine aw_wkN rfl 2 0 rfl rfl ?_
      refine aw_block ?_
      refine aw_loop (fun n e st => ∃ v : Int × (Int → Option Bool), Holds e [(1, ptr (s.boxes.length + 0) 0), (3, mref (s.boxes.length + 1)), (33, agg (flat kTenant (nrm 16 (default : Tenant) p0.L))), (34, pl (.int .i64 v.1))] ∧ st = s.ext [⟨86, (kDir.cs p0)⟩, ⟨HOT, [mpf KM_seen v.2]⟩] [] ∧ lp (F_dCheck_b0 fl p0) n v = some z_2) fl ⟨(0, (fnil : (Int → Option Bool))), ⟨le_of_eq (eg oz), le_of_eq (eg (os rfl oz)), le_of_eq (eg (os rfl (os rfl oz))), le_of_eq (eg (os rfl (os rfl (os rfl oz)))), trivial⟩, rfl, hz_2⟩ ?_
      rintro n e st ⟨t_3, hH, rfl, hz_2⟩
      replace hz_2 := lp_some hz_2
      obtain ⟨m_z_4, z_4, rfl, hz_4, hz_2⟩ := hz_2
      unfold F_dCheck_b0 at hz_4
      refine aw_keep _ hH ?_
      refine aw_wkN rfl 2 0 rfl rfl ?_
      refine aw_seq ?_
      refine aw_region (by decide) ?_
      refine rts _ rfl (opD_lss (os rfl (os rfl (os rfl oz))) (ev_const _ _)) ?_
      refine .nil ?_
      refine aw_keep [(1, _), (3, _), (33, _), (34, _), (35, _)] ⟨lg (ls rfl oz), lg (ls rfl (os rfl oz)), lg (ls rfl (os rfl (os rfl oz))), lg (ls rfl (os rfl (os rfl (os rfl oz)))), lg lz, trivial⟩ ?_
      refine aw_seq ?_
      refine aw_cond _ (os rfl (os rfl (os rfl (os rfl oz)))) (fun hc => ?_) (fun hc => ?_)
      · skip
        replace hz_4 := ifb_t hz_4 hc
        clear hc
        refine aw_skip ?_
        refine aw_keep [(1, _), (3, _), (33, _), (34, _)] ⟨lg oz, lg (os rfl oz), lg (os rfl (os rfl oz)), lg (os rfl (os rfl (os rfl oz))), trivial⟩ ?_
        refine aw_seq ?_
        replace hz_4 := bnd_some hz_4
        obtain ⟨z_5, hz_5, hz_4⟩ := hz_4
        refine aw_mid (fun e st => ∃ v : (Int → Option Bool), Holds e [(1, ptr (s.boxes.length + 0) 0), (3, mref (s.boxes.length + 1)), (33, agg (flat kTenant (nrm 16 (default : Tenant) p0.L))), (34, pl (.int .i64 t_3.1))] ∧ st = s.ext [⟨86, (kDir.cs p0)⟩, ⟨HOT, [mpf KM_seen v]⟩] [] ∧ (.inr v) = z_5) ?_ ?_
        · skip
          refine aw_wkN rfl 2 0 rfl rfl ?_
          refine aw_block ?_
          refine aw_seq ?_
          refine aw_region (by decide) ?_
          refine rts _ rfl (opD_move (os rfl (os rfl (os rfl oz)))) ?_
          replace hz_5 := grd_some hz_5
          obtain ⟨hg_56, hz_5⟩ := hz_5
          replace hz_5 := ixb_some hz_5
          obtain ⟨x_6, hx_6, _, hz_5⟩ := hz_5
          refine rts _ rfl (opD_index_arrA (k := kTenant) (i := t_3.1.toNat) (y := x_6) Tryd.underlying82 ag81_W6B sz81_W6B (ls rfl (os rfl (os rfl oz))) (ls rfl (os rfl (os rfl (os rfl oz)))) hg_56.eq hg_56.2 hx_6) ?_
          refine rts _ rfl (allocN rfl zt81_W6B (by first | exact List.length_nil | (simp only [List.length_cons, List.length_nil, Nat.zero_add, Nat.reduceAdd] <;> rfl)) (by simp only [znz] <;> rfl)) ?_
          refine rts _ rfl (opD_assign (ls rfl (ls rfl lz))) ?_
          refine rts _ rfl (storeAN rfl sz81_W6B (ls rfl lz) (ls rfl (ls rfl lz)) (ones_cons (one_pl rfl) (ones_cons (one_pl rfl) (ones_cons (one_sl _ _ _ _) ones_nil))) rfl rfl (zNb rfl) (List.cons_ne_nil _ _) (zbc zPb (zbc zPb (zbc (sl_b kb_Stx) bnd_nil))) (by simp only [znz] <;> rfl) (by simp only [znz] <;> rfl)) ?_
          refine .nil ?_
          refine aw_keep [(1, _), (3, _), (4, _), (5, _), (33, _), (34, _)] ⟨lg (lx (ls rfl (ls rfl (ls rfl (ls rfl oz))))), lg (lx (ls rfl (ls rfl (ls rfl (ls rfl (os rfl oz)))))), lg (lx lz), lg (lx (ls rfl lz)), lg (lx (ls rfl (ls rfl (ls rfl (ls rfl (os rfl (os rfl oz))))))), lg (lx (ls rfl (ls rfl (ls rfl (ls rfl (os rfl (os rfl (os rfl oz)))))))), trivial⟩ ?_
          refine aw_seq ?_
          refine aw_seq ?_
          refine aw_region (by decide) ?_
          refine rts _ rfl (opD_load_aggX (qs := [_, _, _]) ag81_W6B sz81_W6B (os rfl (os rfl (os rfl oz))) (loc_getN rfl rfl) (zNb rfl) rfl) ?_
          replace hz_5 := bnd_some hz_5
          obtain ⟨x_7, hx_7, hz_5⟩ := hz_5
          refine rts _ rfl (opD_pure ht91_W6B (c_tnone hx_7) ⟨(le_of_eq lz).trans (agg_le ⟨zLr, zLr, zLr, trivial⟩), trivial⟩) ?_
          refine .nil ?_
          refine aw_keep [(1, _), (3, _), (4, _), (5, _), (33, _), (34, _), (39, _)] ⟨lg (ls rfl (ls rfl oz)), lg (ls rfl (ls rfl (os rfl oz))), lg (ls rfl (ls rfl (os rfl (os rfl oz)))), lg (ls rfl (ls rfl (os rfl (os rfl (os rfl oz))))), lg (ls rfl (ls rfl (os rfl (os rfl (os rfl (os rfl oz)))))), lg (ls rfl (ls rfl (os rfl (os rfl (os rfl (os rfl (os rfl oz))))))), lg lz, trivial⟩ ?_
          refine aw_cond _ (os rfl (os rfl (os rfl (os rfl (os rfl (os rfl oz)))))) (fun hc => ?_) (fun hc => ?_)
          · skip
            replace hz_5 := ifb_t hz_5 hc
            clear hc
            refine aw_seq ?_
            refine aw_seq ?_
            refine aw_region (by decide) ?_
            refine rts _ rfl (opD_move (os rfl (os rfl oz))) ?_
            refine rts _ rfl (opD_fieldAddr fo86_4_W6B (ls rfl oz)) ?_
            replace hz_5 := grd_some hz_5
            obtain ⟨hg_57, hz_5⟩ := hz_5
            refine rts _ rfl (opD_indexAddr_arr (i := t_3.1.toNat) Tryd.underlying84 sz77_W6B lz (ls rfl lz) hg_57.eq hg_57.2) ?_
            refine rts _ rfl (opD_load_one ag77_W6B lz (loc_getN rfl rfl) ((kDir_e_M _ (j := 0) hg_57.2 (by decide)).trans rfl)) ?_
            refine rts _ rfl (opD_neq lz (ev_const _ _)) ?_
            refine .nil ?_
            refine aw_keep [(1, _), (3, _), (33, _), (34, _), (44, _)] ⟨lg (ls rfl (ls rfl (ls rfl (ls rfl (ls rfl oz))))), lg (ls rfl (ls rfl (ls rfl (ls rfl (ls rfl (os rfl oz)))))), lg (ls rfl (ls rfl (ls rfl (ls rfl (ls rfl (os rfl (os rfl (os rfl (os rfl oz))))))))), lg (ls rfl (ls rfl (ls rfl (ls rfl (ls rfl (os rfl (os rfl (os rfl (os rfl (os rfl oz)))))))))), lg lz, trivial⟩ ?_
            refine aw_cond _ (os rfl (os rfl (os rfl (os rfl oz)))) (fun hc => ?_) (fun hc => ?_)
            · skip
              replace hz_5 := ifb_t hz_5 hc
              clear hc
              refine aw_seq ?_
              refine aw_region (by decide) ?_
              refine rts _ rfl (opD_ple (q := pl (errV (some 1))) rfl (opD_makeInterface_pl cc145_W6B (ev_const _ _))) ?_
              refine rts _ rfl (opD_assign lz) ?_
              refine .nil ?_
              refine aw_keep [(2, _)] ⟨lg lz, trivial⟩ ?_
              refine aw_ret ?_
              obtain rfl := some_of hz_5
              replace hz_4 := ocs_l hz_4
              obtain rfl := some_of hz_4
              replace hz_2 := ocs_r hz_2
              obtain rfl := some_of hz_2
              replace h0 := ocs_l h0
              refine wk_no ?_
              refine wk_no ?_
              refine wk_no ?_
              obtain rfl := some_of h0
              exact done_ext (.inr rfl) ((res_one rfl (it_tmp oz)).le zLr) zPb
            · skip
              replace hz_5 := ifb_f hz_5 hc
              clear hc
              refine aw_skip ?_
              refine aw_keep [(1, _), (3, _), (33, _), (34, _)] ⟨lg oz, lg (os rfl oz), lg (os rfl (os rfl oz)), lg (os rfl (os rfl (os rfl oz))), trivial⟩ ?_
              refine aw_exit ?_
              refine wk_yesN rfl (l := [(1, ptr (s.boxes.length + 0) 0), (3, mref (s.boxes.length + 1)), (33, agg (flat kTenant (nrm 16 (default : Tenant) p0.L))), (34, pl (.int .i64 t_3.1))]) (bs' := [⟨86, (kDir.cs p0)⟩, ⟨HOT, [mpf KM_seen t_3.2]⟩]) ⟨le_of_eq (eg oz), le_of_eq (eg (os rfl oz)), le_of_eq (eg (os rfl (os rfl oz))), le_of_eq (eg (os rfl (os rfl (os rfl oz)))), trivial⟩ (zbc (ptr_bnd _ (by first | omega | (simp only [List.length_append, List.length_cons, List.length_nil]; omega))) (zbc (mref_bnd _ (by first | omega | (simp only [List.length_append, List.length_cons, List.length_nil]; omega))) (zbc (agg_bnd (flatKB kb_Tenant)) (zbc zPb bnd_nil)))) (zNb rfl) (by simp only [znz] <;> rfl) (bxle_same (bxle_same bxle_nil)) rfl (by simp only [znz] <;> rfl) (bl_cons (kb_Dir _ _ _) (bl_cons (zbc ((mpf_bnd _ _) _ _) bnd_nil) bl_nil)) ?_
              exact ⟨t_3.2, ⟨le_of_eq (eg oz), le_of_eq (eg (os rfl oz)), le_of_eq (eg (os rfl (os rfl oz))), le_of_eq (eg (os rfl (os rfl (os rfl oz)))), trivial⟩, rfl, some_of hz_5⟩
          · skip
            replace hz_5 := ifb_f hz_5 hc
            clear hc
            refine aw_skip ?_
            refine aw_keep [(1, _), (3, _), (5, _), (33, _), (34, _)] ⟨lg oz, lg (os rfl oz), lg (os rfl (os rfl (os rfl oz))), lg (os rfl (os rfl (os rfl (os rfl oz)))), lg (os rfl (os rfl (os rfl (os rfl (os rfl oz))))), trivial⟩ ?_
            refine aw_seq ?_
            refine aw_seq ?_
            refine aw_region (by decide) ?_
            refine rts _ rfl (opD_load_aggX ag86_W6B sz86_W6B oz (loc_getN rfl rfl) (by rw [kDir_len]; exact Nat.le_refl _) (kDir_full _)) ?_
            refine rts _ rfl (opD_load_aggX (qs := [_, _, _]) ag81_W6B sz81_W6B (ls rfl (os rfl (os rfl oz))) (loc_getN rfl rfl) (zNb rfl) rfl) ?_
            replace hz_5 := bnd_some hz_5
            obtain ⟨x_8, hx_8, hz_5⟩ := hz_5
            refine rts _ rfl (opD_pure ht100_W6B (c_dmay hx_8) ⟨le_of_eq (ls rfl lz), (le_of_eq lz).trans (agg_le ⟨zLr, zLr, zLr, trivial⟩), trivial⟩) ?_
            refine rts _ rfl (opD_not lz) ?_
            refine rts _ rfl (opD_move lz) ?_
            refine rtg _ rfl lz (fun hg10_5_58 => opD_move (ls rfl (ls rfl (ls rfl (ls rfl (ls rfl (os rfl oz))))))) ?_
            refine rtg _ rfl (ls rfl lz) (fun hg10_6_59 => opD_fieldAddr fo81_0_W6B (ls rfl (ls rfl (ls rfl (ls rfl (ls rfl (ls rfl (os rfl (os rfl oz))))))))) ?_
            refine rtg _ rfl (ls rfl (ls rfl lz)) (fun hg10_7_60 => opD_load_one ag56_W6B (lz.trans (pif_pos hg10_7_60)) (loc_getN rfl rfl) rfl) ?_
            refine rtg _ rfl (ls rfl (ls rfl (ls rfl lz))) (fun hg10_8_61 => opD_le (opD_lookupG (K := KM_seen) (k := x_6.ID) (z := KM_seen.ev false) false Tryd.underlying180 KM_seen_kl KM_seen_z ((ls rfl (ls rfl lz)).trans (pif_pos hg10_8_61)) ((le_of_eq (lz.trans (pif_pos hg10_8_61))).trans (KM_seen_kle _)) (loc_getN rfl rfl) zLr) (KM_seen_lk1 rfl)) ?_
            refine rts _ rfl (opD_or (ls rfl (ls rfl (ls rfl (ls rfl lz)))) lz) ?_
            refine .nil ?_
            refine aw_keep [(1, _), (3, _), (5, _), (33, _), (34, _), (55, _)] ⟨lg (ls rfl (ls rfl (ls rfl (ls rfl (ls rfl (ls rfl (ls rfl (ls rfl (ls rfl (ls rfl oz)))))))))), lg (ls rfl (ls rfl (ls rfl (ls rfl (ls rfl (ls rfl (ls rfl (ls rfl (ls rfl (ls rfl (os rfl oz))))))))))), lg (ls rfl (ls rfl (ls rfl (ls rfl (ls rfl (ls rfl (ls rfl (ls rfl (ls rfl (ls rfl (os rfl (os rfl oz)))))))))))), lg (ls rfl (ls rfl (ls rfl (ls rfl (ls rfl (ls rfl (ls rfl (ls rfl (ls rfl (ls rfl (os rfl (os rfl (os rfl oz))))))))))))), lg (ls rfl (ls rfl (ls rfl (ls rfl (ls rfl (ls rfl (ls rfl (ls rfl (ls rfl (ls rfl (os rfl (os rfl (os rfl (os rfl oz)))))))))))))), lg lz, trivial⟩ ?_
            refine aw_cond _ (os rfl (os rfl (os rfl (os rfl (os rfl oz))))) (fun hc => ?_) (fun hc => ?_)
            · skip
              replace hz_5 := ifb_t hz_5 hc
              clear hc
              refine aw_seq ?_
              refine aw_region (by decide) ?_
              refine rts _ rfl (opD_ple (q := pl (errV (some 1))) rfl (opD_makeInterface_pl cc145_W6B (ev_const _ _))) ?_
              refine rts _ rfl (opD_assign lz) ?_
              refine .nil ?_
              refine aw_keep [(2, _)] ⟨lg lz, trivial⟩ ?_
              refine aw_ret ?_
              obtain rfl := some_of hz_5
              replace hz_4 := ocs_l hz_4
              obtain rfl := some_of hz_4
              replace hz_2 := ocs_r hz_2
              obtain rfl := some_of hz_2
              replace h0 := ocs_l h0
              refine wk_no ?_
              refine wk_no ?_
              refine wk_no ?_
              obtain rfl := some_of h0
              exact done_ext (.inr rfl) ((res_one rfl (it_tmp oz)).le zLr) zPb
            · skip
              replace hz_5 := ifb_f hz_5 hc
              clear hc
              refine aw_skip ?_
              refine aw_keep [(1, _), (3, _), (5, _), (33, _), (34, _)] ⟨lg oz, lg (os rfl oz), lg (os rfl (os rfl oz)), lg (os rfl (os rfl (os rfl oz))), lg (os rfl (os rfl (os rfl (os rfl oz)))), trivial⟩ ?_
              refine aw_region (by decide) ?_
              refine rts _ rfl (opD_move (os rfl oz)) ?_
              refine rts _ rfl (opD_fieldAddr fo81_0_W6B (ls rfl (os rfl (os rfl oz)))) ?_
              refine rts _ rfl (opD_load_one ag56_W6B lz (loc_getN rfl rfl) rfl) ?_
              refine rts _ rfl (opD_to (opD_mapUpdateG (K := KM_seen) (k := x_6.ID) (v := true) Tryd.underlying180 KM_seen_kl (ls rfl (ls rfl lz)) ((le_of_eq lz).trans (KM_seen_kle _)) ((le_of_eq (ev_const _ _)).trans (KM_seen_vle _)) (loc_getN rfl rfl) zLr) (ul_loc (k := 1) rfl rfl (by simp only [znz] <;> rfl))) ?_
              refine .nil ?_
              refine wk_yesN rfl (l := [(1, ptr (s.boxes.length + 0) 0), (3, mref (s.boxes.length + 1)), (33, agg (flat kTenant (nrm 16 (default : Tenant) p0.L))), (34, pl (.int .i64 t_3.1))]) (bs' := [⟨86, (kDir.cs p0)⟩, ⟨HOT, [mpf KM_seen (fset t_3.2 x_6.ID true)]⟩]) ⟨le_of_eq (eg (lx (ls rfl (ls rfl (ls rfl oz))))), le_of_eq (eg (lx (ls rfl (ls rfl (ls rfl (os rfl oz)))))), le_of_eq (eg (lx (ls rfl (ls rfl (ls rfl (os rfl (os rfl (os rfl oz)))))))), le_of_eq (eg (lx (ls rfl (ls rfl (ls rfl (os rfl (os rfl (os rfl (os rfl oz))))))))), trivial⟩ (zbc (ptr_bnd _ (by first | omega | (simp only [List.length_append, List.length_cons, List.length_nil]; omega))) (zbc (mref_bnd _ (by first | omega | (simp only [List.length_append, List.length_cons, List.length_nil]; omega))) (zbc (agg_bnd (flatKB kb_Tenant)) (zbc zPb bnd_nil)))) (zNb rfl) (by simp only [znz] <;> rfl) (bxle_same (bxle_same bxle_nil)) rfl (by simp only [znz] <;> rfl) (bl_cons (kb_Dir _ _ _) (bl_cons (zbc ((mpf_bnd _ _) _ _) bnd_nil) bl_nil)) ?_
              exact ⟨(fset t_3.2 x_6.ID true), ⟨le_of_eq (eg oz), le_of_eq (eg (os rfl oz)), le_of_eq (eg (os rfl (os rfl oz))), le_of_eq (eg (os rfl (os rfl (os rfl oz)))), trivial⟩, rfl, some_of hz_5⟩
        · rintro e st ⟨vz_5, hH, rfl, rfl⟩
          refine aw_keep _ hH ?_
          replace hz_4 := ocs_r hz_4
          refine aw_keep [(1, _), (3, _), (33, _), (34, _)] ⟨lg oz, lg (os rfl oz), lg (os rfl (os rfl oz)), lg (os rfl (os rfl (os rfl oz))), trivial⟩ ?_
          refine aw_region (by decide) ?_
          refine rts _ rfl (opD_add (os rfl (os rfl (os rfl oz))) (ev_const _ _) rfl) ?_
          refine rts _ rfl (opD_move lz) ?_
          refine .nil ?_
          obtain rfl := some_of hz_4
          replace hz_2 := ocs_l hz_2
          refine wk_yesN rfl (l := [(1, ptr (s.boxes.length + 0) 0), (3, mref (s.boxes.length + 1)), (33, agg (flat kTenant (nrm 16 (default : Tenant) p0.L))), (34, pl (.int .i64 (IntKind.i64.wrap (t_3.1 + 1))))]) (bs' := [⟨86, (kDir.cs p0)⟩, ⟨HOT, [mpf KM_seen vz_5]⟩]) ⟨le_of_eq (eg (ls rfl (ls rfl oz))), le_of_eq (eg (ls rfl (ls rfl (os rfl oz)))), le_of_eq (eg (ls rfl (ls rfl (os rfl (os rfl oz))))), le_of_eq (eg lz), trivial⟩ (zbc (ptr_bnd _ (by first | omega | (simp only [List.length_append, List.length_cons, List.length_nil]; omega))) (zbc (mref_bnd _ (by first | omega | (simp only [List.length_append, List.length_cons, List.length_nil]; omega))) (zbc (agg_bnd (flatKB kb_Tenant)) (zbc zPb bnd_nil)))) (zNb rfl) (by simp only [znz] <;> rfl) (bxle_same (bxle_same bxle_nil)) rfl (by simp only [znz] <;> rfl) (bl_cons (kb_Dir _ _ _) (bl_cons (zbc ((mpf_bnd _ _) _ _) bnd_nil) bl_nil)) ?_
          exact ⟨m_z_4, Nat.lt_succ_self _, (IntKind.i64.wrap (t_3.1 + 1), vz_5), ⟨le_of_eq (eg oz), le_of_eq (eg (os rfl oz)), le_of_eq (eg (os rfl (os rfl oz))), le_of_eq (eg (os rfl (os rfl (os rfl oz)))), trivial⟩, rfl, hz_2⟩
      · skip
        replace hz_4 := ifb_f hz_4 hc
        clear hc
        refine aw_exit ?_
        obtain rfl := some_of hz_4
        replace hz_2 := ocs_r hz_2
        refine wk_no ?_
        refine wk_yesN rfl (l := [(1, ptr (s.boxes.length + 0) 0)]) (bs' := [⟨86, (kDir.cs p0)⟩, ⟨HOT, [mpf KM_seen t_3.2]⟩]) ⟨le_of_eq (eg oz), trivial⟩ (zbc (ptr_bnd _ (by first | omega | (simp only [List.length_append, List.length_cons, List.length_nil]; omega))) bnd_nil) (zNb rfl) (by simp only [znz] <;> rfl) (bxle_same (bxle_same bxle_nil)) rfl (by simp only [znz] <;> rfl) (bl_cons (kb_Dir _ _ _) (bl_cons (zbc ((mpf_bnd _ _) _ _) bnd_nil) bl_nil)) ?_
        exact ⟨t_3.2, ⟨le_of_eq (eg oz), trivial⟩, rfl, some_of hz_2⟩
    · rintro e st ⟨vz_2, hH, rfl, rfl⟩
      refine aw_keep _ hH ?_
      replace h0 := ocs_r h0
      refine aw_keep [(1, _)] ⟨lg oz, trivial⟩ ?_
      refine aw_seq ?_
      refine aw_drawn [false, true, false, false, false, false] [[0], [0, 1], [0, 1], [0, 1], [1], [1]] mixed_W6B (by decide +kernel) ?_
      refine dtl _ (fun s' => s'.boxes[(s.boxes.length + 0)]? = some ⟨86, (kDir.cs p0)⟩) rfl (fun s' hs' => opD_load_aggX ag86_W6B sz86_W6B oz hs' (by rw [kDir_len]; exact Nat.le_refl _) (kDir_full _)) ?_
      replace h0 := bnd_some h0
      obtain ⟨x_9, hx_9, h0⟩ := h0
      refine dta _ rfl (opD_own1 ht101_W6B (c_dtaken hx_9) ⟨le_of_eq lz, trivial⟩ (by first | exact List.length_nil | (simp only [List.length_cons, List.length_nil, Nat.zero_add, Nat.reduceAdd] <;> rfl)) (by simp only [znz] <;> rfl)) ?_
      refine dtp _ rfl (fun s => opD_fieldAddr fo86_2_W6B (ls rfl (ls rfl oz))) ?_
      refine dtl _ (fun s' => s'.boxes[(s.boxes.length + 0)]? = some ⟨86, (kDir.cs p0)⟩) rfl (fun s' hs' => opD_load_one ag3_W6B lz hs' rfl) ?_
      replace h0 := bnd_some h0
      obtain ⟨x_10, hx_10, h0⟩ := h0
      refine dtp _ rfl (fun s => opD_pure ht49_W6B (c_xcheck hx_10) ⟨(le_of_eq (ls rfl (ls rfl lz))).trans (sl_any _ _ _ _), le_of_eq lz, trivial⟩) ?_
      refine dtp _ rfl (fun s => opD_assign lz) ?_
      refine .nil ?_
      dsimp only [List.nil_append, List.cons_append]
      refine ⟨rfl, ⟨⟨(by first | exact loc_getN rfl rfl | exact ⟨_, loc_getN rfl rfl⟩ ), trivial⟩, trivial, trivial, ⟨(by first | exact loc_getN rfl rfl | exact ⟨_, loc_getN rfl rfl⟩ ), (by first | exact loc_getN rfl rfl | exact ⟨_, loc_getN rfl rfl⟩ ), trivial⟩, trivial, trivial, trivial⟩, ?_⟩
      refine aw_keep [(2, _)] ⟨lg lz, trivial⟩ ?_
      refine aw_ret ?_
      obtain rfl := some_of h0
      exact done_ext (.inr rfl) ((res_one rfl (it_tmp oz)).le zLr) zPb

def F_dTaken (fl : Nat) (p0 : Dir) : Option ((List Stx)) :=
  bnd (F_dCheck fl p0) fun x_1 => ifb x_1.isSome (some []) (bnd (F_dtaken fl p0) fun x_2 => some x_2)
set_option maxRecDepth 100000 in
set_option maxHeartbeats 2000000 in
theorem c_dTaken {fl : Nat} {p0 : Dir} {R : (List Stx)} (h0 : F_dTaken fl p0 = some R) : Pure Tryd.prog 50 [agg (kDir.cs p0)] (sl kStx none none R) := by
  intro s
  unfold F_dTaken at h0
  refine ac_of_aw s.boxes.length s.fr.length Tryd.func50 rfl (by simp [Tryd.ntmps50]) ?_
  refine aw_ext0 ?_
  refine aw_keep [(0, _)] ⟨lg ez, trivial⟩ ?_
  refine aw_seq ?_
  refine aw_region (by decide) ?_
  refine rts _ rfl (boxAN (n := 0) rfl oz (kb_Dir _ _ _) (by first | exact List.length_nil | (simp only [List.length_cons, List.length_nil, Nat.zero_add, Nat.reduceAdd] <;> rfl)) (by simp only [znz] <;> rfl)) ?_
  refine rts _ rfl (opD_assign (ev_const _ _)) ?_
  refine .nil ?_
  refine aw_keep [(1, _)] ⟨lg (ls rfl lz), trivial⟩ ?_
  refine aw_seq ?_
  refine aw_seq ?_
  refine aw_region (by decide) ?_
  refine rts _ rfl (opD_load_aggX ag86_W6B sz86_W6B oz (loc_getN rfl rfl) (by rw [kDir_len]; exact Nat.le_refl _) (kDir_full _)) ?_
  replace h0 := bnd_some h0
  obtain ⟨x_1, hx_1, h0⟩ := h0
  refine rts _ rfl (opD_pure ht48_W6B (c_dCheck hx_1) ⟨le_of_eq lz, trivial⟩) ?_
  refine rts _ rfl (opD_bin lz (ev_const _ _) (fun w => errV_guard _ w _) (fun w => errV_beq _ w)) ?_
  refine .nil ?_
  refine aw_keep [(1, _), (5, _)] ⟨lg (ls rfl (ls rfl (ls rfl oz))), lg lz, trivial⟩ ?_
  refine aw_cond _ (os rfl oz) (fun hc => ?_) (fun hc => ?_)
  · skip
    replace h0 := ifb_t h0 hc
    clear hc
    refine aw_seq ?_
    refine aw_region (by decide) ?_
    refine rts _ rfl (opD_assign (ev_const _ _)) ?_
    refine .nil ?_
    refine aw_keep [(2, _)] ⟨lg lz, trivial⟩ ?_
    refine aw_ret ?_
    obtain rfl := some_of h0
    exact done_ext (.inr rfl) ((res_one rfl (it_tmp oz)).le (le_nil rfl)) (sl_b kb_Stx)
  · skip
    replace h0 := ifb_f h0 hc
    clear hc
    refine aw_skip ?_
    refine aw_keep [(1, _)] ⟨lg oz, trivial⟩ ?_
    refine aw_seq ?_
    refine aw_region (by decide) ?_
    refine rts _ rfl (opD_load_aggX ag86_W6B sz86_W6B oz (loc_getN rfl rfl) (by rw [kDir_len]; exact Nat.le_refl _) (kDir_full _)) ?_
    replace h0 := bnd_some h0
    obtain ⟨x_2, hx_2, h0⟩ := h0
    refine rts _ rfl (opD_own1 ht101_W6B (c_dtaken hx_2) ⟨le_of_eq lz, trivial⟩ (by first | exact List.length_nil | (simp only [List.length_cons, List.length_nil, Nat.zero_add, Nat.reduceAdd] <;> rfl)) (by simp only [znz] <;> rfl)) ?_
    refine rts _ rfl (opD_assign lz) ?_
    refine .nil ?_
    refine aw_keep [(2, _)] ⟨lg lz, trivial⟩ ?_
    refine aw_ret ?_
    obtain rfl := some_of h0
    exact done_ext (.inr rfl) ((res_one rfl (it_tmp oz)).le (sl_any _ _ _ _)) (sl_b kb_Stx)

theorem fz_Tenant : kTenant.Fz := fun x p hp => FzL.mem (ps := [pl (.int .u64 x.ID), pl (.int .u64 x.Gen), sl kStx none none x.Ext]) ⟨(pn_pl _).fz, (pn_pl _).fz, fz_sl fz_Stx, trivial⟩ p hp

def F_dPlace (fl : Nat) (p0 : Dir) (p1 : Int) : Option (Int × (Option Int)) :=
  bnd (F_dCheck fl p0) fun x_1 => ifb (x_1.isSome || (decide (p1 = 0))) (some (0, some 1)) (bnd (F_ixId fl (nrm 16 (default : Tenant) p0.L) p1) fun x_2 => ifb (decide (x_2 < 0)) (some (0, some 6)) (some (x_2, none)))
set_option maxRecDepth 100000 in
set_option maxHeartbeats 2000000 in
theorem c_dPlace {fl : Nat} {p0 : Dir} {p1 : Int} {R : Int × (Option Int)} (h0 : F_dPlace fl p0 p1 = some R) : Pure Tryd.prog 42 [agg (kDir.cs p0), pl (.int .u64 p1)] (tup [pl (.int .i64 R.1), pl (errV R.2)]) := by
  intro s
  unfold F_dPlace at h0
  refine ac_of_aw s.boxes.length s.fr.length Tryd.func42 rfl (by simp [Tryd.ntmps42]) ?_
  refine aw_ext0 ?_
  refine aw_keep [(0, _), (1, _)] ⟨lg ez, lg (es ez), trivial⟩ ?_
  refine aw_seq ?_
  refine aw_region (by decide) ?_
  refine rts _ rfl (boxAN (n := 0) rfl oz (kb_Dir _ _ _) (by first | exact List.length_nil | (simp only [List.length_cons, List.length_nil, Nat.zero_add, Nat.reduceAdd] <;> rfl)) (by simp only [znz] <;> rfl)) ?_
  refine rts _ rfl (boxON rfl (ls rfl (os rfl oz)) (one_pl rfl) zPb (by first | exact List.length_nil | (simp only [List.length_cons, List.length_nil, Nat.zero_add, Nat.reduceAdd] <;> rfl)) (by simp only [znz] <;> rfl)) ?_
  refine rts _ rfl (opD_assign (ev_const _ _)) ?_
  refine rts _ rfl (opD_assign (ev_const _ _)) ?_
  refine .nil ?_
  refine aw_keep [(2, _), (3, _)] ⟨lg (ls rfl (ls rfl (ls rfl lz))), lg (ls rfl (ls rfl lz)), trivial⟩ ?_
  refine aw_seq ?_
  refine aw_seq ?_
  refine aw_region (by decide) ?_
  refine rts _ rfl (opD_load_aggX ag86_W6B sz86_W6B oz (loc_getN rfl rfl) (by rw [kDir_len]; exact Nat.le_refl _) (kDir_full _)) ?_
  replace h0 := bnd_some h0
  obtain ⟨x_1, hx_1, h0⟩ := h0
  refine rts _ rfl (opD_pure ht48_W6B (c_dCheck hx_1) ⟨le_of_eq lz, trivial⟩) ?_
  refine rts _ rfl (opD_bin lz (ev_const _ _) (fun w => errV_guard _ w _) (fun w => errV_beq _ w)) ?_
  refine rts _ rfl (opD_move lz) ?_
  refine rtg _ rfl lz (fun hg1_4_1 => opD_load_one ag56_W6B (ls rfl (ls rfl (ls rfl (ls rfl (os rfl oz))))) (loc_getN rfl rfl) rfl) ?_
  refine rtg _ rfl (ls rfl lz) (fun hg1_5_2 => opD_eql (lz.trans (pif_pos hg1_5_2)) (ev_const _ _)) ?_
  refine rts _ rfl (opD_or (ls rfl (ls rfl lz)) lz) ?_
  refine .nil ?_
  refine aw_keep [(2, _), (3, _), (13, _)] ⟨lg (ls rfl (ls rfl (ls rfl (ls rfl (ls rfl (ls rfl (ls rfl oz))))))), lg (ls rfl (ls rfl (ls rfl (ls rfl (ls rfl (ls rfl (ls rfl (os rfl oz)))))))), lg lz, trivial⟩ ?_
  refine aw_cond _ (os rfl (os rfl oz)) (fun hc => ?_) (fun hc => ?_)
  · skip
    replace h0 := ifb_t h0 hc
    clear hc
    refine aw_seq ?_
    refine aw_region (by decide) ?_
    refine rts _ rfl (opD_ple (q := pl (errV (some 1))) rfl (opD_makeInterface_pl cc145_W6B (ev_const _ _))) ?_
    refine rts _ rfl (opD_assign (ev_const _ _)) ?_
    refine rts _ rfl (opD_assign (ls rfl lz)) ?_
    refine .nil ?_
    refine aw_keep [(4, _), (5, _)] ⟨lg (ls rfl lz), lg lz, trivial⟩ ?_
    refine aw_ret ?_
    obtain rfl := some_of h0
    exact done_ext (.inr rfl) ((res_list (rs := [_, _]) (ps := [_, _]) rfl rfl ⟨it_tmp oz, it_tmp (os rfl oz), trivial⟩).le (tup_le ⟨zLr, zLr, trivial⟩)) (tup_bnd (zbc zPb (zbc zPb bnd_nil)))
  · skip
    replace h0 := ifb_f h0 hc
    clear hc
    refine aw_skip ?_
    refine aw_keep [(2, _), (3, _)] ⟨lg oz, lg (os rfl oz), trivial⟩ ?_
    refine aw_seq ?_
    refine aw_region (by decide) ?_
    refine rts _ rfl (opD_fieldAddr fo86_3_W6B oz) ?_
    refine rts _ rfl (opD_sliceA Tryd.underlying82 sz81_W6B lz) ?_
    refine rts _ rfl (opD_makeFunc1 (ls rfl (ls rfl (os rfl oz)))) ?_
    replace h0 := bnd_some h0
    obtain ⟨x_2, hx_2, h0⟩ := h0
    refine rts _ rfl (opD_lend (ps := [asl (s.boxes.length + 0) 3 16, fnc 94 (ptr (s.boxes.length + 1) 0)]) ht90_W6B (c_ixId hx_2 SF) (pn_pl _) ⟨lent_asl (k := kTenant) fz_Tenant rfl (loc_getN rfl rfl) nrm_len (kDir_w_L _), lent_cap (k := kI .u64) (x := p1) (fz_I _) rfl (loc_getN rfl rfl) rfl, trivial⟩ ⟨le_of_eq (ls rfl lz), le_of_eq lz, trivial⟩) ?_
    refine rts _ rfl (opD_assign lz) ?_
    refine .nil ?_
    refine aw_keep [(6, _)] ⟨lg lz, trivial⟩ ?_
    refine aw_seq ?_
    refine aw_seq ?_
    refine aw_region (by decide) ?_
    refine rts _ rfl (opD_move oz) ?_
    refine rts _ rfl (opD_lss lz (ev_const _ _)) ?_
    refine .nil ?_
    refine aw_keep [(6, _), (20, _)] ⟨lg (ls rfl (ls rfl oz)), lg lz, trivial⟩ ?_
    refine aw_cond _ (os rfl oz) (fun hc => ?_) (fun hc => ?_)
    · skip
      replace h0 := ifb_t h0 hc
      clear hc
      refine aw_seq ?_
      refine aw_region (by decide) ?_
      refine rts _ rfl (opD_ple (q := pl (errV (some 6))) rfl (opD_makeInterface_pl cc145_W6B (ev_const _ _))) ?_
      refine rts _ rfl (opD_assign (ev_const _ _)) ?_
      refine rts _ rfl (opD_assign (ls rfl lz)) ?_
      refine .nil ?_
      refine aw_keep [(4, _), (5, _)] ⟨lg (ls rfl lz), lg lz, trivial⟩ ?_
      refine aw_ret ?_
      obtain rfl := some_of h0
      exact done_ext (.inr rfl) ((res_list (rs := [_, _]) (ps := [_, _]) rfl rfl ⟨it_tmp oz, it_tmp (os rfl oz), trivial⟩).le (tup_le ⟨zLr, zLr, trivial⟩)) (tup_bnd (zbc zPb (zbc zPb bnd_nil)))
    · skip
      replace h0 := ifb_f h0 hc
      clear hc
      refine aw_skip ?_
      refine aw_keep [(6, _)] ⟨lg oz, trivial⟩ ?_
      refine aw_seq ?_
      refine aw_region (by decide) ?_
      refine rts _ rfl (opD_move oz) ?_
      refine rts _ rfl (opD_assign lz) ?_
      refine rts _ rfl (opD_assign (ev_const _ _)) ?_
      refine .nil ?_
      refine aw_keep [(4, _), (5, _)] ⟨lg (ls rfl lz), lg lz, trivial⟩ ?_
      refine aw_ret ?_
      obtain rfl := some_of h0
      exact done_ext (.inr rfl) ((res_list (rs := [_, _]) (ps := [_, _]) rfl rfl ⟨it_tmp oz, it_tmp (os rfl oz), trivial⟩).le (tup_le ⟨zLr, zLr, trivial⟩)) (tup_bnd (zbc zPb (zbc zPb bnd_nil)))

def F_dSees (fl : Nat) (p0 : Dir) (p1 : Int) (p2 : Int) : Option (Bool) :=
  bnd (F_dPlace fl p0 p1) fun x_1 => ifb x_1.2.isSome (some false) (bnd (F_dPlace fl p0 p2) fun x_2 => bnd (gif (x_2.2.isNone == true) (F_mSees fl (nrm 16 (0 : Int) p0.M) x_1.1 x_2.1)) fun x_3 => some (x_2.2.isNone && x_3))
set_option maxRecDepth 100000 in
set_option maxHeartbeats 2000000 in
theorem c_dSees {fl : Nat} {p0 : Dir} {p1 : Int} {p2 : Int} {R : Bool} (h0 : F_dSees fl p0 p1 p2 = some R) : Pure Tryd.prog 44 [agg (kDir.cs p0), pl (.int .u64 p1), pl (.int .u64 p2)] (pl (.bool R)) := by
  intro s
  unfold F_dSees at h0
  refine ac_of_aw s.boxes.length s.fr.length Tryd.func44 rfl (by simp [Tryd.ntmps44]) ?_
  refine aw_ext0 ?_
  refine aw_keep [(0, _), (1, _), (2, _)] ⟨lg ez, lg (es ez), lg (es (es ez)), trivial⟩ ?_
  refine aw_seq ?_
  refine aw_region (by decide) ?_
  refine rts _ rfl (boxAN (n := 0) rfl oz (kb_Dir _ _ _) (by first | exact List.length_nil | (simp only [List.length_cons, List.length_nil, Nat.zero_add, Nat.reduceAdd] <;> rfl)) (by simp only [znz] <;> rfl)) ?_
  refine rts _ rfl (opD_assign (ev_const _ _)) ?_
  refine .nil ?_
  refine aw_keep [(1, _), (2, _), (3, _)] ⟨lg (ls rfl (ls rfl (os rfl oz))), lg (ls rfl (ls rfl (os rfl (os rfl oz)))), lg (ls rfl lz), trivial⟩ ?_
  refine aw_seq ?_
  refine aw_region (by decide) ?_
  refine rts _ rfl (opD_load_aggX ag86_W6B sz86_W6B (os rfl (os rfl oz)) (loc_getN rfl rfl) (by rw [kDir_len]; exact Nat.le_refl _) (kDir_full _)) ?_
  refine rts _ rfl (opD_move (ls rfl oz)) ?_
  replace h0 := bnd_some h0
  obtain ⟨x_1, hx_1, h0⟩ := h0
  refine rts _ rfl (opD_pure ht42_W6B (c_dPlace hx_1) ⟨le_of_eq (ls rfl lz), le_of_eq lz, trivial⟩) ?_
  refine rts _ rfl (opD_move lz) ?_
  refine rts _ rfl (opD_extract lz rfl) ?_
  refine rts _ rfl (opD_extract (ls rfl lz) rfl) ?_
  refine rts _ rfl (opD_assign (ls rfl lz)) ?_
  refine rts _ rfl (opD_assign (ls rfl lz)) ?_
  refine .nil ?_
  refine aw_keep [(2, _), (3, _), (7, _), (8, _)] ⟨lg (ls rfl (ls rfl (ls rfl (ls rfl (ls rfl (ls rfl (ls rfl (ls rfl (os rfl oz))))))))), lg (ls rfl (ls rfl (ls rfl (ls rfl (ls rfl (ls rfl (ls rfl (ls rfl (os rfl (os rfl oz)))))))))), lg (ls rfl lz), lg lz, trivial⟩ ?_
  refine aw_seq ?_
  refine aw_seq ?_
  refine aw_region (by decide) ?_
  refine rts _ rfl (opD_move (os rfl (os rfl (os rfl oz)))) ?_
  refine rts _ rfl (opD_bin lz (ev_const _ _) (fun w => errV_guard _ w _) (fun w => errV_beq _ w)) ?_
  refine .nil ?_
  refine aw_keep [(2, _), (3, _), (7, _), (17, _)] ⟨lg (ls rfl (ls rfl oz)), lg (ls rfl (ls rfl (os rfl oz))), lg (ls rfl (ls rfl (os rfl (os rfl oz)))), lg lz, trivial⟩ ?_
  refine aw_cond _ (os rfl (os rfl (os rfl oz))) (fun hc => ?_) (fun hc => ?_)
  · skip
    replace h0 := ifb_t h0 hc
    clear hc
    refine aw_seq ?_
    refine aw_region (by decide) ?_
    refine rts _ rfl (opD_assign (ev_const _ _)) ?_
    refine .nil ?_
    refine aw_keep [(6, _)] ⟨lg lz, trivial⟩ ?_
    refine aw_ret ?_
    obtain rfl := some_of h0
    exact done_ext (.inr rfl) ((res_one rfl (it_tmp oz)).le zLr) zPb
  · skip
    replace h0 := ifb_f h0 hc
    clear hc
    refine aw_skip ?_
    refine aw_keep [(2, _), (3, _), (7, _)] ⟨lg oz, lg (os rfl oz), lg (os rfl (os rfl oz)), trivial⟩ ?_
    refine aw_seq ?_
    refine aw_region (by decide) ?_
    refine rts _ rfl (opD_load_aggX ag86_W6B sz86_W6B (os rfl oz) (loc_getN rfl rfl) (by rw [kDir_len]; exact Nat.le_refl _) (kDir_full _)) ?_
    refine rts _ rfl (opD_move (ls rfl oz)) ?_
    replace h0 := bnd_some h0
    obtain ⟨x_2, hx_2, h0⟩ := h0
    refine rts _ rfl (opD_pure ht42_W6B (c_dPlace hx_2) ⟨le_of_eq (ls rfl lz), le_of_eq lz, trivial⟩) ?_
    refine rts _ rfl (opD_move lz) ?_
    refine rts _ rfl (opD_extract lz rfl) ?_
    refine rts _ rfl (opD_extract (ls rfl lz) rfl) ?_
    refine rts _ rfl (opD_assign (ls rfl lz)) ?_
    refine rts _ rfl (opD_assign (ls rfl lz)) ?_
    refine .nil ?_
    refine aw_keep [(3, _), (7, _), (8, _), (9, _)] ⟨lg (ls rfl (ls rfl (ls rfl (ls rfl (ls rfl (ls rfl (ls rfl (ls rfl (os rfl oz))))))))), lg (ls rfl (ls rfl (ls rfl (ls rfl (ls rfl (ls rfl (ls rfl (ls rfl (os rfl (os rfl oz)))))))))), lg lz, lg (ls rfl lz), trivial⟩ ?_
    refine aw_seq ?_
    refine aw_region (by decide) ?_
    refine rts _ rfl (opD_move (os rfl (os rfl oz))) ?_
    refine rts _ rfl (opD_bin lz (ev_const _ _) (fun w => errV_geql _ w _) (fun w => errV_eql _ w)) ?_
    refine rts _ rfl (opD_move lz) ?_
    refine rtg _ rfl lz (fun hg5_3_1 => opD_fieldAddr fo86_4_W6B (ls rfl (ls rfl (ls rfl oz)))) ?_
    refine rtg _ rfl (ls rfl lz) (fun hg5_4_2 => opD_load_aggX ag84_W6B sz84_W6B (lz.trans (pif_pos hg5_4_2)) (loc_getN rfl rfl) (by rw [kDir_len]; decide) (kDir_w_M _)) ?_
    refine rtg _ rfl (ls rfl (ls rfl lz)) (fun hg5_5_3 => opD_move (ls rfl (ls rfl (ls rfl (ls rfl (ls rfl (os rfl oz))))))) ?_
    refine rtg _ rfl (ls rfl (ls rfl (ls rfl lz))) (fun hg5_6_4 => opD_move (ls rfl (ls rfl (ls rfl (ls rfl (ls rfl (ls rfl (os rfl (os rfl (os rfl oz)))))))))) ?_
    replace h0 := bnd_some h0
    obtain ⟨x_3, hx_3, h0⟩ := h0
    refine rtg _ rfl (ls rfl (ls rfl (ls rfl (ls rfl lz)))) (fun hg5_7_5 => opD_pure ht95_W6B (c_mSees (gif_some hx_3 hg5_7_5)) ⟨le_of_eq ((ls rfl (ls rfl lz)).trans (pif_pos hg5_7_5)), le_of_eq ((ls rfl lz).trans (pif_pos hg5_7_5)), le_of_eq (lz.trans (pif_pos hg5_7_5)), trivial⟩) ?_
    refine rts _ rfl (opD_and (ls rfl (ls rfl (ls rfl (ls rfl (ls rfl lz))))) lz) ?_
    refine rts _ rfl (opD_assign lz) ?_
    refine .nil ?_
    refine aw_keep [(6, _)] ⟨lg lz, trivial⟩ ?_
    refine aw_ret ?_
    obtain rfl := some_of h0
    exact done_ext (.inr rfl) ((res_one rfl (it_tmp oz)).le zLr) zPb

def F_dreserve (fl : Nat) (p0 : Dir) (p1 : Int) : Option ((List Stx) × (Option Int)) :=
  bnd (F_dtaken fl p0) fun x_1 => bnd (F_xFree fl x_1 p0.Pages) fun x_2 => ifb x_2.2.isSome (some ([], x_2.2)) (bnd (F_xReserve fl x_2.1 p1) fun x_3 => ifb x_3.2.2.isSome (some ([], some 7)) (some (x_3.1, none)))
set_option maxRecDepth 100000 in
set_option maxHeartbeats 2000000 in
theorem c_dreserve {fl : Nat} {p0 : Dir} {p1 : Int} {R : (List Stx) × (Option Int)} (h0 : F_dreserve fl p0 p1 = some R) : Pure Tryd.prog 92 [agg (kDir.cs p0), pl (.int .i64 p1)] (tup [sl kStx none none R.1, pl (errV R.2)]) := by
  intro s
  unfold F_dreserve at h0
  refine ac_of_aw s.boxes.length s.fr.length Tryd.func92 rfl (by simp [Tryd.ntmps92]) ?_
  refine aw_ext0 ?_
  refine aw_keep [(0, _), (1, _)] ⟨lg ez, lg (es ez), trivial⟩ ?_
  refine aw_seq ?_
  refine aw_region (by decide) ?_
  refine rts _ rfl (boxAN (n := 0) rfl oz (kb_Dir _ _ _) (by first | exact List.length_nil | (simp only [List.length_cons, List.length_nil, Nat.zero_add, Nat.reduceAdd] <;> rfl)) (by simp only [znz] <;> rfl)) ?_
  refine rts _ rfl (opD_assign (ev_const _ _)) ?_
  refine rts _ rfl (opD_assign (ev_const _ _)) ?_
  refine .nil ?_
  refine aw_keep [(1, _), (2, _)] ⟨lg (ls rfl (ls rfl (ls rfl (os rfl oz)))), lg (ls rfl (ls rfl lz)), trivial⟩ ?_
  refine aw_seq ?_
  refine aw_drawn [false, true, false, false, false, false, false, false, false, false] [[0], [0, 1], [0, 1], [0, 1], [1], [1], [1], [1], [1], [1]] mixed_W6B (by decide +kernel) ?_
  refine dtl _ (fun s' => s'.boxes[(s.boxes.length + 0)]? = some ⟨86, (kDir.cs p0)⟩) rfl (fun s' hs' => opD_load_aggX ag86_W6B sz86_W6B (os rfl oz) hs' (by rw [kDir_len]; exact Nat.le_refl _) (kDir_full _)) ?_
  replace h0 := bnd_some h0
  obtain ⟨x_1, hx_1, h0⟩ := h0
  refine dta _ rfl (opD_own1 ht101_W6B (c_dtaken hx_1) ⟨le_of_eq lz, trivial⟩ (by first | exact List.length_nil | (simp only [List.length_cons, List.length_nil, Nat.zero_add, Nat.reduceAdd] <;> rfl)) (by simp only [znz] <;> rfl)) ?_
  refine dtp _ rfl (fun s => opD_fieldAddr fo86_2_W6B (ls rfl (ls rfl (os rfl oz)))) ?_
  refine dtl _ (fun s' => s'.boxes[(s.boxes.length + 0)]? = some ⟨86, (kDir.cs p0)⟩) rfl (fun s' hs' => opD_load_one ag3_W6B lz hs' rfl) ?_
  replace h0 := bnd_some h0
  obtain ⟨x_2, hx_2, h0⟩ := h0
  refine dtp _ rfl (fun s => opD_pure ht54_W6B (c_xFree hx_2) ⟨(le_of_eq (ls rfl (ls rfl lz))).trans (sl_any _ _ _ _), le_of_eq lz, trivial⟩) ?_
  refine dtp _ rfl (fun s => opD_move lz) ?_
  refine dtp _ rfl (fun s => opD_extract lz rfl) ?_
  refine dtp _ rfl (fun s => opD_extract (ls rfl lz) rfl) ?_
  refine dtp _ rfl (fun s => opD_assign (ls rfl lz)) ?_
  refine dtp _ rfl (fun s => opD_assign (ls rfl lz)) ?_
  refine .nil ?_
  dsimp only [List.nil_append, List.cons_append]
  refine ⟨rfl, ⟨⟨(by first | exact loc_getN rfl rfl | exact ⟨_, loc_getN rfl rfl⟩ ), trivial⟩, trivial, trivial, ⟨(by first | exact loc_getN rfl rfl | exact ⟨_, loc_getN rfl rfl⟩ ), (by first | exact loc_getN rfl rfl | exact ⟨_, loc_getN rfl rfl⟩ ), trivial⟩, trivial, trivial, trivial, trivial, trivial, trivial, trivial⟩, ?_⟩
  refine aw_keep [(1, _), (6, _), (7, _)] ⟨lg (ls rfl (ls rfl (ls rfl (ls rfl (ls rfl (ls rfl (ls rfl (ls rfl (ls rfl (ls rfl oz)))))))))), lg (ls rfl lz), lg lz, trivial⟩ ?_
  refine aw_seq ?_
  refine aw_seq ?_
  refine aw_region (by decide) ?_
  refine rts _ rfl (opD_move (os rfl (os rfl oz))) ?_
  refine rts _ rfl (opD_bin lz (ev_const _ _) (fun w => errV_guard _ w _) (fun w => errV_beq _ w)) ?_
  refine .nil ?_
  refine aw_keep [(1, _), (6, _), (7, _), (19, _)] ⟨lg (ls rfl (ls rfl oz)), lg (ls rfl (ls rfl (os rfl oz))), lg (ls rfl (ls rfl (os rfl (os rfl oz)))), lg lz, trivial⟩ ?_
  refine aw_cond _ (os rfl (os rfl (os rfl oz))) (fun hc => ?_) (fun hc => ?_)
  · skip
    replace h0 := ifb_t h0 hc
    clear hc
    refine aw_seq ?_
    refine aw_region (by decide) ?_
    refine rts _ rfl (opD_move (os rfl (os rfl oz))) ?_
    refine rts _ rfl (opD_assign (ev_const _ _)) ?_
    refine rts _ rfl (opD_assign (ls rfl lz)) ?_
    refine .nil ?_
    refine aw_keep [(4, _), (5, _)] ⟨lg (ls rfl lz), lg lz, trivial⟩ ?_
    refine aw_ret ?_
    obtain rfl := some_of h0
    exact done_ext (.inr rfl) ((res_list (rs := [_, _]) (ps := [_, _]) rfl rfl ⟨it_tmp oz, it_tmp (os rfl oz), trivial⟩).le (tup_le ⟨(le_nil rfl), zLr, trivial⟩)) (tup_bnd (zbc (sl_b kb_Stx) (zbc zPb bnd_nil)))
  · skip
    replace h0 := ifb_f h0 hc
    clear hc
    refine aw_skip ?_
    refine aw_keep [(1, _), (6, _)] ⟨lg oz, lg (os rfl oz), trivial⟩ ?_
    refine aw_seq ?_
    refine aw_region (by decide) ?_
    refine rts _ rfl (opD_move (os rfl oz)) ?_
    refine rts _ rfl (opD_move (ls rfl oz)) ?_
    replace h0 := bnd_some h0
    obtain ⟨x_3, hx_3, h0⟩ := h0
    refine rts _ rfl (opD_pure ht131_W6B (c_xReserve hx_3) ⟨le_of_eq (ls rfl lz), le_of_eq lz, trivial⟩) ?_
    refine rts _ rfl (opD_move lz) ?_
    refine rts _ rfl (opD_extract lz rfl) ?_
    refine rts _ rfl (opD_extract (ls rfl lz) rfl) ?_
    refine rts _ rfl (opD_extract (ls rfl (ls rfl lz)) rfl) ?_
    refine rts _ rfl (opD_assign (ls rfl (ls rfl lz))) ?_
    refine rts _ rfl (opD_assign (ls rfl (ls rfl lz))) ?_
    refine rts _ rfl (opD_assign (ls rfl (ls rfl lz))) ?_
    refine .nil ?_
    refine aw_keep [(7, _), (8, _)] ⟨lg lz, lg (ls rfl (ls rfl lz)), trivial⟩ ?_
    refine aw_seq ?_
    refine aw_seq ?_
    refine aw_region (by decide) ?_
    refine rts _ rfl (opD_move oz) ?_
    refine rts _ rfl (opD_bin lz (ev_const _ _) (fun w => errV_guard _ w _) (fun w => errV_beq _ w)) ?_
    refine .nil ?_
    refine aw_keep [(8, _), (29, _)] ⟨lg (ls rfl (ls rfl (os rfl oz))), lg lz, trivial⟩ ?_
    refine aw_cond _ (os rfl oz) (fun hc => ?_) (fun hc => ?_)
    · skip
      replace h0 := ifb_t h0 hc
      clear hc
      refine aw_seq ?_
      refine aw_region (by decide) ?_
      refine rts _ rfl (opD_ple (q := pl (errV (some 7))) rfl (opD_makeInterface_pl cc145_W6B (ev_const _ _))) ?_
      refine rts _ rfl (opD_assign (ev_const _ _)) ?_
      refine rts _ rfl (opD_assign (ls rfl lz)) ?_
      refine .nil ?_
      refine aw_keep [(4, _), (5, _)] ⟨lg (ls rfl lz), lg lz, trivial⟩ ?_
      refine aw_ret ?_
      obtain rfl := some_of h0
      exact done_ext (.inr rfl) ((res_list (rs := [_, _]) (ps := [_, _]) rfl rfl ⟨it_tmp oz, it_tmp (os rfl oz), trivial⟩).le (tup_le ⟨(le_nil rfl), zLr, trivial⟩)) (tup_bnd (zbc (sl_b kb_Stx) (zbc zPb bnd_nil)))
    · skip
      replace h0 := ifb_f h0 hc
      clear hc
      refine aw_skip ?_
      refine aw_keep [(8, _)] ⟨lg oz, trivial⟩ ?_
      refine aw_seq ?_
      refine aw_region (by decide) ?_
      refine rts _ rfl (opD_move oz) ?_
      refine rts _ rfl (opD_assign lz) ?_
      refine rts _ rfl (opD_assign (ev_const _ _)) ?_
      refine .nil ?_
      refine aw_keep [(4, _), (5, _)] ⟨lg (ls rfl lz), lg lz, trivial⟩ ?_
      refine aw_ret ?_
      obtain rfl := some_of h0
      exact done_ext (.inr rfl) ((res_list (rs := [_, _]) (ps := [_, _]) rfl rfl ⟨it_tmp oz, it_tmp (os rfl oz), trivial⟩).le (tup_le ⟨zLr, zLr, trivial⟩)) (tup_bnd (zbc (sl_b kb_Stx) (zbc zPb bnd_nil)))

def F_dCreate (fl : Nat) (p0 : Dir) (p1 : Int) (p2 : Int) : Option (Dir × (Option Int)) :=
  bnd (F_dCheck fl p0) fun x_1 => ifb ((((x_1.isSome || (decide (p1 < 1))) || (decide (4611686018427387904 < p1))) || (decide (p2 < 3))) || (decide (1024 < p2))) (some ((default : Dir), some 1)) (bnd (F_dPlace fl p0 p1) fun x_2 => ifb x_2.2.isNone (some ((default : Dir), some 13)) (bnd (F_ixNone fl (nrm 16 (default : Tenant) p0.L)) fun x_3 => bnd (F_dreserve fl p0 p2) fun x_4 => ifb (((decide (x_3 < 0)) || x_4.2.isSome) || (decide (4611686018427387904 ≤ p0.Gen))) (some ((default : Dir), some 7)) (bnd (F_dnext fl p0) fun x_5 => ifb x_5.2.isSome (some ((default : Dir), x_5.2)) (grd (Below x_3 16) <| some (({ ({ x_5.1 with Gen := IntKind.u64.wrap (x_5.1.Gen + 1) } : Dir) with L := aset 16 (default : Tenant) ({ x_5.1 with Gen := IntKind.u64.wrap (x_5.1.Gen + 1) } : Dir).L x_3.toNat (⟨p1, ({ x_5.1 with Gen := IntKind.u64.wrap (x_5.1.Gen + 1) } : Dir).Gen, x_4.1⟩ : Tenant) } : Dir), none)))))
set_option maxRecDepth 100000 in
set_option maxHeartbeats 2000000 in
theorem c_dCreate {fl : Nat} {p0 : Dir} {p1 : Int} {p2 : Int} {R : Dir × (Option Int)} (h0 : F_dCreate fl p0 p1 p2 = some R) : Pure Tryd.prog 41 [agg (kDir.cs p0), pl (.int .u64 p1), pl (.int .i64 p2)] (tup [agg (kDir.cs R.1), pl (errV R.2)]) := by
  intro s
  unfold F_dCreate at h0
  refine ac_of_aw s.boxes.length s.fr.length Tryd.func41 rfl (by simp [Tryd.ntmps41]) ?_
  refine aw_ext0 ?_
  refine aw_keep [(0, _), (1, _), (2, _)] ⟨lg ez, lg (es ez), lg (es (es ez)), trivial⟩ ?_
  refine aw_seq ?_
  refine aw_region (by decide) ?_
  refine rts _ rfl (boxAN (n := 0) rfl oz (kb_Dir _ _ _) (by first | exact List.length_nil | (simp only [List.length_cons, List.length_nil, Nat.zero_add, Nat.reduceAdd] <;> rfl)) (by simp only [znz] <;> rfl)) ?_
  refine rts _ rfl (opD_wkN rfl (allocN (bs' := [⟨86, (kDir.cs p0)⟩, ⟨86, zl1⟩]) rfl zt86_W6B (by first | exact List.length_nil | (simp only [List.length_cons, List.length_nil, Nat.zero_add, Nat.reduceAdd] <;> rfl)) (by simp only [znz] <;> rfl)) (bxle_same (bxle_cons (B := ⟨86, zl1⟩) (C := ⟨86, kDir.cs (default : Dir)⟩) (@Eq.refl TypeId 86) kDir_zero bxle_nil)) (bl_cons (kb_Dir _ _ _) (bl_cons (kb_Dir _ _ _) bl_nil))) ?_
  refine rts _ rfl (opD_assign (ev_const _ _)) ?_
  refine .nil ?_
  refine aw_keep [(1, _), (2, _), (3, _), (6, _)] ⟨lg (ls rfl (ls rfl (ls rfl (os rfl oz)))), lg (ls rfl (ls rfl (ls rfl (os rfl (os rfl oz))))), lg (ls rfl (ls rfl lz)), lg (ls rfl lz), trivial⟩ ?_
  refine aw_seq ?_
  refine aw_seq ?_
  refine aw_region (by decide) ?_
  refine rts _ rfl (opD_load_aggX ag86_W6B sz86_W6B (os rfl (os rfl oz)) (loc_getN rfl rfl) (by rw [kDir_len]; exact Nat.le_refl _) (kDir_full _)) ?_
  replace h0 := bnd_some h0
  obtain ⟨x_1, hx_1, h0⟩ := h0
  refine rts _ rfl (opD_pure ht48_W6B (c_dCheck hx_1) ⟨le_of_eq lz, trivial⟩) ?_
  refine rts _ rfl (opD_bin lz (ev_const _ _) (fun w => errV_guard _ w _) (fun w => errV_beq _ w)) ?_
  refine rts _ rfl (opD_move lz) ?_
  refine rtg _ rfl lz (fun hg1_4_1 => opD_move (ls rfl (ls rfl (ls rfl (ls rfl oz))))) ?_
  refine rtg _ rfl (ls rfl lz) (fun hg1_5_2 => opD_lss (lz.trans (pif_pos hg1_5_2)) (ev_const _ _)) ?_
  refine rts _ rfl (opD_or (ls rfl (ls rfl lz)) lz) ?_
  refine rts _ rfl (opD_move lz) ?_
  refine rtg _ rfl lz (fun hg1_8_3 => opD_move (ls rfl (ls rfl (ls rfl (ls rfl (ls rfl (ls rfl (ls rfl (ls rfl oz))))))))) ?_
  refine rtg _ rfl (ls rfl lz) (fun hg1_9_4 => opD_gtr (lz.trans (pif_pos hg1_9_4)) (ev_const _ _)) ?_
  refine rts _ rfl (opD_or (ls rfl (ls rfl lz)) lz) ?_
  refine rts _ rfl (opD_move lz) ?_
  refine rtg _ rfl lz (fun hg1_12_5 => opD_move (ls rfl (ls rfl (ls rfl (ls rfl (ls rfl (ls rfl (ls rfl (ls rfl (ls rfl (ls rfl (ls rfl (ls rfl (os rfl oz)))))))))))))) ?_
  refine rtg _ rfl (ls rfl lz) (fun hg1_13_6 => opD_lss (lz.trans (pif_pos hg1_13_6)) (ev_const _ _)) ?_
  refine rts _ rfl (opD_or (ls rfl (ls rfl lz)) lz) ?_
  refine rts _ rfl (opD_move lz) ?_
  refine rtg _ rfl lz (fun hg1_16_7 => opD_move (ls rfl (ls rfl (ls rfl (ls rfl (ls rfl (ls rfl (ls rfl (ls rfl (ls rfl (ls rfl (ls rfl (ls rfl (ls rfl (ls rfl (ls rfl (ls rfl (os rfl oz)))))))))))))))))) ?_
  refine rtg _ rfl (ls rfl lz) (fun hg1_17_8 => opD_gtr (lz.trans (pif_pos hg1_17_8)) (ev_const _ _)) ?_
  refine rts _ rfl (opD_or (ls rfl (ls rfl lz)) lz) ?_
  refine .nil ?_
  refine aw_keep [(1, _), (2, _), (3, _), (6, _), (32, _)] ⟨lg (ls rfl (ls rfl (ls rfl (ls rfl (ls rfl (ls rfl (ls rfl (ls rfl (ls rfl (ls rfl (ls rfl (ls rfl (ls rfl (ls rfl (ls rfl (ls rfl (ls rfl (ls rfl (ls rfl oz))))))))))))))))))), lg (ls rfl (ls rfl (ls rfl (ls rfl (ls rfl (ls rfl (ls rfl (ls rfl (ls rfl (ls rfl (ls rfl (ls rfl (ls rfl (ls rfl (ls rfl (ls rfl (ls rfl (ls rfl (ls rfl (os rfl oz)))))))))))))))))))), lg (ls rfl (ls rfl (ls rfl (ls rfl (ls rfl (ls rfl (ls rfl (ls rfl (ls rfl (ls rfl (ls rfl (ls rfl (ls rfl (ls rfl (ls rfl (ls rfl (ls rfl (ls rfl (ls rfl (os rfl (os rfl oz))))))))))))))))))))), lg (ls rfl (ls rfl (ls rfl (ls rfl (ls rfl (ls rfl (ls rfl (ls rfl (ls rfl (ls rfl (ls rfl (ls rfl (ls rfl (ls rfl (ls rfl (ls rfl (ls rfl (ls rfl (ls rfl (os rfl (os rfl (os rfl oz)))))))))))))))))))))), lg lz, trivial⟩ ?_
  refine aw_cond _ (os rfl (os rfl (os rfl (os rfl oz)))) (fun hc => ?_) (fun hc => ?_)
  · skip
    replace h0 := ifb_t h0 hc
    clear hc
    refine aw_seq ?_
    refine aw_region (by decide) ?_
    refine rts _ rfl (opD_ple (q := agg (kDir.cs (default : Dir))) rfl (opD_le (opD_build_struct (rs := zl1) Tryd.underlying86 pt86_W6B zt86_W6B parts_nil rfl) (agg_le kDir_zero))) ?_
    refine rts _ rfl (opD_ple (q := pl (errV (some 1))) rfl (opD_makeInterface_pl cc145_W6B (ev_const _ _))) ?_
    refine rts _ rfl (storeAN (cs' := kDir.cs (default : Dir)) rfl sz86_W6B (ls rfl (ls rfl (os rfl (os rfl (os rfl oz))))) (ls rfl lz) (fun p_ h_ => kDir.one _ p_ h_) rfl (kDir_len _) (by rw [kDir_len]; exact Nat.le_refl _) (by intro h_; have := congrArg List.length h_; rw [kDir_len] at this; cases this) (kb_Dir _ _ _) (kDir_put _ _) (by simp only [znz] <;> rfl)) ?_
    refine rts _ rfl (opD_assign (lx lz)) ?_
    refine .nil ?_
    refine aw_keep [(6, _), (7, _)] ⟨lg (ls rfl (lx (ls rfl (ls rfl (os rfl (os rfl (os rfl oz))))))), lg lz, trivial⟩ ?_
    refine aw_ret ?_
    obtain rfl := some_of h0
    exact done_ext (.inr rfl) ((res_list (rs := [_, _]) (ps := [_, _]) rfl rfl ⟨it_cellA (B := ⟨86, kDir.cs (default : Dir)⟩) ag86_W6B sz86_W6B oz (loc_getN rfl rfl) (kDir_len _), it_tmp (os rfl oz), trivial⟩).le (tup_le ⟨zLr, zLr, trivial⟩)) (tup_bnd (zbc (agg_bnd (kb_Dir _ _ _)) (zbc zPb bnd_nil)))
  · skip
    replace h0 := ifb_f h0 hc
    clear hc
    refine aw_skip ?_
    refine aw_keep [(1, _), (2, _), (3, _), (6, _)] ⟨lg oz, lg (os rfl oz), lg (os rfl (os rfl oz)), lg (os rfl (os rfl (os rfl oz))), trivial⟩ ?_
    refine aw_seq ?_
    refine aw_seq ?_
    refine aw_region (by decide) ?_
    refine rts _ rfl (opD_load_aggX ag86_W6B sz86_W6B (os rfl (os rfl oz)) (loc_getN rfl rfl) (by rw [kDir_len]; exact Nat.le_refl _) (kDir_full _)) ?_
    refine rts _ rfl (opD_move (ls rfl oz)) ?_
    replace h0 := bnd_some h0
    obtain ⟨x_2, hx_2, h0⟩ := h0
    refine rts _ rfl (opD_pure ht42_W6B (c_dPlace hx_2) ⟨le_of_eq (ls rfl lz), le_of_eq lz, trivial⟩) ?_
    refine rts _ rfl (opD_move lz) ?_
    refine rts _ rfl (opD_extract lz rfl) ?_
    refine rts _ rfl (opD_extract (ls rfl lz) rfl) ?_
    refine rts _ rfl (opD_assign (ls rfl lz)) ?_
    refine rts _ rfl (opD_assign (ls rfl lz)) ?_
    refine .nil ?_
    refine aw_keep [(1, _), (2, _), (3, _), (6, _), (9, _)] ⟨lg (ls rfl (ls rfl (ls rfl (ls rfl (ls rfl (ls rfl (ls rfl (ls rfl oz)))))))), lg (ls rfl (ls rfl (ls rfl (ls rfl (ls rfl (ls rfl (ls rfl (ls rfl (os rfl oz))))))))), lg (ls rfl (ls rfl (ls rfl (ls rfl (ls rfl (ls rfl (ls rfl (ls rfl (os rfl (os rfl oz)))))))))), lg (ls rfl (ls rfl (ls rfl (ls rfl (ls rfl (ls rfl (ls rfl (ls rfl (os rfl (os rfl (os rfl oz))))))))))), lg lz, trivial⟩ ?_
    refine aw_seq ?_
    refine aw_region (by decide) ?_
    refine rts _ rfl (opD_move (os rfl (os rfl (os rfl (os rfl oz))))) ?_
    refine rts _ rfl (opD_bin lz (ev_const _ _) (fun w => errV_geql _ w _) (fun w => errV_eql _ w)) ?_
    refine .nil ?_
    refine aw_keep [(1, _), (2, _), (3, _), (6, _), (42, _)] ⟨lg (ls rfl (ls rfl oz)), lg (ls rfl (ls rfl (os rfl oz))), lg (ls rfl (ls rfl (os rfl (os rfl oz)))), lg (ls rfl (ls rfl (os rfl (os rfl (os rfl oz))))), lg lz, trivial⟩ ?_
    refine aw_cond _ (os rfl (os rfl (os rfl (os rfl oz)))) (fun hc => ?_) (fun hc => ?_)
    · skip
      replace h0 := ifb_t h0 hc
      clear hc
      refine aw_seq ?_
      refine aw_region (by decide) ?_
      refine rts _ rfl (opD_ple (q := agg (kDir.cs (default : Dir))) rfl (opD_le (opD_build_struct (rs := zl1) Tryd.underlying86 pt86_W6B zt86_W6B parts_nil rfl) (agg_le kDir_zero))) ?_
      refine rts _ rfl (opD_ple (q := pl (errV (some 13))) rfl (opD_makeInterface_pl cc145_W6B (ev_const _ _))) ?_
      refine rts _ rfl (storeAN (cs' := kDir.cs (default : Dir)) rfl sz86_W6B (ls rfl (ls rfl (os rfl (os rfl (os rfl oz))))) (ls rfl lz) (fun p_ h_ => kDir.one _ p_ h_) rfl (kDir_len _) (by rw [kDir_len]; exact Nat.le_refl _) (by intro h_; have := congrArg List.length h_; rw [kDir_len] at this; cases this) (kb_Dir _ _ _) (kDir_put _ _) (by simp only [znz] <;> rfl)) ?_
      refine rts _ rfl (opD_assign (lx lz)) ?_
      refine .nil ?_
      refine aw_keep [(6, _), (7, _)] ⟨lg (ls rfl (lx (ls rfl (ls rfl (os rfl (os rfl (os rfl oz))))))), lg lz, trivial⟩ ?_
      refine aw_ret ?_
      obtain rfl := some_of h0
      exact done_ext (.inr rfl) ((res_list (rs := [_, _]) (ps := [_, _]) rfl rfl ⟨it_cellA (B := ⟨86, kDir.cs (default : Dir)⟩) ag86_W6B sz86_W6B oz (loc_getN rfl rfl) (kDir_len _), it_tmp (os rfl oz), trivial⟩).le (tup_le ⟨zLr, zLr, trivial⟩)) (tup_bnd (zbc (agg_bnd (kb_Dir _ _ _)) (zbc zPb bnd_nil)))
    · skip
      replace h0 := ifb_f h0 hc
      clear hc
      refine aw_skip ?_
      refine aw_keep [(1, _), (2, _), (3, _), (6, _)] ⟨lg oz, lg (os rfl oz), lg (os rfl (os rfl oz)), lg (os rfl (os rfl (os rfl oz))), trivial⟩ ?_
      refine aw_seq ?_
      refine aw_region (by decide) ?_
      refine rts _ rfl (opD_fieldAddr fo86_3_W6B (os rfl (os rfl oz))) ?_
      refine rts _ rfl (opD_sliceA Tryd.underlying82 sz81_W6B lz) ?_
      replace h0 := bnd_some h0
      obtain ⟨x_3, hx_3, h0⟩ := h0
      refine rts _ rfl (opD_lend (ps := [asl (s.boxes.length + 0) 3 16, pl (.func (.func 91) #[] #[])]) ht90_W6B (c_ixNone hx_3 SF) (pn_pl _) ⟨lent_asl (k := kTenant) fz_Tenant rfl (loc_getN rfl rfl) nrm_len (kDir_w_L _), lent_fz (pn_pl _).fz, trivial⟩ ⟨le_of_eq lz, le_of_eq (ev_func _ _), trivial⟩) ?_
      refine rts _ rfl (opD_assign lz) ?_
      refine .nil ?_
      refine aw_keep [(1, _), (2, _), (3, _), (6, _), (10, _)] ⟨lg (ls rfl (ls rfl (ls rfl (ls rfl oz)))), lg (ls rfl (ls rfl (ls rfl (ls rfl (os rfl oz))))), lg (ls rfl (ls rfl (ls rfl (ls rfl (os rfl (os rfl oz)))))), lg (ls rfl (ls rfl (ls rfl (ls rfl (os rfl (os rfl (os rfl oz))))))), lg lz, trivial⟩ ?_
      refine aw_seq ?_
      refine aw_region (by decide) ?_
      refine rts _ rfl (opD_load_aggX ag86_W6B sz86_W6B (os rfl (os rfl oz)) (loc_getN rfl rfl) (by rw [kDir_len]; exact Nat.le_refl _) (kDir_full _)) ?_
      refine rts _ rfl (opD_move (ls rfl (os rfl oz))) ?_
      replace h0 := bnd_some h0
      obtain ⟨x_4, hx_4, h0⟩ := h0
      refine rts _ rfl (opD_pure ht92_W6B (c_dreserve hx_4) ⟨le_of_eq (ls rfl lz), le_of_eq lz, trivial⟩) ?_
      refine rts _ rfl (opD_move lz) ?_
      refine rts _ rfl (opD_extract lz rfl) ?_
      refine rts _ rfl (opD_extract (ls rfl lz) rfl) ?_
      refine rts _ rfl (opD_assign (ls rfl lz)) ?_
      refine rts _ rfl (opD_assign (ls rfl lz)) ?_
      refine .nil ?_
      refine aw_keep [(1, _), (3, _), (6, _), (10, _), (11, _), (12, _)] ⟨lg (ls rfl (ls rfl (ls rfl (ls rfl (ls rfl (ls rfl (ls rfl (ls rfl oz)))))))), lg (ls rfl (ls rfl (ls rfl (ls rfl (ls rfl (ls rfl (ls rfl (ls rfl (os rfl (os rfl oz)))))))))), lg (ls rfl (ls rfl (ls rfl (ls rfl (ls rfl (ls rfl (ls rfl (ls rfl (os rfl (os rfl (os rfl oz))))))))))), lg (ls rfl (ls rfl (ls rfl (ls rfl (ls rfl (ls rfl (ls rfl (ls rfl (os rfl (os rfl (os rfl (os rfl oz)))))))))))), lg (ls rfl lz), lg lz, trivial⟩ ?_
      refine aw_seq ?_
      refine aw_seq ?_
      refine aw_region (by decide) ?_
      refine rts _ rfl (opD_move (os rfl (os rfl (os rfl oz)))) ?_
      refine rts _ rfl (opD_lss lz (ev_const _ _)) ?_
      refine rts _ rfl (opD_move lz) ?_
      refine rtg _ rfl lz (fun hg8_3_9 => opD_move (ls rfl (ls rfl (ls rfl (os rfl (os rfl (os rfl (os rfl (os rfl oz))))))))) ?_
      refine rtg _ rfl (ls rfl lz) (fun hg8_4_10 => opD_bin (lz.trans (pif_pos hg8_4_10)) (ev_const _ _) (fun w => errV_guard _ w _) (fun w => errV_beq _ w)) ?_
      refine rts _ rfl (opD_or (ls rfl (ls rfl lz)) lz) ?_
      refine rts _ rfl (opD_move lz) ?_
      refine rtg _ rfl lz (fun hg8_7_11 => opD_fieldAddr fo86_1_W6B (ls rfl (ls rfl (ls rfl (ls rfl (ls rfl (ls rfl (ls rfl (os rfl oz))))))))) ?_
      refine rtg _ rfl (ls rfl lz) (fun hg8_8_12 => opD_load_one ag56_W6B (lz.trans (pif_pos hg8_8_12)) (loc_getN rfl rfl) rfl) ?_
      refine rtg _ rfl (ls rfl (ls rfl lz)) (fun hg8_9_13 => opD_geq (lz.trans (pif_pos hg8_9_13)) (ev_const _ _)) ?_
      refine rts _ rfl (opD_or (ls rfl (ls rfl (ls rfl lz))) lz) ?_
      refine .nil ?_
      refine aw_keep [(1, _), (3, _), (6, _), (10, _), (11, _), (64, _)] ⟨lg (ls rfl (ls rfl (ls rfl (ls rfl (ls rfl (ls rfl (ls rfl (ls rfl (ls rfl (ls rfl (ls rfl oz))))))))))), lg (ls rfl (ls rfl (ls rfl (ls rfl (ls rfl (ls rfl (ls rfl (ls rfl (ls rfl (ls rfl (ls rfl (os rfl oz)))))))))))), lg (ls rfl (ls rfl (ls rfl (ls rfl (ls rfl (ls rfl (ls rfl (ls rfl (ls rfl (ls rfl (ls rfl (os rfl (os rfl oz))))))))))))), lg (ls rfl (ls rfl (ls rfl (ls rfl (ls rfl (ls rfl (ls rfl (ls rfl (ls rfl (ls rfl (ls rfl (os rfl (os rfl (os rfl oz)))))))))))))), lg (ls rfl (ls rfl (ls rfl (ls rfl (ls rfl (ls rfl (ls rfl (ls rfl (ls rfl (ls rfl (ls rfl (os rfl (os rfl (os rfl (os rfl oz))))))))))))))), lg lz, trivial⟩ ?_
      refine aw_cond _ (os rfl (os rfl (os rfl (os rfl (os rfl oz))))) (fun hc => ?_) (fun hc => ?_)
      · skip
        replace h0 := ifb_t h0 hc
        clear hc
        refine aw_seq ?_
        refine aw_region (by decide) ?_
        refine rts _ rfl (opD_ple (q := agg (kDir.cs (default : Dir))) rfl (opD_le (opD_build_struct (rs := zl1) Tryd.underlying86 pt86_W6B zt86_W6B parts_nil rfl) (agg_le kDir_zero))) ?_
        refine rts _ rfl (opD_ple (q := pl (errV (some 7))) rfl (opD_makeInterface_pl cc145_W6B (ev_const _ _))) ?_
        refine rts _ rfl (storeAN (cs' := kDir.cs (default : Dir)) rfl sz86_W6B (ls rfl (ls rfl (os rfl (os rfl oz)))) (ls rfl lz) (fun p_ h_ => kDir.one _ p_ h_) rfl (kDir_len _) (by rw [kDir_len]; exact Nat.le_refl _) (by intro h_; have := congrArg List.length h_; rw [kDir_len] at this; cases this) (kb_Dir _ _ _) (kDir_put _ _) (by simp only [znz] <;> rfl)) ?_
        refine rts _ rfl (opD_assign (lx lz)) ?_
        refine .nil ?_
        refine aw_keep [(6, _), (7, _)] ⟨lg (ls rfl (lx (ls rfl (ls rfl (os rfl (os rfl oz)))))), lg lz, trivial⟩ ?_
        refine aw_ret ?_
        obtain rfl := some_of h0
        exact done_ext (.inr rfl) ((res_list (rs := [_, _]) (ps := [_, _]) rfl rfl ⟨it_cellA (B := ⟨86, kDir.cs (default : Dir)⟩) ag86_W6B sz86_W6B oz (loc_getN rfl rfl) (kDir_len _), it_tmp (os rfl oz), trivial⟩).le (tup_le ⟨zLr, zLr, trivial⟩)) (tup_bnd (zbc (agg_bnd (kb_Dir _ _ _)) (zbc zPb bnd_nil)))
      · skip
        replace h0 := ifb_f h0 hc
        clear hc
        refine aw_skip ?_
        refine aw_keep [(1, _), (3, _), (6, _), (10, _), (11, _)] ⟨lg oz, lg (os rfl oz), lg (os rfl (os rfl oz)), lg (os rfl (os rfl (os rfl oz))), lg (os rfl (os rfl (os rfl (os rfl oz)))), trivial⟩ ?_
        refine aw_seq ?_
        refine aw_region (by decide) ?_
        refine rts _ rfl (opD_load_aggX ag86_W6B sz86_W6B (os rfl oz) (loc_getN rfl rfl) (by rw [kDir_len]; exact Nat.le_refl _) (kDir_full _)) ?_
        replace h0 := bnd_some h0
        obtain ⟨x_5, hx_5, h0⟩ := h0
        refine rts _ rfl (opD_pure ht93_W6B (c_dnext hx_5) ⟨le_of_eq lz, trivial⟩) ?_
        refine rts _ rfl (opD_move lz) ?_
        refine rts _ rfl (opD_extract lz rfl) ?_
        refine rts _ rfl (opD_extract (ls rfl lz) rfl) ?_
        refine rts _ rfl (opD_wkN rfl (allocN (bs' := [⟨86, (kDir.cs p0)⟩, ⟨86, (kDir.cs (default : Dir))⟩, ⟨86, zl1⟩]) rfl zt86_W6B (by first | exact List.length_nil | (simp only [List.length_cons, List.length_nil, Nat.zero_add, Nat.reduceAdd] <;> rfl)) (by simp only [znz] <;> rfl)) (bxle_same (bxle_same (bxle_cons (B := ⟨86, zl1⟩) (C := ⟨86, kDir.cs (default : Dir)⟩) (@Eq.refl TypeId 86) kDir_zero bxle_nil))) (bl_cons (kb_Dir _ _ _) (bl_cons (kb_Dir _ _ _) (bl_cons (kb_Dir _ _ _) bl_nil)))) ?_
        refine rts _ rfl (storeAN (cs' := kDir.cs x_5.1) rfl sz86_W6B lz (ls rfl (ls rfl lz)) (fun p_ h_ => kDir.one _ p_ h_) rfl (kDir_len _) (by rw [kDir_len]; exact Nat.le_refl _) (by intro h_; have := congrArg List.length h_; rw [kDir_len] at this; cases this) (kb_Dir _ _ _) (kDir_put _ _) (by simp only [znz] <;> rfl)) ?_
        refine rts _ rfl (opD_assign (lx (ls rfl lz))) ?_
        refine .nil ?_
        refine aw_keep [(1, _), (6, _), (10, _), (11, _), (12, _), (13, _)] ⟨lg (ls rfl (lx (ls rfl (ls rfl (ls rfl (ls rfl (ls rfl (ls rfl oz)))))))), lg (ls rfl (lx (ls rfl (ls rfl (ls rfl (ls rfl (ls rfl (ls rfl (os rfl (os rfl oz)))))))))), lg (ls rfl (lx (ls rfl (ls rfl (ls rfl (ls rfl (ls rfl (ls rfl (os rfl (os rfl (os rfl oz))))))))))), lg (ls rfl (lx (ls rfl (ls rfl (ls rfl (ls rfl (ls rfl (ls rfl (os rfl (os rfl (os rfl (os rfl oz)))))))))))), lg lz, lg (ls rfl (lx lz)), trivial⟩ ?_
        refine aw_seq ?_
        refine aw_seq ?_
        refine aw_region (by decide) ?_
        refine rts _ rfl (opD_move (os rfl (os rfl (os rfl (os rfl oz))))) ?_
        refine rts _ rfl (opD_bin lz (ev_const _ _) (fun w => errV_guard _ w _) (fun w => errV_beq _ w)) ?_
        refine .nil ?_
        refine aw_keep [(1, _), (6, _), (10, _), (11, _), (12, _), (13, _), (73, _)] ⟨lg (ls rfl (ls rfl oz)), lg (ls rfl (ls rfl (os rfl oz))), lg (ls rfl (ls rfl (os rfl (os rfl oz)))), lg (ls rfl (ls rfl (os rfl (os rfl (os rfl oz))))), lg (ls rfl (ls rfl (os rfl (os rfl (os rfl (os rfl oz)))))), lg (ls rfl (ls rfl (os rfl (os rfl (os rfl (os rfl (os rfl oz))))))), lg lz, trivial⟩ ?_
        refine aw_cond _ (os rfl (os rfl (os rfl (os rfl (os rfl (os rfl oz)))))) (fun hc => ?_) (fun hc => ?_)
        · skip
          replace h0 := ifb_t h0 hc
          clear hc
          refine aw_seq ?_
          refine aw_region (by decide) ?_
          refine rts _ rfl (opD_ple (q := agg (kDir.cs (default : Dir))) rfl (opD_le (opD_build_struct (rs := zl1) Tryd.underlying86 pt86_W6B zt86_W6B parts_nil rfl) (agg_le kDir_zero))) ?_
          refine rts _ rfl (opD_move (ls rfl (os rfl (os rfl (os rfl (os rfl oz)))))) ?_
          refine rts _ rfl (storeAN (cs' := kDir.cs (default : Dir)) rfl sz86_W6B (ls rfl (ls rfl (os rfl oz))) (ls rfl lz) (fun p_ h_ => kDir.one _ p_ h_) rfl (kDir_len _) (by rw [kDir_len]; exact Nat.le_refl _) (by intro h_; have := congrArg List.length h_; rw [kDir_len] at this; cases this) (kb_Dir _ _ _) (kDir_put _ _) (by simp only [znz] <;> rfl)) ?_
          refine rts _ rfl (opD_assign (lx lz)) ?_
          refine .nil ?_
          refine aw_keep [(6, _), (7, _)] ⟨lg (ls rfl (lx (ls rfl (ls rfl (os rfl oz))))), lg lz, trivial⟩ ?_
          refine aw_ret ?_
          obtain rfl := some_of h0
          exact done_ext (.inr rfl) ((res_list (rs := [_, _]) (ps := [_, _]) rfl rfl ⟨it_cellA (B := ⟨86, kDir.cs (default : Dir)⟩) ag86_W6B sz86_W6B oz (loc_getN rfl rfl) (kDir_len _), it_tmp (os rfl oz), trivial⟩).le (tup_le ⟨zLr, zLr, trivial⟩)) (tup_bnd (zbc (agg_bnd (kb_Dir _ _ _)) (zbc zPb bnd_nil)))
        · skip
          replace h0 := ifb_f h0 hc
          clear hc
          refine aw_skip ?_
          refine aw_keep [(1, _), (6, _), (10, _), (11, _), (13, _)] ⟨lg oz, lg (os rfl oz), lg (os rfl (os rfl oz)), lg (os rfl (os rfl (os rfl oz))), lg (os rfl (os rfl (os rfl (os rfl (os rfl oz))))), trivial⟩ ?_
          refine aw_seq ?_
          refine aw_region (by decide) ?_
          refine rts _ rfl (opD_fieldAddr fo86_1_W6B (os rfl (os rfl (os rfl (os rfl oz))))) ?_
          refine rts _ rfl (opD_load_one ag56_W6B lz (loc_getN rfl rfl) rfl) ?_
          refine rts _ rfl (opD_add lz (ev_const _ _) rfl) ?_
          refine rts _ rfl (opD_fieldAddr fo86_1_W6B (ls rfl (ls rfl (ls rfl (os rfl (os rfl (os rfl (os rfl oz)))))))) ?_
          refine rts _ rfl (storeON (cs' := kDir.cs ({ x_5.1 with Gen := IntKind.u64.wrap (x_5.1.Gen + 1) } : Dir)) rfl sz56_W6B lz ((le_of_eq (ls rfl lz)).trans zLr) (one_pl rfl) rfl (by show _ < (kDir.cs _).length; rw [kDir_len]; decide) zPb rfl (by simp only [znz] <;> rfl)) ?_
          refine .nil ?_
          refine aw_keep [(1, _), (6, _), (10, _), (11, _), (13, _)] ⟨lg (lx (ls rfl (ls rfl (ls rfl (ls rfl oz))))), lg (lx (ls rfl (ls rfl (ls rfl (ls rfl (os rfl oz)))))), lg (lx (ls rfl (ls rfl (ls rfl (ls rfl (os rfl (os rfl oz))))))), lg (lx (ls rfl (ls rfl (ls rfl (ls rfl (os rfl (os rfl (os rfl oz)))))))), lg (lx (ls rfl (ls rfl (ls rfl (ls rfl (os rfl (os rfl (os rfl (os rfl oz))))))))), trivial⟩ ?_
          refine aw_seq ?_
          refine aw_region (by decide) ?_
          refine rts _ rfl (opD_move (os rfl (os rfl oz))) ?_
          refine rts _ rfl (opD_move (ls rfl oz)) ?_
          refine rts _ rfl (opD_fieldAddr fo86_1_W6B (ls rfl (ls rfl (os rfl (os rfl (os rfl (os rfl oz))))))) ?_
          refine rts _ rfl (opD_load_one ag56_W6B lz (loc_getN rfl rfl) rfl) ?_
          refine rts _ rfl (opD_move (ls rfl (ls rfl (ls rfl (ls rfl (os rfl (os rfl (os rfl oz)))))))) ?_
          refine rts _ rfl (opD_build_struct (rs := [_, _, _]) Tryd.underlying81 pt81_W6B zt81_W6B (parts_cons (cells1 (ls rfl (ls rfl (ls rfl lz))) (one_pl rfl)) (parts_cons (cells1 (ls rfl lz) (one_pl rfl)) (parts_cons (cells1 lz (one_sl _ _ _ _)) parts_nil))) (fill_step rfl (by rfl) (by rfl) (by simp only [na, nb, nl, nc, nd, nh, ni, nj, nk, nm, Nat.reduceAdd] <;> rfl) (fill_step rfl (by rfl) (by rfl) (by simp only [na, nb, nl, nc, nd, nh, ni, nj, nk, nm, Nat.reduceAdd] <;> rfl) (fill_step rfl (by rfl) (by rfl) (by simp only [na, nb, nl, nc, nd, nh, ni, nj, nk, nm, Nat.reduceAdd] <;> rfl) fill_nil)))) ?_
          refine rts _ rfl (opD_fieldAddr fo86_3_W6B (ls rfl (ls rfl (ls rfl (ls rfl (ls rfl (ls rfl (os rfl (os rfl (os rfl (os rfl oz))))))))))) ?_
          replace h0 := grd_some h0
          obtain ⟨hg_14, h0⟩ := h0
          refine rts _ rfl (opD_indexAddr_arr (i := x_3.toNat) Tryd.underlying82 sz81_W6B lz (ls rfl (ls rfl (ls rfl (ls rfl (ls rfl (ls rfl lz)))))) hg_14.eq hg_14.2) ?_
          refine rts _ rfl (storeAN (cs' := kDir.cs ({ ({ x_5.1 with Gen := IntKind.u64.wrap (x_5.1.Gen + 1) } : Dir) with L := aset 16 (default : Tenant) ({ x_5.1 with Gen := IntKind.u64.wrap (x_5.1.Gen + 1) } : Dir).L x_3.toNat (⟨p1, ({ x_5.1 with Gen := IntKind.u64.wrap (x_5.1.Gen + 1) } : Dir).Gen, x_4.1⟩ : Tenant) } : Dir)) rfl sz81_W6B lz ((ls rfl (ls rfl lz)).trans (show _ = agg (Kn.cs kTenant (⟨p1, ({ x_5.1 with Gen := IntKind.u64.wrap (x_5.1.Gen + 1) } : Dir).Gen, x_4.1⟩ : Tenant)) from rfl)) (fun p_ h_ => Kn.one kTenant _ p_ h_) rfl rfl (by have h_ := hg_14.2; rw [kDir_len]; omega) (by intro h_; have := congrArg List.length h_; rw [kDir_len] at this; cases this) (kb_Tenant _ _ _) (kDir_u_L _ hg_14.2) (by simp only [znz] <;> rfl)) ?_
          refine .nil ?_
          refine aw_keep [(6, _), (13, _)] ⟨lg (lx (ls rfl (ls rfl (ls rfl (ls rfl (ls rfl (ls rfl (ls rfl (ls rfl (os rfl oz)))))))))), lg (lx (ls rfl (ls rfl (ls rfl (ls rfl (ls rfl (ls rfl (ls rfl (ls rfl (os rfl (os rfl (os rfl (os rfl oz))))))))))))), trivial⟩ ?_
          refine aw_seq ?_
          refine aw_region (by decide) ?_
          refine rts _ rfl (opD_load_aggX ag86_W6B sz86_W6B (os rfl oz) (loc_getN rfl rfl) (by rw [kDir_len]; exact Nat.le_refl _) (kDir_full _)) ?_
          refine rts _ rfl (storeAN (cs' := kDir.cs ({ ({ x_5.1 with Gen := IntKind.u64.wrap (x_5.1.Gen + 1) } : Dir) with L := aset 16 (default : Tenant) ({ x_5.1 with Gen := IntKind.u64.wrap (x_5.1.Gen + 1) } : Dir).L x_3.toNat (⟨p1, ({ x_5.1 with Gen := IntKind.u64.wrap (x_5.1.Gen + 1) } : Dir).Gen, x_4.1⟩ : Tenant) } : Dir)) rfl sz86_W6B (ls rfl oz) lz (fun p_ h_ => kDir.one _ p_ h_) rfl (kDir_len _) (by rw [kDir_len]; exact Nat.le_refl _) (by intro h_; have := congrArg List.length h_; rw [kDir_len] at this; cases this) (kb_Dir _ _ _) (kDir_put _ _) (by simp only [znz] <;> rfl)) ?_
          refine rts _ rfl (opD_assign (ev_const _ _)) ?_
          refine .nil ?_
          refine aw_keep [(6, _), (7, _)] ⟨lg (ls rfl (lx (ls rfl oz))), lg lz, trivial⟩ ?_
          refine aw_ret ?_
          obtain rfl := some_of h0
          exact done_ext (.inr rfl) ((res_list (rs := [_, _]) (ps := [_, _]) rfl rfl ⟨it_cellA (B := ⟨86, kDir.cs ({ ({ x_5.1 with Gen := IntKind.u64.wrap (x_5.1.Gen + 1) } : Dir) with L := aset 16 (default : Tenant) ({ x_5.1 with Gen := IntKind.u64.wrap (x_5.1.Gen + 1) } : Dir).L x_3.toNat (⟨p1, ({ x_5.1 with Gen := IntKind.u64.wrap (x_5.1.Gen + 1) } : Dir).Gen, x_4.1⟩ : Tenant) } : Dir)⟩) ag86_W6B sz86_W6B oz (loc_getN rfl rfl) (kDir_len _), it_tmp (os rfl oz), trivial⟩).le (tup_le ⟨zLr, zLr, trivial⟩)) (tup_bnd (zbc (agg_bnd (kb_Dir _ _ _)) (zbc zPb bnd_nil)))

def F_dDelete (fl : Nat) (p0 : Dir) (p1 : Int) : Option (Dir × (Option Int)) :=
  bnd (F_dPlace fl p0 p1) fun x_1 => ifb x_1.2.isSome (some ((default : Dir), x_1.2)) (bnd (F_dnext fl p0) fun x_2 => ifb x_2.2.isSome (some ((default : Dir), x_2.2)) (grd (Below x_1.1 16) <| bnd (F_mLeave fl (nrm 16 (0 : Int) ({ x_2.1 with L := aset 16 (default : Tenant) x_2.1.L x_1.1.toNat (⟨0, 0, []⟩ : Tenant) } : Dir).M) x_1.1) fun x_3 => grd (x_3.1.length = 16) <| some (({ ({ x_2.1 with L := aset 16 (default : Tenant) x_2.1.L x_1.1.toNat (⟨0, 0, []⟩ : Tenant) } : Dir) with M := x_3.1 } : Dir), x_3.2)))
set_option maxRecDepth 100000 in
set_option maxHeartbeats 2000000 in
theorem c_dDelete {fl : Nat} {p0 : Dir} {p1 : Int} {R : Dir × (Option Int)} (h0 : F_dDelete fl p0 p1 = some R) : Pure Tryd.prog 45 [agg (kDir.cs p0), pl (.int .u64 p1)] (tup [agg (kDir.cs R.1), pl (errV R.2)]) := by
  intro s
  unfold F_dDelete at h0
  refine ac_of_aw s.boxes.length s.fr.length Tryd.func45 rfl (by simp [Tryd.ntmps45]) ?_
  refine aw_ext0 ?_
  refine aw_keep [(0, _), (1, _)] ⟨lg ez, lg (es ez), trivial⟩ ?_
  refine aw_seq ?_
  refine aw_region (by decide) ?_
  refine rts _ rfl (boxAN (n := 0) rfl oz (kb_Dir _ _ _) (by first | exact List.length_nil | (simp only [List.length_cons, List.length_nil, Nat.zero_add, Nat.reduceAdd] <;> rfl)) (by simp only [znz] <;> rfl)) ?_
  refine rts _ rfl (opD_wkN rfl (allocN (bs' := [⟨86, (kDir.cs p0)⟩, ⟨86, zl1⟩]) rfl zt86_W6B (by first | exact List.length_nil | (simp only [List.length_cons, List.length_nil, Nat.zero_add, Nat.reduceAdd] <;> rfl)) (by simp only [znz] <;> rfl)) (bxle_same (bxle_cons (B := ⟨86, zl1⟩) (C := ⟨86, kDir.cs (default : Dir)⟩) (@Eq.refl TypeId 86) kDir_zero bxle_nil)) (bl_cons (kb_Dir _ _ _) (bl_cons (kb_Dir _ _ _) bl_nil))) ?_
  refine rts _ rfl (opD_assign (ev_const _ _)) ?_
  refine .nil ?_
  refine aw_keep [(1, _), (2, _), (4, _)] ⟨lg (ls rfl (ls rfl (ls rfl (os rfl oz)))), lg (ls rfl (ls rfl lz)), lg (ls rfl lz), trivial⟩ ?_
  refine aw_seq ?_
  refine aw_region (by decide) ?_
  refine rts _ rfl (opD_load_aggX ag86_W6B sz86_W6B (os rfl oz) (loc_getN rfl rfl) (by rw [kDir_len]; exact Nat.le_refl _) (kDir_full _)) ?_
  refine rts _ rfl (opD_move (ls rfl oz)) ?_
  replace h0 := bnd_some h0
  obtain ⟨x_1, hx_1, h0⟩ := h0
  refine rts _ rfl (opD_pure ht42_W6B (c_dPlace hx_1) ⟨le_of_eq (ls rfl lz), le_of_eq lz, trivial⟩) ?_
  refine rts _ rfl (opD_move lz) ?_
  refine rts _ rfl (opD_extract lz rfl) ?_
  refine rts _ rfl (opD_extract (ls rfl lz) rfl) ?_
  refine rts _ rfl (opD_assign (ls rfl lz)) ?_
  refine rts _ rfl (opD_assign (ls rfl lz)) ?_
  refine .nil ?_
  refine aw_keep [(2, _), (4, _), (6, _), (7, _)] ⟨lg (ls rfl (ls rfl (ls rfl (ls rfl (ls rfl (ls rfl (ls rfl (ls rfl (os rfl oz))))))))), lg (ls rfl (ls rfl (ls rfl (ls rfl (ls rfl (ls rfl (ls rfl (ls rfl (os rfl (os rfl oz)))))))))), lg (ls rfl lz), lg lz, trivial⟩ ?_
  refine aw_seq ?_
  refine aw_seq ?_
  refine aw_region (by decide) ?_
  refine rts _ rfl (opD_move (os rfl (os rfl (os rfl oz)))) ?_
  refine rts _ rfl (opD_bin lz (ev_const _ _) (fun w => errV_guard _ w _) (fun w => errV_beq _ w)) ?_
  refine .nil ?_
  refine aw_keep [(2, _), (4, _), (6, _), (7, _), (16, _)] ⟨lg (ls rfl (ls rfl oz)), lg (ls rfl (ls rfl (os rfl oz))), lg (ls rfl (ls rfl (os rfl (os rfl oz)))), lg (ls rfl (ls rfl (os rfl (os rfl (os rfl oz))))), lg lz, trivial⟩ ?_
  refine aw_cond _ (os rfl (os rfl (os rfl (os rfl oz)))) (fun hc => ?_) (fun hc => ?_)
  · skip
    replace h0 := ifb_t h0 hc
    clear hc
    refine aw_seq ?_
    refine aw_region (by decide) ?_
    refine rts _ rfl (opD_ple (q := agg (kDir.cs (default : Dir))) rfl (opD_le (opD_build_struct (rs := zl1) Tryd.underlying86 pt86_W6B zt86_W6B parts_nil rfl) (agg_le kDir_zero))) ?_
    refine rts _ rfl (opD_move (ls rfl (os rfl (os rfl (os rfl oz))))) ?_
    refine rts _ rfl (storeAN (cs' := kDir.cs (default : Dir)) rfl sz86_W6B (ls rfl (ls rfl (os rfl oz))) (ls rfl lz) (fun p_ h_ => kDir.one _ p_ h_) rfl (kDir_len _) (by rw [kDir_len]; exact Nat.le_refl _) (by intro h_; have := congrArg List.length h_; rw [kDir_len] at this; cases this) (kb_Dir _ _ _) (kDir_put _ _) (by simp only [znz] <;> rfl)) ?_
    refine rts _ rfl (opD_assign (lx lz)) ?_
    refine .nil ?_
    refine aw_keep [(4, _), (5, _)] ⟨lg (ls rfl (lx (ls rfl (ls rfl (os rfl oz))))), lg lz, trivial⟩ ?_
    refine aw_ret ?_
    obtain rfl := some_of h0
    exact done_ext (.inr rfl) ((res_list (rs := [_, _]) (ps := [_, _]) rfl rfl ⟨it_cellA (B := ⟨86, kDir.cs (default : Dir)⟩) ag86_W6B sz86_W6B oz (loc_getN rfl rfl) (kDir_len _), it_tmp (os rfl oz), trivial⟩).le (tup_le ⟨zLr, zLr, trivial⟩)) (tup_bnd (zbc (agg_bnd (kb_Dir _ _ _)) (zbc zPb bnd_nil)))
  · skip
    replace h0 := ifb_f h0 hc
    clear hc
    refine aw_skip ?_
    refine aw_keep [(2, _), (4, _), (6, _)] ⟨lg oz, lg (os rfl oz), lg (os rfl (os rfl oz)), trivial⟩ ?_
    refine aw_seq ?_
    refine aw_region (by decide) ?_
    refine rts _ rfl (opD_load_aggX ag86_W6B sz86_W6B oz (loc_getN rfl rfl) (by rw [kDir_len]; exact Nat.le_refl _) (kDir_full _)) ?_
    replace h0 := bnd_some h0
    obtain ⟨x_2, hx_2, h0⟩ := h0
    refine rts _ rfl (opD_pure ht93_W6B (c_dnext hx_2) ⟨le_of_eq lz, trivial⟩) ?_
    refine rts _ rfl (opD_move lz) ?_
    refine rts _ rfl (opD_extract lz rfl) ?_
    refine rts _ rfl (opD_extract (ls rfl lz) rfl) ?_
    refine rts _ rfl (opD_wkN rfl (allocN (bs' := [⟨86, (kDir.cs p0)⟩, ⟨86, (kDir.cs (default : Dir))⟩, ⟨86, zl1⟩]) rfl zt86_W6B (by first | exact List.length_nil | (simp only [List.length_cons, List.length_nil, Nat.zero_add, Nat.reduceAdd] <;> rfl)) (by simp only [znz] <;> rfl)) (bxle_same (bxle_same (bxle_cons (B := ⟨86, zl1⟩) (C := ⟨86, kDir.cs (default : Dir)⟩) (@Eq.refl TypeId 86) kDir_zero bxle_nil))) (bl_cons (kb_Dir _ _ _) (bl_cons (kb_Dir _ _ _) (bl_cons (kb_Dir _ _ _) bl_nil)))) ?_
    refine rts _ rfl (storeAN (cs' := kDir.cs x_2.1) rfl sz86_W6B lz (ls rfl (ls rfl lz)) (fun p_ h_ => kDir.one _ p_ h_) rfl (kDir_len _) (by rw [kDir_len]; exact Nat.le_refl _) (by intro h_; have := congrArg List.length h_; rw [kDir_len] at this; cases this) (kb_Dir _ _ _) (kDir_put _ _) (by simp only [znz] <;> rfl)) ?_
    refine rts _ rfl (opD_assign (lx (ls rfl lz))) ?_
    refine .nil ?_
    refine aw_keep [(4, _), (6, _), (7, _), (8, _)] ⟨lg (ls rfl (lx (ls rfl (ls rfl (ls rfl (ls rfl (ls rfl (ls rfl (os rfl oz))))))))), lg (ls rfl (lx (ls rfl (ls rfl (ls rfl (ls rfl (ls rfl (ls rfl (os rfl (os rfl oz)))))))))), lg lz, lg (ls rfl (lx lz)), trivial⟩ ?_
    refine aw_seq ?_
    refine aw_seq ?_
    refine aw_region (by decide) ?_
    refine rts _ rfl (opD_move (os rfl (os rfl oz))) ?_
    refine rts _ rfl (opD_bin lz (ev_const _ _) (fun w => errV_guard _ w _) (fun w => errV_beq _ w)) ?_
    refine .nil ?_
    refine aw_keep [(4, _), (6, _), (7, _), (8, _), (25, _)] ⟨lg (ls rfl (ls rfl oz)), lg (ls rfl (ls rfl (os rfl oz))), lg (ls rfl (ls rfl (os rfl (os rfl oz)))), lg (ls rfl (ls rfl (os rfl (os rfl (os rfl oz))))), lg lz, trivial⟩ ?_
    refine aw_cond _ (os rfl (os rfl (os rfl (os rfl oz)))) (fun hc => ?_) (fun hc => ?_)
    · skip
      replace h0 := ifb_t h0 hc
      clear hc
      refine aw_seq ?_
      refine aw_region (by decide) ?_
      refine rts _ rfl (opD_ple (q := agg (kDir.cs (default : Dir))) rfl (opD_le (opD_build_struct (rs := zl1) Tryd.underlying86 pt86_W6B zt86_W6B parts_nil rfl) (agg_le kDir_zero))) ?_
      refine rts _ rfl (opD_move (ls rfl (os rfl (os rfl oz)))) ?_
      refine rts _ rfl (storeAN (cs' := kDir.cs (default : Dir)) rfl sz86_W6B (ls rfl (ls rfl oz)) (ls rfl lz) (fun p_ h_ => kDir.one _ p_ h_) rfl (kDir_len _) (by rw [kDir_len]; exact Nat.le_refl _) (by intro h_; have := congrArg List.length h_; rw [kDir_len] at this; cases this) (kb_Dir _ _ _) (kDir_put _ _) (by simp only [znz] <;> rfl)) ?_
      refine rts _ rfl (opD_assign (lx lz)) ?_
      refine .nil ?_
      refine aw_keep [(4, _), (5, _)] ⟨lg (ls rfl (lx (ls rfl (ls rfl oz)))), lg lz, trivial⟩ ?_
      refine aw_ret ?_
      obtain rfl := some_of h0
      exact done_ext (.inr rfl) ((res_list (rs := [_, _]) (ps := [_, _]) rfl rfl ⟨it_cellA (B := ⟨86, kDir.cs (default : Dir)⟩) ag86_W6B sz86_W6B oz (loc_getN rfl rfl) (kDir_len _), it_tmp (os rfl oz), trivial⟩).le (tup_le ⟨zLr, zLr, trivial⟩)) (tup_bnd (zbc (agg_bnd (kb_Dir _ _ _)) (zbc zPb bnd_nil)))
    · skip
      replace h0 := ifb_f h0 hc
      clear hc
      refine aw_skip ?_
      refine aw_keep [(4, _), (6, _), (8, _)] ⟨lg oz, lg (os rfl oz), lg (os rfl (os rfl (os rfl oz))), trivial⟩ ?_
      refine aw_seq ?_
      refine aw_region (by decide) ?_
      refine rts _ rfl (opD_move (os rfl oz)) ?_
      refine rts _ rfl (opD_le (opD_build_struct (rs := [pl (.int .u64 0), pl (.int .u64 0), pl (.slice none 0 0)]) Tryd.underlying81 pt81_W6B zt81_W6B parts_nil rfl) (show Pd.le (agg [pl (.int .u64 0), pl (.int .u64 0), pl (.slice none 0 0)]) (agg [pl (.int .u64 0), pl (.int .u64 0), sl kStx none none []]) from (agg_le ⟨zLr, zLr, (le_nil rfl), trivial⟩))) ?_
      refine rts _ rfl (opD_fieldAddr fo86_3_W6B (ls rfl (ls rfl (os rfl (os rfl oz))))) ?_
      replace h0 := grd_some h0
      obtain ⟨hg_1, h0⟩ := h0
      refine rts _ rfl (opD_indexAddr_arr (i := x_1.1.toNat) Tryd.underlying82 sz81_W6B lz (ls rfl (ls rfl lz)) hg_1.eq hg_1.2) ?_
      refine rts _ rfl (storeAN (cs' := kDir.cs ({ x_2.1 with L := aset 16 (default : Tenant) x_2.1.L x_1.1.toNat (⟨0, 0, []⟩ : Tenant) } : Dir)) rfl sz81_W6B lz ((ls rfl (ls rfl lz)).trans (show _ = agg (Kn.cs kTenant (⟨0, 0, []⟩ : Tenant)) from rfl)) (fun p_ h_ => Kn.one kTenant _ p_ h_) rfl rfl (by have h_ := hg_1.2; rw [kDir_len]; omega) (by intro h_; have := congrArg List.length h_; rw [kDir_len] at this; cases this) (kb_Tenant _ _ _) (kDir_u_L _ hg_1.2) (by simp only [znz] <;> rfl)) ?_
      refine .nil ?_
      refine aw_keep [(4, _), (6, _), (8, _)] ⟨lg (lx (ls rfl (ls rfl (ls rfl (ls rfl oz))))), lg (lx (ls rfl (ls rfl (ls rfl (ls rfl (os rfl oz)))))), lg (lx (ls rfl (ls rfl (ls rfl (ls rfl (os rfl (os rfl oz))))))), trivial⟩ ?_
      refine aw_seq ?_
      refine aw_region (by decide) ?_
      refine rts _ rfl (opD_fieldAddr fo86_4_W6B (os rfl (os rfl oz))) ?_
      refine rts _ rfl (opD_load_aggX ag84_W6B sz84_W6B lz (loc_getN rfl rfl) (by rw [kDir_len]; decide) (kDir_w_M _)) ?_
      refine rts _ rfl (opD_move (ls rfl (ls rfl (os rfl oz)))) ?_
      replace h0 := bnd_some h0
      obtain ⟨x_3, hx_3, h0⟩ := h0
      refine rts _ rfl (opD_pure ht96_W6B (c_mLeave hx_3) ⟨le_of_eq (ls rfl lz), le_of_eq lz, trivial⟩) ?_
      refine rts _ rfl (opD_move lz) ?_
      refine rts _ rfl (opD_extract lz rfl) ?_
      refine rts _ rfl (opD_extract (ls rfl lz) rfl) ?_
      refine rts _ rfl (opD_fieldAddr fo86_4_W6B (ls rfl (ls rfl (ls rfl (ls rfl (ls rfl (ls rfl (ls rfl (os rfl (os rfl oz)))))))))) ?_
      replace h0 := grd_some h0
      obtain ⟨hg_2, h0⟩ := h0
      refine rts _ rfl (storeAN (cs' := kDir.cs ({ ({ x_2.1 with L := aset 16 (default : Tenant) x_2.1.L x_1.1.toNat (⟨0, 0, []⟩ : Tenant) } : Dir) with M := x_3.1 } : Dir)) rfl sz84_W6B lz (ls rfl (ls rfl lz)) ones_flat rfl (by rw [flat_length, hg_2]; rfl) (by rw [kDir_len]; decide) (by intro h_; have := congrArg List.length h_; rw [kDir_len] at this; cases this) (flatKB (kb_I _)) (kDir_m_M _ hg_2) (by simp only [znz] <;> rfl)) ?_
      refine rts _ rfl (opD_assign (lx (ls rfl lz))) ?_
      refine .nil ?_
      refine aw_keep [(4, _), (7, _), (8, _)] ⟨lg (ls rfl (lx (ls rfl (ls rfl (ls rfl (ls rfl (ls rfl (ls rfl (ls rfl (ls rfl oz)))))))))), lg lz, lg (ls rfl (lx (ls rfl (ls rfl (ls rfl (ls rfl (ls rfl (ls rfl (ls rfl (ls rfl (os rfl (os rfl oz)))))))))))), trivial⟩ ?_
      refine aw_seq ?_
      refine aw_region (by decide) ?_
      refine rts _ rfl (opD_load_aggX ag86_W6B sz86_W6B (os rfl (os rfl oz)) (loc_getN rfl rfl) (by rw [kDir_len]; exact Nat.le_refl _) (kDir_full _)) ?_
      refine rts _ rfl (opD_move (ls rfl (os rfl oz))) ?_
      refine rts _ rfl (storeAN (cs' := kDir.cs ({ ({ x_2.1 with L := aset 16 (default : Tenant) x_2.1.L x_1.1.toNat (⟨0, 0, []⟩ : Tenant) } : Dir) with M := x_3.1 } : Dir)) rfl sz86_W6B (ls rfl (ls rfl oz)) (ls rfl lz) (fun p_ h_ => kDir.one _ p_ h_) rfl (kDir_len _) (by rw [kDir_len]; exact Nat.le_refl _) (by intro h_; have := congrArg List.length h_; rw [kDir_len] at this; cases this) (kb_Dir _ _ _) (kDir_put _ _) (by simp only [znz] <;> rfl)) ?_
      refine rts _ rfl (opD_assign (lx lz)) ?_
      refine .nil ?_
      refine aw_keep [(4, _), (5, _)] ⟨lg (ls rfl (lx (ls rfl (ls rfl oz)))), lg lz, trivial⟩ ?_
      refine aw_ret ?_
      obtain rfl := some_of h0
      exact done_ext (.inr rfl) ((res_list (rs := [_, _]) (ps := [_, _]) rfl rfl ⟨it_cellA (B := ⟨86, kDir.cs ({ ({ x_2.1 with L := aset 16 (default : Tenant) x_2.1.L x_1.1.toNat (⟨0, 0, []⟩ : Tenant) } : Dir) with M := x_3.1 } : Dir)⟩) ag86_W6B sz86_W6B oz (loc_getN rfl rfl) (kDir_len _), it_tmp (os rfl oz), trivial⟩).le (tup_le ⟨zLr, zLr, trivial⟩)) (tup_bnd (zbc (agg_bnd (kb_Dir _ _ _)) (zbc zPb bnd_nil)))

def F_dLink (fl : Nat) (p0 : Dir) (p1 : Int) (p2 : Int) (p3 : Bool) : Option (Dir × (Option Int)) :=
  bnd (F_dPlace fl p0 p1) fun x_1 => ifb x_1.2.isSome (some ((default : Dir), x_1.2)) (bnd (F_dPlace fl p0 p2) fun x_2 => ifb x_2.2.isSome (some ((default : Dir), x_2.2)) (ifb (decide (x_1.1 = x_2.1)) (some ((default : Dir), some 1)) (bnd (F_dnext fl p0) fun x_3 => ifb x_3.2.isSome (some ((default : Dir), x_3.2)) (ifb p3 (bnd (F_mOpen fl (nrm 16 (0 : Int) x_3.1.M) x_1.1 x_2.1) fun x_4 => grd (x_4.1.length = 16) <| some (({ x_3.1 with M := x_4.1 } : Dir), x_4.2)) (bnd (F_mClose fl (nrm 16 (0 : Int) x_3.1.M) x_1.1 x_2.1) fun x_5 => grd (x_5.1.length = 16) <| some (({ x_3.1 with M := x_5.1 } : Dir), x_5.2))))))
set_option maxRecDepth 100000 in
set_option maxHeartbeats 2000000 in
theorem c_dLink {fl : Nat} {p0 : Dir} {p1 : Int} {p2 : Int} {p3 : Bool} {R : Dir × (Option Int)} (h0 : F_dLink fl p0 p1 p2 p3 = some R) : Pure Tryd.prog 47 [agg (kDir.cs p0), pl (.int .u64 p1), pl (.int .u64 p2), pl (.bool p3)] (tup [agg (kDir.cs R.1), pl (errV R.2)]) := by
  intro s
  unfold F_dLink at h0
  refine ac_of_aw s.boxes.length s.fr.length Tryd.func47 rfl (by simp [Tryd.ntmps47]) ?_
  refine aw_ext0 ?_
  refine aw_keep [(0, _), (1, _), (2, _), (3, _)] ⟨lg ez, lg (es ez), lg (es (es ez)), lg (es (es (es ez))), trivial⟩ ?_
  refine aw_seq ?_
  refine aw_region (by decide) ?_
  refine rts _ rfl (boxAN (n := 0) rfl oz (kb_Dir _ _ _) (by first | exact List.length_nil | (simp only [List.length_cons, List.length_nil, Nat.zero_add, Nat.reduceAdd] <;> rfl)) (by simp only [znz] <;> rfl)) ?_
  refine rts _ rfl (opD_wkN rfl (allocN (bs' := [⟨86, (kDir.cs p0)⟩, ⟨86, zl1⟩]) rfl zt86_W6B (by first | exact List.length_nil | (simp only [List.length_cons, List.length_nil, Nat.zero_add, Nat.reduceAdd] <;> rfl)) (by simp only [znz] <;> rfl)) (bxle_same (bxle_cons (B := ⟨86, zl1⟩) (C := ⟨86, kDir.cs (default : Dir)⟩) (@Eq.refl TypeId 86) kDir_zero bxle_nil)) (bl_cons (kb_Dir _ _ _) (bl_cons (kb_Dir _ _ _) bl_nil))) ?_
  refine rts _ rfl (opD_assign (ev_const _ _)) ?_
  refine .nil ?_
  refine aw_keep [(1, _), (2, _), (3, _), (4, _), (8, _)] ⟨lg (ls rfl (ls rfl (ls rfl (os rfl oz)))), lg (ls rfl (ls rfl (ls rfl (os rfl (os rfl oz))))), lg (ls rfl (ls rfl (ls rfl (os rfl (os rfl (os rfl oz)))))), lg (ls rfl (ls rfl lz)), lg (ls rfl lz), trivial⟩ ?_
  refine aw_seq ?_
  refine aw_region (by decide) ?_
  refine rts _ rfl (opD_load_aggX ag86_W6B sz86_W6B (os rfl (os rfl (os rfl oz))) (loc_getN rfl rfl) (by rw [kDir_len]; exact Nat.le_refl _) (kDir_full _)) ?_
  refine rts _ rfl (opD_move (ls rfl oz)) ?_
  replace h0 := bnd_some h0
  obtain ⟨x_1, hx_1, h0⟩ := h0
  refine rts _ rfl (opD_pure ht42_W6B (c_dPlace hx_1) ⟨le_of_eq (ls rfl lz), le_of_eq lz, trivial⟩) ?_
  refine rts _ rfl (opD_move lz) ?_
  refine rts _ rfl (opD_extract lz rfl) ?_
  refine rts _ rfl (opD_extract (ls rfl lz) rfl) ?_
  refine rts _ rfl (opD_assign (ls rfl lz)) ?_
  refine rts _ rfl (opD_assign (ls rfl lz)) ?_
  refine .nil ?_
  refine aw_keep [(2, _), (3, _), (4, _), (8, _), (10, _), (11, _)] ⟨lg (ls rfl (ls rfl (ls rfl (ls rfl (ls rfl (ls rfl (ls rfl (ls rfl (os rfl oz))))))))), lg (ls rfl (ls rfl (ls rfl (ls rfl (ls rfl (ls rfl (ls rfl (ls rfl (os rfl (os rfl oz)))))))))), lg (ls rfl (ls rfl (ls rfl (ls rfl (ls rfl (ls rfl (ls rfl (ls rfl (os rfl (os rfl (os rfl oz))))))))))), lg (ls rfl (ls rfl (ls rfl (ls rfl (ls rfl (ls rfl (ls rfl (ls rfl (os rfl (os rfl (os rfl (os rfl oz)))))))))))), lg (ls rfl lz), lg lz, trivial⟩ ?_
  refine aw_seq ?_
  refine aw_seq ?_
  refine aw_region (by decide) ?_
  refine rts _ rfl (opD_move (os rfl (os rfl (os rfl (os rfl (os rfl oz)))))) ?_
  refine rts _ rfl (opD_bin lz (ev_const _ _) (fun w => errV_guard _ w _) (fun w => errV_beq _ w)) ?_
  refine .nil ?_
  refine aw_keep [(2, _), (3, _), (4, _), (8, _), (10, _), (11, _), (22, _)] ⟨lg (ls rfl (ls rfl oz)), lg (ls rfl (ls rfl (os rfl oz))), lg (ls rfl (ls rfl (os rfl (os rfl oz)))), lg (ls rfl (ls rfl (os rfl (os rfl (os rfl oz))))), lg (ls rfl (ls rfl (os rfl (os rfl (os rfl (os rfl oz)))))), lg (ls rfl (ls rfl (os rfl (os rfl (os rfl (os rfl (os rfl oz))))))), lg lz, trivial⟩ ?_
  refine aw_cond _ (os rfl (os rfl (os rfl (os rfl (os rfl (os rfl oz)))))) (fun hc => ?_) (fun hc => ?_)
  · skip
    replace h0 := ifb_t h0 hc
    clear hc
    refine aw_seq ?_
    refine aw_region (by decide) ?_
    refine rts _ rfl (opD_ple (q := agg (kDir.cs (default : Dir))) rfl (opD_le (opD_build_struct (rs := zl1) Tryd.underlying86 pt86_W6B zt86_W6B parts_nil rfl) (agg_le kDir_zero))) ?_
    refine rts _ rfl (opD_move (ls rfl (os rfl (os rfl (os rfl (os rfl (os rfl oz))))))) ?_
    refine rts _ rfl (storeAN (cs' := kDir.cs (default : Dir)) rfl sz86_W6B (ls rfl (ls rfl (os rfl (os rfl (os rfl oz))))) (ls rfl lz) (fun p_ h_ => kDir.one _ p_ h_) rfl (kDir_len _) (by rw [kDir_len]; exact Nat.le_refl _) (by intro h_; have := congrArg List.length h_; rw [kDir_len] at this; cases this) (kb_Dir _ _ _) (kDir_put _ _) (by simp only [znz] <;> rfl)) ?_
    refine rts _ rfl (opD_assign (lx lz)) ?_
    refine .nil ?_
    refine aw_keep [(8, _), (9, _)] ⟨lg (ls rfl (lx (ls rfl (ls rfl (os rfl (os rfl (os rfl oz))))))), lg lz, trivial⟩ ?_
    refine aw_ret ?_
    obtain rfl := some_of h0
    exact done_ext (.inr rfl) ((res_list (rs := [_, _]) (ps := [_, _]) rfl rfl ⟨it_cellA (B := ⟨86, kDir.cs (default : Dir)⟩) ag86_W6B sz86_W6B oz (loc_getN rfl rfl) (kDir_len _), it_tmp (os rfl oz), trivial⟩).le (tup_le ⟨zLr, zLr, trivial⟩)) (tup_bnd (zbc (agg_bnd (kb_Dir _ _ _)) (zbc zPb bnd_nil)))
  · skip
    replace h0 := ifb_f h0 hc
    clear hc
    refine aw_skip ?_
    refine aw_keep [(2, _), (3, _), (4, _), (8, _), (10, _)] ⟨lg oz, lg (os rfl oz), lg (os rfl (os rfl oz)), lg (os rfl (os rfl (os rfl oz))), lg (os rfl (os rfl (os rfl (os rfl oz)))), trivial⟩ ?_
    refine aw_seq ?_
    refine aw_region (by decide) ?_
    refine rts _ rfl (opD_load_aggX ag86_W6B sz86_W6B (os rfl (os rfl oz)) (loc_getN rfl rfl) (by rw [kDir_len]; exact Nat.le_refl _) (kDir_full _)) ?_
    refine rts _ rfl (opD_move (ls rfl oz)) ?_
    replace h0 := bnd_some h0
    obtain ⟨x_2, hx_2, h0⟩ := h0
    refine rts _ rfl (opD_pure ht42_W6B (c_dPlace hx_2) ⟨le_of_eq (ls rfl lz), le_of_eq lz, trivial⟩) ?_
    refine rts _ rfl (opD_move lz) ?_
    refine rts _ rfl (opD_extract lz rfl) ?_
    refine rts _ rfl (opD_extract (ls rfl lz) rfl) ?_
    refine rts _ rfl (opD_assign (ls rfl lz)) ?_
    refine rts _ rfl (opD_assign (ls rfl lz)) ?_
    refine .nil ?_
    refine aw_keep [(3, _), (4, _), (8, _), (10, _), (11, _), (12, _)] ⟨lg (ls rfl (ls rfl (ls rfl (ls rfl (ls rfl (ls rfl (ls rfl (ls rfl (os rfl oz))))))))), lg (ls rfl (ls rfl (ls rfl (ls rfl (ls rfl (ls rfl (ls rfl (ls rfl (os rfl (os rfl oz)))))))))), lg (ls rfl (ls rfl (ls rfl (ls rfl (ls rfl (ls rfl (ls rfl (ls rfl (os rfl (os rfl (os rfl oz))))))))))), lg (ls rfl (ls rfl (ls rfl (ls rfl (ls rfl (ls rfl (ls rfl (ls rfl (os rfl (os rfl (os rfl (os rfl oz)))))))))))), lg lz, lg (ls rfl lz), trivial⟩ ?_
    refine aw_seq ?_
    refine aw_block ?_
    refine aw_seq ?_
    refine aw_region (by decide) ?_
    refine rts _ rfl (opD_move (os rfl (os rfl (os rfl (os rfl oz))))) ?_
    refine rts _ rfl (opD_bin lz (ev_const _ _) (fun w => errV_guard _ w _) (fun w => errV_beq _ w)) ?_
    refine rts _ rfl (opD_assign lz) ?_
    refine .nil ?_
    refine aw_keep [(3, _), (4, _), (8, _), (10, _), (11, _), (12, _), (31, _)] ⟨lg (ls rfl (ls rfl (ls rfl oz))), lg (ls rfl (ls rfl (ls rfl (os rfl oz)))), lg (ls rfl (ls rfl (ls rfl (os rfl (os rfl oz))))), lg (ls rfl (ls rfl (ls rfl (os rfl (os rfl (os rfl oz)))))), lg (ls rfl (ls rfl (ls rfl (os rfl (os rfl (os rfl (os rfl oz))))))), lg (ls rfl (ls rfl (ls rfl (os rfl (os rfl (os rfl (os rfl (os rfl oz)))))))), lg lz, trivial⟩ ?_
    refine aw_cond _ (os rfl (os rfl (os rfl (os rfl (os rfl (os rfl oz)))))) (fun hc => ?_) (fun hc => ?_)
    · skip
      replace h0 := ifb_t h0 hc
      clear hc
      refine aw_seq ?_
      refine aw_region (by decide) ?_
      refine rts _ rfl (opD_ple (q := agg (kDir.cs (default : Dir))) rfl (opD_le (opD_build_struct (rs := zl1) Tryd.underlying86 pt86_W6B zt86_W6B parts_nil rfl) (agg_le kDir_zero))) ?_
      refine rts _ rfl (opD_move (ls rfl (os rfl (os rfl (os rfl (os rfl oz)))))) ?_
      refine rts _ rfl (storeAN (cs' := kDir.cs (default : Dir)) rfl sz86_W6B (ls rfl (ls rfl (os rfl (os rfl oz)))) (ls rfl lz) (fun p_ h_ => kDir.one _ p_ h_) rfl (kDir_len _) (by rw [kDir_len]; exact Nat.le_refl _) (by intro h_; have := congrArg List.length h_; rw [kDir_len] at this; cases this) (kb_Dir _ _ _) (kDir_put _ _) (by simp only [znz] <;> rfl)) ?_
      refine rts _ rfl (opD_assign (lx lz)) ?_
      refine .nil ?_
      refine aw_keep [(8, _), (9, _)] ⟨lg (ls rfl (lx (ls rfl (ls rfl (os rfl (os rfl oz)))))), lg lz, trivial⟩ ?_
      refine aw_ret ?_
      obtain rfl := some_of h0
      exact done_ext (.inr rfl) ((res_list (rs := [_, _]) (ps := [_, _]) rfl rfl ⟨it_cellA (B := ⟨86, kDir.cs (default : Dir)⟩) ag86_W6B sz86_W6B oz (loc_getN rfl rfl) (kDir_len _), it_tmp (os rfl oz), trivial⟩).le (tup_le ⟨zLr, zLr, trivial⟩)) (tup_bnd (zbc (agg_bnd (kb_Dir _ _ _)) (zbc zPb bnd_nil)))
    · skip
      replace h0 := ifb_f h0 hc
      clear hc
      refine aw_seq ?_
      refine aw_region (by decide) ?_
      refine rts _ rfl (opD_move (os rfl (os rfl (os rfl oz)))) ?_
      refine rts _ rfl (opD_move (ls rfl (os rfl (os rfl (os rfl (os rfl (os rfl oz))))))) ?_
      refine rts _ rfl (opD_eql (ls rfl lz) lz) ?_
      refine rts _ rfl (opD_assign lz) ?_
      refine .nil ?_
      refine aw_keep [(3, _), (4, _), (8, _), (10, _), (12, _), (36, _)] ⟨lg (ls rfl (ls rfl (ls rfl (ls rfl oz)))), lg (ls rfl (ls rfl (ls rfl (ls rfl (os rfl oz))))), lg (ls rfl (ls rfl (ls rfl (ls rfl (os rfl (os rfl oz)))))), lg (ls rfl (ls rfl (ls rfl (ls rfl (os rfl (os rfl (os rfl oz))))))), lg (ls rfl (ls rfl (ls rfl (ls rfl (os rfl (os rfl (os rfl (os rfl (os rfl oz))))))))), lg lz, trivial⟩ ?_
      refine aw_cond _ (os rfl (os rfl (os rfl (os rfl (os rfl oz))))) (fun hc => ?_) (fun hc => ?_)
      · skip
        replace h0 := ifb_t h0 hc
        clear hc
        refine aw_seq ?_
        refine aw_region (by decide) ?_
        refine rts _ rfl (opD_ple (q := agg (kDir.cs (default : Dir))) rfl (opD_le (opD_build_struct (rs := zl1) Tryd.underlying86 pt86_W6B zt86_W6B parts_nil rfl) (agg_le kDir_zero))) ?_
        refine rts _ rfl (opD_ple (q := pl (errV (some 1))) rfl (opD_makeInterface_pl cc145_W6B (ev_const _ _))) ?_
        refine rts _ rfl (storeAN (cs' := kDir.cs (default : Dir)) rfl sz86_W6B (ls rfl (ls rfl (os rfl (os rfl oz)))) (ls rfl lz) (fun p_ h_ => kDir.one _ p_ h_) rfl (kDir_len _) (by rw [kDir_len]; exact Nat.le_refl _) (by intro h_; have := congrArg List.length h_; rw [kDir_len] at this; cases this) (kb_Dir _ _ _) (kDir_put _ _) (by simp only [znz] <;> rfl)) ?_
        refine rts _ rfl (opD_assign (lx lz)) ?_
        refine .nil ?_
        refine aw_keep [(8, _), (9, _)] ⟨lg (ls rfl (lx (ls rfl (ls rfl (os rfl (os rfl oz)))))), lg lz, trivial⟩ ?_
        refine aw_ret ?_
        obtain rfl := some_of h0
        exact done_ext (.inr rfl) ((res_list (rs := [_, _]) (ps := [_, _]) rfl rfl ⟨it_cellA (B := ⟨86, kDir.cs (default : Dir)⟩) ag86_W6B sz86_W6B oz (loc_getN rfl rfl) (kDir_len _), it_tmp (os rfl oz), trivial⟩).le (tup_le ⟨zLr, zLr, trivial⟩)) (tup_bnd (zbc (agg_bnd (kb_Dir _ _ _)) (zbc zPb bnd_nil)))
      · skip
        replace h0 := ifb_f h0 hc
        clear hc
        refine aw_skip ?_
        refine aw_keep [(3, _), (4, _), (8, _), (10, _), (12, _)] ⟨lg oz, lg (os rfl oz), lg (os rfl (os rfl oz)), lg (os rfl (os rfl (os rfl oz))), lg (os rfl (os rfl (os rfl (os rfl oz)))), trivial⟩ ?_
        refine aw_seq ?_
        refine aw_region (by decide) ?_
        refine rts _ rfl (opD_load_aggX ag86_W6B sz86_W6B (os rfl oz) (loc_getN rfl rfl) (by rw [kDir_len]; exact Nat.le_refl _) (kDir_full _)) ?_
        replace h0 := bnd_some h0
        obtain ⟨x_3, hx_3, h0⟩ := h0
        refine rts _ rfl (opD_pure ht93_W6B (c_dnext hx_3) ⟨le_of_eq lz, trivial⟩) ?_
        refine rts _ rfl (opD_move lz) ?_
        refine rts _ rfl (opD_extract lz rfl) ?_
        refine rts _ rfl (opD_extract (ls rfl lz) rfl) ?_
        refine rts _ rfl (opD_wkN rfl (allocN (bs' := [⟨86, (kDir.cs p0)⟩, ⟨86, (kDir.cs (default : Dir))⟩, ⟨86, zl1⟩]) rfl zt86_W6B (by first | exact List.length_nil | (simp only [List.length_cons, List.length_nil, Nat.zero_add, Nat.reduceAdd] <;> rfl)) (by simp only [znz] <;> rfl)) (bxle_same (bxle_same (bxle_cons (B := ⟨86, zl1⟩) (C := ⟨86, kDir.cs (default : Dir)⟩) (@Eq.refl TypeId 86) kDir_zero bxle_nil))) (bl_cons (kb_Dir _ _ _) (bl_cons (kb_Dir _ _ _) (bl_cons (kb_Dir _ _ _) bl_nil)))) ?_
        refine rts _ rfl (storeAN (cs' := kDir.cs x_3.1) rfl sz86_W6B lz (ls rfl (ls rfl lz)) (fun p_ h_ => kDir.one _ p_ h_) rfl (kDir_len _) (by rw [kDir_len]; exact Nat.le_refl _) (by intro h_; have := congrArg List.length h_; rw [kDir_len] at this; cases this) (kb_Dir _ _ _) (kDir_put _ _) (by simp only [znz] <;> rfl)) ?_
        refine rts _ rfl (opD_assign (lx (ls rfl lz))) ?_
        refine .nil ?_
        refine aw_keep [(3, _), (8, _), (10, _), (11, _), (12, _), (13, _)] ⟨lg (ls rfl (lx (ls rfl (ls rfl (ls rfl (ls rfl (ls rfl (ls rfl oz)))))))), lg (ls rfl (lx (ls rfl (ls rfl (ls rfl (ls rfl (ls rfl (ls rfl (os rfl (os rfl oz)))))))))), lg (ls rfl (lx (ls rfl (ls rfl (ls rfl (ls rfl (ls rfl (ls rfl (os rfl (os rfl (os rfl oz))))))))))), lg lz, lg (ls rfl (lx (ls rfl (ls rfl (ls rfl (ls rfl (ls rfl (ls rfl (os rfl (os rfl (os rfl (os rfl oz)))))))))))), lg (ls rfl (lx lz)), trivial⟩ ?_
        refine aw_seq ?_
        refine aw_seq ?_
        refine aw_region (by decide) ?_
        refine rts _ rfl (opD_move (os rfl (os rfl (os rfl oz)))) ?_
        refine rts _ rfl (opD_bin lz (ev_const _ _) (fun w => errV_guard _ w _) (fun w => errV_beq _ w)) ?_
        refine .nil ?_
        refine aw_keep [(3, _), (8, _), (10, _), (11, _), (12, _), (13, _), (48, _)] ⟨lg (ls rfl (ls rfl oz)), lg (ls rfl (ls rfl (os rfl oz))), lg (ls rfl (ls rfl (os rfl (os rfl oz)))), lg (ls rfl (ls rfl (os rfl (os rfl (os rfl oz))))), lg (ls rfl (ls rfl (os rfl (os rfl (os rfl (os rfl oz)))))), lg (ls rfl (ls rfl (os rfl (os rfl (os rfl (os rfl (os rfl oz))))))), lg lz, trivial⟩ ?_
        refine aw_cond _ (os rfl (os rfl (os rfl (os rfl (os rfl (os rfl oz)))))) (fun hc => ?_) (fun hc => ?_)
        · skip
          replace h0 := ifb_t h0 hc
          clear hc
          refine aw_seq ?_
          refine aw_region (by decide) ?_
          refine rts _ rfl (opD_ple (q := agg (kDir.cs (default : Dir))) rfl (opD_le (opD_build_struct (rs := zl1) Tryd.underlying86 pt86_W6B zt86_W6B parts_nil rfl) (agg_le kDir_zero))) ?_
          refine rts _ rfl (opD_move (ls rfl (os rfl (os rfl (os rfl oz))))) ?_
          refine rts _ rfl (storeAN (cs' := kDir.cs (default : Dir)) rfl sz86_W6B (ls rfl (ls rfl (os rfl oz))) (ls rfl lz) (fun p_ h_ => kDir.one _ p_ h_) rfl (kDir_len _) (by rw [kDir_len]; exact Nat.le_refl _) (by intro h_; have := congrArg List.length h_; rw [kDir_len] at this; cases this) (kb_Dir _ _ _) (kDir_put _ _) (by simp only [znz] <;> rfl)) ?_
          refine rts _ rfl (opD_assign (lx lz)) ?_
          refine .nil ?_
          refine aw_keep [(8, _), (9, _)] ⟨lg (ls rfl (lx (ls rfl (ls rfl (os rfl oz))))), lg lz, trivial⟩ ?_
          refine aw_ret ?_
          obtain rfl := some_of h0
          exact done_ext (.inr rfl) ((res_list (rs := [_, _]) (ps := [_, _]) rfl rfl ⟨it_cellA (B := ⟨86, kDir.cs (default : Dir)⟩) ag86_W6B sz86_W6B oz (loc_getN rfl rfl) (kDir_len _), it_tmp (os rfl oz), trivial⟩).le (tup_le ⟨zLr, zLr, trivial⟩)) (tup_bnd (zbc (agg_bnd (kb_Dir _ _ _)) (zbc zPb bnd_nil)))
        · skip
          replace h0 := ifb_f h0 hc
          clear hc
          refine aw_skip ?_
          refine aw_keep [(3, _), (8, _), (10, _), (12, _), (13, _)] ⟨lg oz, lg (os rfl oz), lg (os rfl (os rfl oz)), lg (os rfl (os rfl (os rfl (os rfl oz)))), lg (os rfl (os rfl (os rfl (os rfl (os rfl oz))))), trivial⟩ ?_
          refine aw_seq ?_
          refine aw_region (by decide) ?_
          refine rts _ rfl (opD_assign (ev_func _ _)) ?_
          refine .nil ?_
          refine aw_keep [(3, _), (8, _), (10, _), (12, _), (13, _), (14, _)] ⟨lg (ls rfl oz), lg (ls rfl (os rfl oz)), lg (ls rfl (os rfl (os rfl oz))), lg (ls rfl (os rfl (os rfl (os rfl oz)))), lg (ls rfl (os rfl (os rfl (os rfl (os rfl oz))))), lg lz, trivial⟩ ?_
          refine aw_seq ?_
          refine aw_seq ?_
          refine aw_region (by decide) ?_
          refine rts _ rfl (opD_move oz) ?_
          refine .nil ?_
          refine aw_keep [(8, _), (10, _), (12, _), (13, _), (14, _), (51, _)] ⟨lg (ls rfl (os rfl oz)), lg (ls rfl (os rfl (os rfl oz))), lg (ls rfl (os rfl (os rfl (os rfl oz)))), lg (ls rfl (os rfl (os rfl (os rfl (os rfl oz))))), lg (ls rfl (os rfl (os rfl (os rfl (os rfl (os rfl oz)))))), lg lz, trivial⟩ ?_
          refine aw_cond _ (os rfl (os rfl (os rfl (os rfl (os rfl oz))))) (fun hc => ?_) (fun hc => ?_)
          · skip
            replace h0 := ifb_t h0 hc
            clear hc
            refine aw_region (by decide) ?_
            refine rts _ rfl (opD_assign (ev_func _ _)) ?_
            refine .nil ?_
            refine aw_keep [(8, _), (10, _), (12, _), (13, _), (14, _)] ⟨lg (ls rfl oz), lg (ls rfl (os rfl oz)), lg (ls rfl (os rfl (os rfl oz))), lg (ls rfl (os rfl (os rfl (os rfl oz)))), lg lz, trivial⟩ ?_
            refine aw_seq ?_
            refine aw_region (by decide) ?_
            refine rts _ rfl (opD_move (os rfl (os rfl (os rfl (os rfl oz))))) ?_
            refine rts _ rfl (opD_fieldAddr fo86_4_W6B (ls rfl (os rfl (os rfl (os rfl oz))))) ?_
            refine rts _ rfl (opD_load_aggX ag84_W6B sz84_W6B lz (loc_getN rfl rfl) (by rw [kDir_len]; decide) (kDir_w_M _)) ?_
            refine rts _ rfl (opD_move (ls rfl (ls rfl (ls rfl (os rfl oz))))) ?_
            refine rts _ rfl (opD_move (ls rfl (ls rfl (ls rfl (ls rfl (os rfl (os rfl oz))))))) ?_
            replace h0 := bnd_some h0
            obtain ⟨x_4, hx_4, h0⟩ := h0
            refine rts _ rfl (opD_pureD (ls rfl (ls rfl (ls rfl (ls rfl lz)))) ht98_W6B (c_mOpen hx_4) ⟨le_of_eq (ls rfl (ls rfl lz)), le_of_eq (ls rfl lz), le_of_eq lz, trivial⟩) ?_
            refine rts _ rfl (opD_move lz) ?_
            refine rts _ rfl (opD_extract lz rfl) ?_
            refine rts _ rfl (opD_extract (ls rfl lz) rfl) ?_
            refine rts _ rfl (opD_fieldAddr fo86_4_W6B (ls rfl (ls rfl (ls rfl (ls rfl (ls rfl (ls rfl (ls rfl (ls rfl (ls rfl (os rfl (os rfl (os rfl oz))))))))))))) ?_
            replace h0 := grd_some h0
            obtain ⟨hg_1, h0⟩ := h0
            refine rts _ rfl (storeAN (cs' := kDir.cs ({ x_3.1 with M := x_4.1 } : Dir)) rfl sz84_W6B lz (ls rfl (ls rfl lz)) ones_flat rfl (by rw [flat_length, hg_1]; rfl) (by rw [kDir_len]; decide) (by intro h_; have := congrArg List.length h_; rw [kDir_len] at this; cases this) (flatKB (kb_I _)) (kDir_m_M _ hg_1) (by simp only [znz] <;> rfl)) ?_
            refine rts _ rfl (opD_assign (lx (ls rfl lz))) ?_
            refine .nil ?_
            refine aw_keep [(8, _), (11, _), (13, _)] ⟨lg (ls rfl (lx (ls rfl (ls rfl (ls rfl (ls rfl (ls rfl (ls rfl (ls rfl (ls rfl (ls rfl (ls rfl oz)))))))))))), lg lz, lg (ls rfl (lx (ls rfl (ls rfl (ls rfl (ls rfl (ls rfl (ls rfl (ls rfl (ls rfl (ls rfl (ls rfl (os rfl (os rfl (os rfl oz))))))))))))))), trivial⟩ ?_
            refine aw_seq ?_
            refine aw_region (by decide) ?_
            refine rts _ rfl (opD_load_aggX ag86_W6B sz86_W6B (os rfl (os rfl oz)) (loc_getN rfl rfl) (by rw [kDir_len]; exact Nat.le_refl _) (kDir_full _)) ?_
            refine rts _ rfl (opD_move (ls rfl (os rfl oz))) ?_
            refine rts _ rfl (storeAN (cs' := kDir.cs ({ x_3.1 with M := x_4.1 } : Dir)) rfl sz86_W6B (ls rfl (ls rfl oz)) (ls rfl lz) (fun p_ h_ => kDir.one _ p_ h_) rfl (kDir_len _) (by rw [kDir_len]; exact Nat.le_refl _) (by intro h_; have := congrArg List.length h_; rw [kDir_len] at this; cases this) (kb_Dir _ _ _) (kDir_put _ _) (by simp only [znz] <;> rfl)) ?_
            refine rts _ rfl (opD_assign (lx lz)) ?_
            refine .nil ?_
            refine aw_keep [(8, _), (9, _)] ⟨lg (ls rfl (lx (ls rfl (ls rfl oz)))), lg lz, trivial⟩ ?_
            refine aw_ret ?_
            obtain rfl := some_of h0
            exact done_ext (.inr rfl) ((res_list (rs := [_, _]) (ps := [_, _]) rfl rfl ⟨it_cellA (B := ⟨86, kDir.cs ({ x_3.1 with M := x_4.1 } : Dir)⟩) ag86_W6B sz86_W6B oz (loc_getN rfl rfl) (kDir_len _), it_tmp (os rfl oz), trivial⟩).le (tup_le ⟨zLr, zLr, trivial⟩)) (tup_bnd (zbc (agg_bnd (kb_Dir _ _ _)) (zbc zPb bnd_nil)))
          · skip
            replace h0 := ifb_f h0 hc
            clear hc
            refine aw_skip ?_
            refine aw_keep [(8, _), (10, _), (12, _), (13, _), (14, _)] ⟨lg oz, lg (os rfl oz), lg (os rfl (os rfl oz)), lg (os rfl (os rfl (os rfl oz))), lg (os rfl (os rfl (os rfl (os rfl oz)))), trivial⟩ ?_
            refine aw_seq ?_
            refine aw_region (by decide) ?_
            refine rts _ rfl (opD_move (os rfl (os rfl (os rfl (os rfl oz))))) ?_
            refine rts _ rfl (opD_fieldAddr fo86_4_W6B (ls rfl (os rfl (os rfl (os rfl oz))))) ?_
            refine rts _ rfl (opD_load_aggX ag84_W6B sz84_W6B lz (loc_getN rfl rfl) (by rw [kDir_len]; decide) (kDir_w_M _)) ?_
            refine rts _ rfl (opD_move (ls rfl (ls rfl (ls rfl (os rfl oz))))) ?_
            refine rts _ rfl (opD_move (ls rfl (ls rfl (ls rfl (ls rfl (os rfl (os rfl oz))))))) ?_
            replace h0 := bnd_some h0
            obtain ⟨x_5, hx_5, h0⟩ := h0
            refine rts _ rfl (opD_pureD (ls rfl (ls rfl (ls rfl (ls rfl lz)))) ht97_W6B (c_mClose hx_5) ⟨le_of_eq (ls rfl (ls rfl lz)), le_of_eq (ls rfl lz), le_of_eq lz, trivial⟩) ?_
            refine rts _ rfl (opD_move lz) ?_
            refine rts _ rfl (opD_extract lz rfl) ?_
            refine rts _ rfl (opD_extract (ls rfl lz) rfl) ?_
            refine rts _ rfl (opD_fieldAddr fo86_4_W6B (ls rfl (ls rfl (ls rfl (ls rfl (ls rfl (ls rfl (ls rfl (ls rfl (ls rfl (os rfl (os rfl (os rfl oz))))))))))))) ?_
            replace h0 := grd_some h0
            obtain ⟨hg_2, h0⟩ := h0
            refine rts _ rfl (storeAN (cs' := kDir.cs ({ x_3.1 with M := x_5.1 } : Dir)) rfl sz84_W6B lz (ls rfl (ls rfl lz)) ones_flat rfl (by rw [flat_length, hg_2]; rfl) (by rw [kDir_len]; decide) (by intro h_; have := congrArg List.length h_; rw [kDir_len] at this; cases this) (flatKB (kb_I _)) (kDir_m_M _ hg_2) (by simp only [znz] <;> rfl)) ?_
            refine rts _ rfl (opD_assign (lx (ls rfl lz))) ?_
            refine .nil ?_
            refine aw_keep [(8, _), (11, _), (13, _)] ⟨lg (ls rfl (lx (ls rfl (ls rfl (ls rfl (ls rfl (ls rfl (ls rfl (ls rfl (ls rfl (ls rfl (ls rfl oz)))))))))))), lg lz, lg (ls rfl (lx (ls rfl (ls rfl (ls rfl (ls rfl (ls rfl (ls rfl (ls rfl (ls rfl (ls rfl (ls rfl (os rfl (os rfl (os rfl oz))))))))))))))), trivial⟩ ?_
            refine aw_seq ?_
            refine aw_region (by decide) ?_
            refine rts _ rfl (opD_load_aggX ag86_W6B sz86_W6B (os rfl (os rfl oz)) (loc_getN rfl rfl) (by rw [kDir_len]; exact Nat.le_refl _) (kDir_full _)) ?_
            refine rts _ rfl (opD_move (ls rfl (os rfl oz))) ?_
            refine rts _ rfl (storeAN (cs' := kDir.cs ({ x_3.1 with M := x_5.1 } : Dir)) rfl sz86_W6B (ls rfl (ls rfl oz)) (ls rfl lz) (fun p_ h_ => kDir.one _ p_ h_) rfl (kDir_len _) (by rw [kDir_len]; exact Nat.le_refl _) (by intro h_; have := congrArg List.length h_; rw [kDir_len] at this; cases this) (kb_Dir _ _ _) (kDir_put _ _) (by simp only [znz] <;> rfl)) ?_
            refine rts _ rfl (opD_assign (lx lz)) ?_
            refine .nil ?_
            refine aw_keep [(8, _), (9, _)] ⟨lg (ls rfl (lx (ls rfl (ls rfl oz)))), lg lz, trivial⟩ ?_
            refine aw_ret ?_
            obtain rfl := some_of h0
            exact done_ext (.inr rfl) ((res_list (rs := [_, _]) (ps := [_, _]) rfl rfl ⟨it_cellA (B := ⟨86, kDir.cs ({ x_3.1 with M := x_5.1 } : Dir)⟩) ag86_W6B sz86_W6B oz (loc_getN rfl rfl) (kDir_len _), it_tmp (os rfl oz), trivial⟩).le (tup_le ⟨zLr, zLr, trivial⟩)) (tup_bnd (zbc (agg_bnd (kb_Dir _ _ _)) (zbc zPb bnd_nil)))
end Go.Proofs.YtokcgacehdgkcaaDoor.Eng.A

namespace Go.Proofs.YtokcgacehdgkcaaDoor.Eng.A
set_option linter.unusedVariables false
set_option linter.unusedSimpArgs false
open Go.RowKit Go.Proofs.YtokcgacehdgkcaaDoor.Plain Go.Proofs.YtokcgacehdgkcaaDoor.Eng Go.Proofs.YtokcgacehdgkcaaDoor.Eng.Pk Go.Proofs.YtokcgacehdgkcaaDoor.Eng.Rd

theorem zt86_W6C : zeroT Tryd.prog 86 = some [.int .u64 0, .int .u64 0, .int .i64 0, .int .u64 0, .int .u64 0, .slice none 0 0, .int .u64 0, .int .u64 0, .slice none 0 0, .int .u64 0, .int .u64 0, .slice none 0 0, .int .u64 0, .int .u64 0, .slice none 0 0, .int .u64 0, .int .u64 0, .slice none 0 0, .int .u64 0, .int .u64 0, .slice none 0 0, .int .u64 0, .int .u64 0, .slice none 0 0, .int .u64 0, .int .u64 0, .slice none 0 0, .int .u64 0, .int .u64 0, .slice none 0 0, .int .u64 0, .int .u64 0, .slice none 0 0, .int .u64 0, .int .u64 0, .slice none 0 0, .int .u64 0, .int .u64 0, .slice none 0 0, .int .u64 0, .int .u64 0, .slice none 0 0, .int .u64 0, .int .u64 0, .slice none 0 0, .int .u64 0, .int .u64 0, .slice none 0 0, .int .u64 0, .int .u64 0, .slice none 0 0, .int .u16 0, .int .u16 0, .int .u16 0, .int .u16 0, .int .u16 0, .int .u16 0, .int .u16 0, .int .u16 0, .int .u16 0, .int .u16 0, .int .u16 0, .int .u16 0, .int .u16 0, .int .u16 0, .int .u16 0, .int .u16 0] := by kernel_rfl
theorem ag86_W6C : aggT Tryd.prog 86 = some true := by kernel_rfl
theorem sz86_W6C : sizeT Tryd.prog 86 = some 67 := by kernel_rfl
theorem ht48_W6C : hasText Tryd.prog 48 = true := by kernel_rfl
theorem pt86_W6C : placesT Tryd.prog 86 5 = some [(0, 1), (1, 1), (2, 1), (3, 48), (51, 16)] := by kernel_rfl
theorem cc145_W6C : Tryd.prog.concrete 145 = true := by kernel_rfl
theorem ht42_W6C : hasText Tryd.prog 42 = true := by kernel_rfl
theorem ht92_W6C : hasText Tryd.prog 92 = true := by kernel_rfl
theorem fo86_3_W6C : fieldOff Tryd.prog 86 3 = some 3 := by kernel_rfl
theorem sz81_W6C : sizeT Tryd.prog 81 = some 3 := by kernel_rfl
theorem fo81_2_W6C : fieldOff Tryd.prog 81 2 = some 2 := by kernel_rfl
theorem ag79_W6C : aggT Tryd.prog 79 = some false := by kernel_rfl
theorem ht93_W6C : hasText Tryd.prog 93 = true := by kernel_rfl
theorem el114_W6C : elT Tryd.prog 114 = some (2, 16) := by kernel_rfl
theorem sz79_W6C : sizeT Tryd.prog 79 = some 1 := by kernel_rfl

open Go.Proofs.YtokcgacehdgkcaaDoor.Eng.Er Go.Proofs.YtokcgacehdgkcaaDoor.Eng.Er2 Go.Proofs.YtokcgacehdgkcaaDoor.Eng.Ha

theorem opD_callR {P : Program} {e : Env} {s : St} {bs : List Bx} {fs : List Fr} {dst : Option Tmp} {ty : TypeId} {pos : String} {after : Array Edge} {guard : Option (Nat × Bool)} {f : FuncId} {xs : List Operand} {ats : Array TypeId} {ps : List Pd} (p : Nat → Pd) {F : Fr} {fs' : List Fr} {m : Nat} (hf : hasText P f = true) (hc : ∀ s_ : St, AC P f ps s_ (p s_.fr.length) (s_.ext [] [F])) (hx : Args e xs ps) (hm : fs.length = m) (h' : fs ++ [F] = fs') :
    OpD P ⟨dst, .call { callee := .value (.func f), args := xs.toArray, argTypes := ats }, ty, pos, after, guard⟩ e (s.ext bs fs) (p (s.fr.length + m)) (s.ext bs fs') := by
  subst hm; subst h'
  have := opD_call (P := P) (dst := dst) (ty := ty) (pos := pos) (after := after) (guard := guard) (ats := ats) hf (hc (s.ext bs fs)) hx
  rw [ext_fr_length, ext_ext, List.append_nil] at this
  exact this
theorem kDq_w (i0 : Nat) (h : i0 < 16) (x : Dir) (o : Option Nat) {l : List Stx} : (kDq o i0 x).set (3 + i0 * 3 + 2) (sl kStx none none l) = kDir.cs { x with L := aset 16 (default : Tenant) x.L i0 ⟨(x.L.getD i0 (default : Tenant)).ID, (x.L.getD i0 (default : Tenant)).Gen, l⟩ } := by rw [kDq_s0 x h, kDq_none h]

def F_dGrow (fl : Nat) (p0 : Dir) (p1 : Int) (p2 : Int) : Option (Dir × (Option Int)) :=
  bnd (F_dCheck fl p0) fun x_1 => ifb ((x_1.isSome || (decide (p2 < 1))) || (decide (1024 < p2))) (some ((default : Dir), some 1)) (bnd (F_dPlace fl p0 p1) fun x_2 => ifb x_2.2.isSome (some ((default : Dir), x_2.2)) (bnd (F_dreserve fl p0 p2) fun x_3 => grd ((x_3.2.isSome == false) = true → Below x_2.1 16) <| ifb (x_3.2.isSome || (decide (8 < (IntKind.i64.wrap ((x_3.1.length : Int) + (((p0.L.getD x_2.1.toNat (default : Tenant)).Ext).length : Int)))))) (some ((default : Dir), some 7)) (grd (x_2.1.toNat < 16) <| bnd (F_dnext fl p0) fun x_4 => ifb x_4.2.isSome (some ((default : Dir), x_4.2)) (grd (Below x_2.1 16) <| grd (Fits 16 (((x_4.1.L.getD x_2.1.toNat (default : Tenant)).Ext).length + x_3.1.length)) <| grd (Below x_2.1 16) <| some (({ x_4.1 with L := aset 16 (default : Tenant) x_4.1.L x_2.1.toNat (⟨(x_4.1.L.getD x_2.1.toNat (default : Tenant)).ID, (x_4.1.L.getD x_2.1.toNat (default : Tenant)).Gen, (((x_4.1.L.getD x_2.1.toNat (default : Tenant)).Ext) ++ x_3.1)⟩ : Tenant) } : Dir), none)))))
set_option maxRecDepth 100000 in
set_option maxHeartbeats 2000000 in
theorem c_dGrow {fl : Nat} {p0 : Dir} {p1 : Int} {p2 : Int} {R : Dir × (Option Int)} (h0 : F_dGrow fl p0 p1 p2 = some R) : Pure Tryd.prog 46 [agg (kDir.cs p0), pl (.int .u64 p1), pl (.int .i64 p2)] (tup [agg (kDir.cs R.1), pl (errV R.2)]) := by
  intro s
  unfold F_dGrow at h0
  refine ac_of_aw s.boxes.length s.fr.length Tryd.func46 rfl (by simp [Tryd.ntmps46]) ?_
  refine aw_ext0 ?_
  refine aw_keep [(0, _), (1, _), (2, _)] ⟨lg ez, lg (es ez), lg (es (es ez)), trivial⟩ ?_
  refine aw_seq ?_
  refine aw_region (by decide) ?_
  refine rts _ rfl (boxAN (n := 0) rfl oz (kb_Dir _ _ _) (by first | exact List.length_nil | (simp only [List.length_cons, List.length_nil, Nat.zero_add, Nat.reduceAdd] <;> rfl)) (by simp only [znz] <;> rfl)) ?_
  refine rts _ rfl (opD_wkN rfl (allocN (bs' := [⟨86, (kDir.cs p0)⟩, ⟨86, zl1⟩]) rfl zt86_W6C (by first | exact List.length_nil | (simp only [List.length_cons, List.length_nil, Nat.zero_add, Nat.reduceAdd] <;> rfl)) (by simp only [znz] <;> rfl)) (bxle_same (bxle_cons (B := ⟨86, zl1⟩) (C := ⟨86, kDir.cs (default : Dir)⟩) (@Eq.refl TypeId 86) kDir_zero bxle_nil)) (bl_cons (kb_Dir _ _ _) (bl_cons (kb_Dir _ _ _) bl_nil))) ?_
  refine rts _ rfl (opD_assign (ev_const _ _)) ?_
  refine .nil ?_
  refine aw_keep [(1, _), (2, _), (3, _), (6, _)] ⟨lg (ls rfl (ls rfl (ls rfl (os rfl oz)))), lg (ls rfl (ls rfl (ls rfl (os rfl (os rfl oz))))), lg (ls rfl (ls rfl lz)), lg (ls rfl lz), trivial⟩ ?_
  refine aw_seq ?_
  refine aw_seq ?_
  refine aw_region (by decide) ?_
  refine rts _ rfl (opD_load_aggX ag86_W6C sz86_W6C (os rfl (os rfl oz)) (loc_getN rfl rfl) (by rw [kDir_len]; exact Nat.le_refl _) (kDir_full _)) ?_
  replace h0 := bnd_some h0
  obtain ⟨x_1, hx_1, h0⟩ := h0
  refine rts _ rfl (opD_pure ht48_W6C (c_dCheck hx_1) ⟨le_of_eq lz, trivial⟩) ?_
  refine rts _ rfl (opD_bin lz (ev_const _ _) (fun w => errV_guard _ w _) (fun w => errV_beq _ w)) ?_
  refine rts _ rfl (opD_move lz) ?_
  refine rtg _ rfl lz (fun hg1_4_1 => opD_move (ls rfl (ls rfl (ls rfl (ls rfl (os rfl oz)))))) ?_
  refine rtg _ rfl (ls rfl lz) (fun hg1_5_2 => opD_lss (lz.trans (pif_pos hg1_5_2)) (ev_const _ _)) ?_
  refine rts _ rfl (opD_or (ls rfl (ls rfl lz)) lz) ?_
  refine rts _ rfl (opD_move lz) ?_
  refine rtg _ rfl lz (fun hg1_8_3 => opD_move (ls rfl (ls rfl (ls rfl (ls rfl (ls rfl (ls rfl (ls rfl (ls rfl (os rfl oz)))))))))) ?_
  refine rtg _ rfl (ls rfl lz) (fun hg1_9_4 => opD_gtr (lz.trans (pif_pos hg1_9_4)) (ev_const _ _)) ?_
  refine rts _ rfl (opD_or (ls rfl (ls rfl lz)) lz) ?_
  refine .nil ?_
  refine aw_keep [(1, _), (2, _), (3, _), (6, _), (22, _)] ⟨lg (ls rfl (ls rfl (ls rfl (ls rfl (ls rfl (ls rfl (ls rfl (ls rfl (ls rfl (ls rfl (ls rfl oz))))))))))), lg (ls rfl (ls rfl (ls rfl (ls rfl (ls rfl (ls rfl (ls rfl (ls rfl (ls rfl (ls rfl (ls rfl (os rfl oz)))))))))))), lg (ls rfl (ls rfl (ls rfl (ls rfl (ls rfl (ls rfl (ls rfl (ls rfl (ls rfl (ls rfl (ls rfl (os rfl (os rfl oz))))))))))))), lg (ls rfl (ls rfl (ls rfl (ls rfl (ls rfl (ls rfl (ls rfl (ls rfl (ls rfl (ls rfl (ls rfl (os rfl (os rfl (os rfl oz)))))))))))))), lg lz, trivial⟩ ?_
  refine aw_cond _ (os rfl (os rfl (os rfl (os rfl oz)))) (fun hc => ?_) (fun hc => ?_)
  · skip
    replace h0 := ifb_t h0 hc
    clear hc
    refine aw_seq ?_
    refine aw_region (by decide) ?_
    refine rts _ rfl (opD_ple (q := agg (kDir.cs (default : Dir))) rfl (opD_le (opD_build_struct (rs := zl1) Tryd.underlying86 pt86_W6C zt86_W6C parts_nil rfl) (agg_le kDir_zero))) ?_
    refine rts _ rfl (opD_ple (q := pl (errV (some 1))) rfl (opD_makeInterface_pl cc145_W6C (ev_const _ _))) ?_
    refine rts _ rfl (storeAN (cs' := kDir.cs (default : Dir)) rfl sz86_W6C (ls rfl (ls rfl (os rfl (os rfl (os rfl oz))))) (ls rfl lz) (fun p_ h_ => kDir.one _ p_ h_) rfl (kDir_len _) (by rw [kDir_len]; exact Nat.le_refl _) (by intro h_; have := congrArg List.length h_; rw [kDir_len] at this; cases this) (kb_Dir _ _ _) (kDir_put _ _) (by simp only [znz] <;> rfl)) ?_
    refine rts _ rfl (opD_assign (lx lz)) ?_
    refine .nil ?_
    refine aw_keep [(6, _), (7, _)] ⟨lg (ls rfl (lx (ls rfl (ls rfl (os rfl (os rfl (os rfl oz))))))), lg lz, trivial⟩ ?_
    refine aw_ret ?_
    obtain rfl := some_of h0
    exact done_ext (.inr rfl) ((res_list (rs := [_, _]) (ps := [_, _]) rfl rfl ⟨it_cellA (B := ⟨86, kDir.cs (default : Dir)⟩) ag86_W6C sz86_W6C oz (loc_getN rfl rfl) (kDir_len _), it_tmp (os rfl oz), trivial⟩).le (tup_le ⟨zLr, zLr, trivial⟩)) (tup_bnd (zbc (agg_bnd (kb_Dir _ _ _)) (zbc zPb bnd_nil)))
  · skip
    replace h0 := ifb_f h0 hc
    clear hc
    refine aw_skip ?_
    refine aw_keep [(1, _), (2, _), (3, _), (6, _)] ⟨lg oz, lg (os rfl oz), lg (os rfl (os rfl oz)), lg (os rfl (os rfl (os rfl oz))), trivial⟩ ?_
    refine aw_seq ?_
    refine aw_region (by decide) ?_
    refine rts _ rfl (opD_load_aggX ag86_W6C sz86_W6C (os rfl (os rfl oz)) (loc_getN rfl rfl) (by rw [kDir_len]; exact Nat.le_refl _) (kDir_full _)) ?_
    refine rts _ rfl (opD_move (ls rfl oz)) ?_
    replace h0 := bnd_some h0
    obtain ⟨x_2, hx_2, h0⟩ := h0
    refine rts _ rfl (opD_pure ht42_W6C (c_dPlace hx_2) ⟨le_of_eq (ls rfl lz), le_of_eq lz, trivial⟩) ?_
    refine rts _ rfl (opD_move lz) ?_
    refine rts _ rfl (opD_extract lz rfl) ?_
    refine rts _ rfl (opD_extract (ls rfl lz) rfl) ?_
    refine rts _ rfl (opD_assign (ls rfl lz)) ?_
    refine rts _ rfl (opD_assign (ls rfl lz)) ?_
    refine .nil ?_
    refine aw_keep [(2, _), (3, _), (6, _), (8, _), (9, _)] ⟨lg (ls rfl (ls rfl (ls rfl (ls rfl (ls rfl (ls rfl (ls rfl (ls rfl (os rfl oz))))))))), lg (ls rfl (ls rfl (ls rfl (ls rfl (ls rfl (ls rfl (ls rfl (ls rfl (os rfl (os rfl oz)))))))))), lg (ls rfl (ls rfl (ls rfl (ls rfl (ls rfl (ls rfl (ls rfl (ls rfl (os rfl (os rfl (os rfl oz))))))))))), lg (ls rfl lz), lg lz, trivial⟩ ?_
    refine aw_seq ?_
    refine aw_seq ?_
    refine aw_region (by decide) ?_
    refine rts _ rfl (opD_move (os rfl (os rfl (os rfl (os rfl oz))))) ?_
    refine rts _ rfl (opD_bin lz (ev_const _ _) (fun w => errV_guard _ w _) (fun w => errV_beq _ w)) ?_
    refine .nil ?_
    refine aw_keep [(2, _), (3, _), (6, _), (8, _), (9, _), (32, _)] ⟨lg (ls rfl (ls rfl oz)), lg (ls rfl (ls rfl (os rfl oz))), lg (ls rfl (ls rfl (os rfl (os rfl oz)))), lg (ls rfl (ls rfl (os rfl (os rfl (os rfl oz))))), lg (ls rfl (ls rfl (os rfl (os rfl (os rfl (os rfl oz)))))), lg lz, trivial⟩ ?_
    refine aw_cond _ (os rfl (os rfl (os rfl (os rfl (os rfl oz))))) (fun hc => ?_) (fun hc => ?_)
    · skip
      replace h0 := ifb_t h0 hc
      clear hc
      refine aw_seq ?_
      refine aw_region (by decide) ?_
      refine rts _ rfl (opD_ple (q := agg (kDir.cs (default : Dir))) rfl (opD_le (opD_build_struct (rs := zl1) Tryd.underlying86 pt86_W6C zt86_W6C parts_nil rfl) (agg_le kDir_zero))) ?_
      refine rts _ rfl (opD_move (ls rfl (os rfl (os rfl (os rfl (os rfl oz)))))) ?_
      refine rts _ rfl (storeAN (cs' := kDir.cs (default : Dir)) rfl sz86_W6C (ls rfl (ls rfl (os rfl (os rfl oz)))) (ls rfl lz) (fun p_ h_ => kDir.one _ p_ h_) rfl (kDir_len _) (by rw [kDir_len]; exact Nat.le_refl _) (by intro h_; have := congrArg List.length h_; rw [kDir_len] at this; cases this) (kb_Dir _ _ _) (kDir_put _ _) (by simp only [znz] <;> rfl)) ?_
      refine rts _ rfl (opD_assign (lx lz)) ?_
      refine .nil ?_
      refine aw_keep [(6, _), (7, _)] ⟨lg (ls rfl (lx (ls rfl (ls rfl (os rfl (os rfl oz)))))), lg lz, trivial⟩ ?_
      refine aw_ret ?_
      obtain rfl := some_of h0
      exact done_ext (.inr rfl) ((res_list (rs := [_, _]) (ps := [_, _]) rfl rfl ⟨it_cellA (B := ⟨86, kDir.cs (default : Dir)⟩) ag86_W6C sz86_W6C oz (loc_getN rfl rfl) (kDir_len _), it_tmp (os rfl oz), trivial⟩).le (tup_le ⟨zLr, zLr, trivial⟩)) (tup_bnd (zbc (agg_bnd (kb_Dir _ _ _)) (zbc zPb bnd_nil)))
    · skip
      replace h0 := ifb_f h0 hc
      clear hc
      refine aw_skip ?_
      refine aw_keep [(2, _), (3, _), (6, _), (8, _)] ⟨lg oz, lg (os rfl oz), lg (os rfl (os rfl oz)), lg (os rfl (os rfl (os rfl oz))), trivial⟩ ?_
      refine aw_seq ?_
      refine aw_region (by decide) ?_
      refine rts _ rfl (opD_load_aggX ag86_W6C sz86_W6C (os rfl oz) (loc_getN rfl rfl) (by rw [kDir_len]; exact Nat.le_refl _) (kDir_full _)) ?_
      refine rts _ rfl (opD_move (ls rfl oz)) ?_
      replace h0 := bnd_some h0
      obtain ⟨x_3, hx_3, h0⟩ := h0
      refine rts _ rfl (opD_pure ht92_W6C (c_dreserve hx_3) ⟨le_of_eq (ls rfl lz), le_of_eq lz, trivial⟩) ?_
      refine rts _ rfl (opD_move lz) ?_
      refine rts _ rfl (opD_extract lz rfl) ?_
      refine rts _ rfl (opD_extract (ls rfl lz) rfl) ?_
      refine rts _ rfl (opD_assign (ls rfl lz)) ?_
      refine rts _ rfl (opD_assign (ls rfl lz)) ?_
      refine .nil ?_
      refine aw_keep [(3, _), (6, _), (8, _), (9, _), (10, _)] ⟨lg (ls rfl (ls rfl (ls rfl (ls rfl (ls rfl (ls rfl (ls rfl (ls rfl (os rfl oz))))))))), lg (ls rfl (ls rfl (ls rfl (ls rfl (ls rfl (ls rfl (ls rfl (ls rfl (os rfl (os rfl oz)))))))))), lg (ls rfl (ls rfl (ls rfl (ls rfl (ls rfl (ls rfl (ls rfl (ls rfl (os rfl (os rfl (os rfl oz))))))))))), lg lz, lg (ls rfl lz), trivial⟩ ?_
      refine aw_seq ?_
      refine aw_seq ?_
      refine aw_region (by decide) ?_
      refine rts _ rfl (opD_move (os rfl (os rfl (os rfl oz)))) ?_
      refine rts _ rfl (opD_bin lz (ev_const _ _) (fun w => errV_guard _ w _) (fun w => errV_beq _ w)) ?_
      refine rts _ rfl (opD_move lz) ?_
      refine rtg _ rfl lz (fun hg7_3_5 => opD_move (ls rfl (ls rfl (ls rfl (os rfl (os rfl (os rfl (os rfl oz)))))))) ?_
      refine rtg _ rfl (ls rfl lz) (fun hg7_4_6 => opD_len_sl Tryd.underlying79 (lz.trans (pif_pos hg7_4_6))) ?_
      refine rtg _ rfl (ls rfl (ls rfl lz)) (fun hg7_5_7 => opD_move (ls rfl (ls rfl (ls rfl (ls rfl (ls rfl (os rfl (os rfl oz)))))))) ?_
      refine rtg _ rfl (ls rfl (ls rfl (ls rfl lz))) (fun hg7_6_8 => opD_fieldAddr fo86_3_W6C (ls rfl (ls rfl (ls rfl (ls rfl (ls rfl (ls rfl oz))))))) ?_
      replace h0 := grd_some h0
      obtain ⟨hg_10, h0⟩ := h0
      refine rtg _ rfl (ls rfl (ls rfl (ls rfl (ls rfl lz)))) (fun hg7_7_9 => opD_indexAddr_arr (i := x_2.1.toNat) Tryd.underlying82 sz81_W6C (lz.trans (pif_pos hg7_7_9)) ((ls rfl lz).trans (pif_pos hg7_7_9)) (hg_10 hg7_7_9).eq (hg_10 hg7_7_9).2) ?_
      refine rtg _ rfl (ls rfl (ls rfl (ls rfl (ls rfl (ls rfl lz))))) (fun hg7_8_11 => opD_fieldAddr fo81_2_W6C (lz.trans (pif_pos hg7_8_11))) ?_
      refine rtg _ rfl (ls rfl (ls rfl (ls rfl (ls rfl (ls rfl (ls rfl lz)))))) (fun hg7_9_12 => opD_load_one ag79_W6C (lz.trans (pif_pos hg7_9_12)) (loc_getN rfl rfl) ((kDir_e_L _ (j := 2) (hg_10 hg7_9_12).2 (by decide)).trans rfl)) ?_
      refine rtg _ rfl (ls rfl (ls rfl (ls rfl (ls rfl (ls rfl (ls rfl (ls rfl lz))))))) (fun hg7_10_13 => opD_len_sl Tryd.underlying79 (lz.trans (pif_pos hg7_10_13))) ?_
      refine rtg _ rfl (ls rfl (ls rfl (ls rfl (ls rfl (ls rfl (ls rfl (ls rfl (ls rfl lz)))))))) (fun hg7_11_14 => opD_add ((ls rfl (ls rfl (ls rfl (ls rfl (ls rfl (ls rfl lz)))))).trans (pif_pos hg7_11_14)) (lz.trans (pif_pos hg7_11_14)) rfl) ?_
      refine rtg _ rfl (ls rfl (ls rfl (ls rfl (ls rfl (ls rfl (ls rfl (ls rfl (ls rfl (ls rfl lz))))))))) (fun hg7_12_15 => opD_gtr (lz.trans (pif_pos hg7_12_15)) (ev_const _ _)) ?_
      refine rts _ rfl (opD_or (ls rfl (ls rfl (ls rfl (ls rfl (ls rfl (ls rfl (ls rfl (ls rfl (ls rfl (ls rfl lz)))))))))) lz) ?_
      refine .nil ?_
      refine aw_keep [(3, _), (6, _), (8, _), (10, _), (54, _)] ⟨lg (ls rfl (ls rfl (ls rfl (ls rfl (ls rfl (ls rfl (ls rfl (ls rfl (ls rfl (ls rfl (ls rfl (ls rfl (ls rfl (ls rfl oz)))))))))))))), lg (ls rfl (ls rfl (ls rfl (ls rfl (ls rfl (ls rfl (ls rfl (ls rfl (ls rfl (ls rfl (ls rfl (ls rfl (ls rfl (ls rfl (os rfl oz))))))))))))))), lg (ls rfl (ls rfl (ls rfl (ls rfl (ls rfl (ls rfl (ls rfl (ls rfl (ls rfl (ls rfl (ls rfl (ls rfl (ls rfl (ls rfl (os rfl (os rfl oz)))))))))))))))), lg (ls rfl (ls rfl (ls rfl (ls rfl (ls rfl (ls rfl (ls rfl (ls rfl (ls rfl (ls rfl (ls rfl (ls rfl (ls rfl (ls rfl (os rfl (os rfl (os rfl (os rfl oz)))))))))))))))))), lg lz, trivial⟩ ?_
      refine aw_cond _ (os rfl (os rfl (os rfl (os rfl oz)))) (fun hc => ?_) (fun hc => ?_)
      · skip
        replace h0 := ifb_t h0 hc
        clear hc
        refine aw_seq ?_
        refine aw_region (by decide) ?_
        refine rts _ rfl (opD_ple (q := agg (kDir.cs (default : Dir))) rfl (opD_le (opD_build_struct (rs := zl1) Tryd.underlying86 pt86_W6C zt86_W6C parts_nil rfl) (agg_le kDir_zero))) ?_
        refine rts _ rfl (opD_ple (q := pl (errV (some 7))) rfl (opD_makeInterface_pl cc145_W6C (ev_const _ _))) ?_
        refine rts _ rfl (storeAN (cs' := kDir.cs (default : Dir)) rfl sz86_W6C (ls rfl (ls rfl (os rfl oz))) (ls rfl lz) (fun p_ h_ => kDir.one _ p_ h_) rfl (kDir_len _) (by rw [kDir_len]; exact Nat.le_refl _) (by intro h_; have := congrArg List.length h_; rw [kDir_len] at this; cases this) (kb_Dir _ _ _) (kDir_put _ _) (by simp only [znz] <;> rfl)) ?_
        refine rts _ rfl (opD_assign (lx lz)) ?_
        refine .nil ?_
        refine aw_keep [(6, _), (7, _)] ⟨lg (ls rfl (lx (ls rfl (ls rfl (os rfl oz))))), lg lz, trivial⟩ ?_
        refine aw_ret ?_
        obtain rfl := some_of h0
        exact done_ext (.inr rfl) ((res_list (rs := [_, _]) (ps := [_, _]) rfl rfl ⟨it_cellA (B := ⟨86, kDir.cs (default : Dir)⟩) ag86_W6C sz86_W6C oz (loc_getN rfl rfl) (kDir_len _), it_tmp (os rfl oz), trivial⟩).le (tup_le ⟨zLr, zLr, trivial⟩)) (tup_bnd (zbc (agg_bnd (kb_Dir _ _ _)) (zbc zPb bnd_nil)))
      · skip
        replace h0 := ifb_f h0 hc
        clear hc
        refine aw_skip ?_
        refine aw_keep [(3, _), (6, _), (8, _), (10, _)] ⟨lg oz, lg (os rfl oz), lg (os rfl (os rfl oz)), lg (os rfl (os rfl (os rfl oz))), trivial⟩ ?_
        refine aw_seq ?_
        refine aw_region (by decide) ?_
        refine rts _ rfl (opD_load_aggX ag86_W6C sz86_W6C oz (loc_getN rfl rfl) (by rw [kDir_len]; exact Nat.le_refl _) (kDir_full _)) ?_
        replace h0 := grd_some h0
        obtain ⟨hg_16, h0⟩ := h0
        replace h0 := bnd_some h0
        obtain ⟨x_4, hx_4, h0⟩ := h0
        refine rts _ rfl (opD_callR (fun n_ => tup [agg (kDq (some n_) x_2.1.toNat x_4.1), pl (errV x_4.2)]) ht93_W6C (fun s_ => c_dnextG hg_16 hx_4 s_) ⟨le_of_eq lz, trivial⟩ (by first | exact List.length_nil | (simp only [List.length_cons, List.length_nil, Nat.zero_add, Nat.reduceAdd] <;> rfl)) (by simp only [znz] <;> rfl)) ?_
        refine rts _ rfl (opD_move lz) ?_
        refine rts _ rfl (opD_extract lz rfl) ?_
        refine rts _ rfl (opD_extract (ls rfl lz) rfl) ?_
        refine rts _ rfl (opD_wkN rfl (allocN (bs' := [⟨86, (kDir.cs p0)⟩, ⟨86, (kDir.cs (default : Dir))⟩, ⟨86, zl1⟩]) rfl zt86_W6C (by first | exact List.length_nil | (simp only [List.length_cons, List.length_nil, Nat.zero_add, Nat.reduceAdd] <;> rfl)) (by simp only [znz] <;> rfl)) (bxle_same (bxle_same (bxle_cons (B := ⟨86, zl1⟩) (C := ⟨86, kDir.cs (default : Dir)⟩) (@Eq.refl TypeId 86) kDir_zero bxle_nil))) (bl_cons (kb_Dir _ _ _) (bl_cons (kb_Dir _ _ _) (bl_cons (kb_Dir _ _ _) bl_nil)))) ?_
        refine rts _ rfl (storeAN (cs' := kDq (some (s.fr.length + 0)) x_2.1.toNat x_4.1) rfl sz86_W6C lz (ls rfl (ls rfl lz)) (kDq_one _ _ _) rfl (kDq_len _ _ _) (by rw [kDir_len]; exact Nat.le_refl _) (by intro h_; have := congrArg List.length h_; rw [kDir_len] at this; cases this) (kDq_b _ (by intro i_ h_; cases h_; simp only [List.length_append, List.length_cons, List.length_nil]; omega)) (kDq_put _ _ (kDir_len _)) (by simp only [znz] <;> rfl)) ?_
        refine rts _ rfl (opD_assign (lx (ls rfl lz))) ?_
        refine .nil ?_
        refine aw_keep [(6, _), (8, _), (9, _), (10, _), (11, _)] ⟨lg (ls rfl (lx (ls rfl (ls rfl (ls rfl (ls rfl (ls rfl (ls rfl (os rfl oz))))))))), lg (ls rfl (lx (ls rfl (ls rfl (ls rfl (ls rfl (ls rfl (ls rfl (os rfl (os rfl oz)))))))))), lg lz, lg (ls rfl (lx (ls rfl (ls rfl (ls rfl (ls rfl (ls rfl (ls rfl (os rfl (os rfl (os rfl oz))))))))))), lg (ls rfl (lx lz)), trivial⟩ ?_
        refine aw_seq ?_
        refine aw_seq ?_
        refine aw_region (by decide) ?_
        refine rts _ rfl (opD_move (os rfl (os rfl oz))) ?_
        refine rts _ rfl (opD_bin lz (ev_const _ _) (fun w => errV_guard _ w _) (fun w => errV_beq _ w)) ?_
        refine .nil ?_
        refine aw_keep [(6, _), (8, _), (9, _), (10, _), (11, _), (63, _)] ⟨lg (ls rfl (ls rfl oz)), lg (ls rfl (ls rfl (os rfl oz))), lg (ls rfl (ls rfl (os rfl (os rfl oz)))), lg (ls rfl (ls rfl (os rfl (os rfl (os rfl oz))))), lg (ls rfl (ls rfl (os rfl (os rfl (os rfl (os rfl oz)))))), lg lz, trivial⟩ ?_
        refine aw_cond _ (os rfl (os rfl (os rfl (os rfl (os rfl oz))))) (fun hc => ?_) (fun hc => ?_)
        · skip
          replace h0 := ifb_t h0 hc
          clear hc
          refine aw_seq ?_
          refine aw_region (by decide) ?_
          refine rts _ rfl (opD_ple (q := agg (kDir.cs (default : Dir))) rfl (opD_le (opD_build_struct (rs := zl1) Tryd.underlying86 pt86_W6C zt86_W6C parts_nil rfl) (agg_le kDir_zero))) ?_
          refine rts _ rfl (opD_move (ls rfl (os rfl (os rfl oz)))) ?_
          refine rts _ rfl (storeAN (cs' := kDir.cs (default : Dir)) rfl sz86_W6C (ls rfl (ls rfl oz)) (ls rfl lz) (fun p_ h_ => kDir.one _ p_ h_) rfl (kDir_len _) (by rw [kDir_len]; exact Nat.le_refl _) (by intro h_; have := congrArg List.length h_; rw [kDir_len] at this; cases this) (kb_Dir _ _ _) (kDir_put _ _) (by simp only [znz] <;> rfl)) ?_
          refine rts _ rfl (opD_assign (lx lz)) ?_
          refine .nil ?_
          refine aw_keep [(6, _), (7, _)] ⟨lg (ls rfl (lx (ls rfl (ls rfl oz)))), lg lz, trivial⟩ ?_
          refine aw_ret ?_
          obtain rfl := some_of h0
          exact done_ext (.inr rfl) ((res_list (rs := [_, _]) (ps := [_, _]) rfl rfl ⟨it_cellA (B := ⟨86, kDir.cs (default : Dir)⟩) ag86_W6C sz86_W6C oz (loc_getN rfl rfl) (kDir_len _), it_tmp (os rfl oz), trivial⟩).le (tup_le ⟨zLr, zLr, trivial⟩)) (tup_bnd (zbc (agg_bnd (kb_Dir _ _ _)) (zbc zPb bnd_nil)))
        · skip
          replace h0 := ifb_f h0 hc
          clear hc
          refine aw_skip ?_
          refine aw_keep [(6, _), (8, _), (10, _), (11, _)] ⟨lg oz, lg (os rfl oz), lg (os rfl (os rfl (os rfl oz))), lg (os rfl (os rfl (os rfl (os rfl oz)))), trivial⟩ ?_
          refine aw_seq ?_
          refine aw_region (by decide) ?_
          refine rts _ rfl (opD_move (os rfl oz)) ?_
          refine rts _ rfl (opD_move (ls rfl (os rfl oz))) ?_
          refine rts _ rfl (opD_fieldAddr fo86_3_W6C (ls rfl (ls rfl (os rfl (os rfl (os rfl oz)))))) ?_
          replace h0 := grd_some h0
          obtain ⟨hg_17, h0⟩ := h0
          refine rts _ rfl (opD_indexAddr_arr (i := x_2.1.toNat) Tryd.underlying82 sz81_W6C lz (ls rfl lz) hg_17.eq hg_17.2) ?_
          refine rts _ rfl (opD_fieldAddr fo81_2_W6C lz) ?_
          refine rts _ rfl (opD_load_one ag79_W6C lz (loc_getN rfl rfl) (kDq_e0 _ hg_16)) ?_
          refine rts _ rfl (opD_move (ls rfl (ls rfl (ls rfl (ls rfl (ls rfl (ls rfl (os rfl (os rfl oz))))))))) ?_
          replace h0 := grd_some h0
          obtain ⟨hg_18, h0⟩ := h0
          refine rts _ rfl (opD_appendX Tryd.underlying79 el114_W6C (ls rfl lz) lz rfl hg_18.1 hg_18.2 rfl (by simp only [znz] <;> rfl)) ?_
          refine rts _ rfl (opD_fieldAddr fo86_3_W6C (ls rfl (ls rfl (ls rfl (ls rfl (ls rfl (ls rfl (ls rfl (ls rfl (os rfl (os rfl (os rfl oz)))))))))))) ?_
          replace h0 := grd_some h0
          obtain ⟨hg_19, h0⟩ := h0
          refine rts _ rfl (opD_indexAddr_arr (i := x_2.1.toNat) Tryd.underlying82 sz81_W6C lz (ls rfl (ls rfl (ls rfl (ls rfl (ls rfl (ls rfl (ls rfl (ls rfl lz)))))))) hg_19.eq hg_19.2) ?_
          refine rts _ rfl (opD_fieldAddr fo81_2_W6C lz) ?_
          refine rts _ rfl (storeON (cs' := kDir.cs ({ x_4.1 with L := aset 16 (default : Tenant) x_4.1.L x_2.1.toNat (⟨(x_4.1.L.getD x_2.1.toNat (default : Tenant)).ID, (x_4.1.L.getD x_2.1.toNat (default : Tenant)).Gen, (((x_4.1.L.getD x_2.1.toNat (default : Tenant)).Ext) ++ x_3.1)⟩ : Tenant) } : Dir)) rfl sz79_W6C lz ((le_of_eq (ls rfl (ls rfl (ls rfl lz)))).trans (sl_any _ _ _ _)) (one_sl _ _ _ _) rfl (by have h_ := hg_16; show _ < (kDq _ _ _).length; rw [kDq_len]; omega) (sl_b kb_Stx) (kDq_w _ hg_16 _ _) (by simp only [znz] <;> rfl)) ?_
          refine .nil ?_
          refine aw_keep [(6, _), (11, _)] ⟨lg (lx (ls rfl (ls rfl (ls rfl (ls rfl (ls rfl (ls rfl (ls rfl (ls rfl (ls rfl (ls rfl (ls rfl oz)))))))))))), lg (lx (ls rfl (ls rfl (ls rfl (ls rfl (ls rfl (ls rfl (ls rfl (ls rfl (ls rfl (ls rfl (ls rfl (os rfl (os rfl (os rfl oz))))))))))))))), trivial⟩ ?_
          refine aw_seq ?_
          refine aw_region (by decide) ?_
          refine rts _ rfl (opD_load_aggX ag86_W6C sz86_W6C (os rfl oz) (loc_getN rfl rfl) (by rw [kDir_len]; exact Nat.le_refl _) (kDir_full _)) ?_
          refine rts _ rfl (storeAN (cs' := kDir.cs ({ x_4.1 with L := aset 16 (default : Tenant) x_4.1.L x_2.1.toNat (⟨(x_4.1.L.getD x_2.1.toNat (default : Tenant)).ID, (x_4.1.L.getD x_2.1.toNat (default : Tenant)).Gen, (((x_4.1.L.getD x_2.1.toNat (default : Tenant)).Ext) ++ x_3.1)⟩ : Tenant) } : Dir)) rfl sz86_W6C (ls rfl oz) lz (fun p_ h_ => kDir.one _ p_ h_) rfl (kDir_len _) (by rw [kDir_len]; exact Nat.le_refl _) (by intro h_; have := congrArg List.length h_; rw [kDir_len] at this; cases this) (kb_Dir _ _ _) (kDir_put _ _) (by simp only [znz] <;> rfl)) ?_
          refine rts _ rfl (opD_assign (ev_const _ _)) ?_
          refine .nil ?_
          refine aw_keep [(6, _), (7, _)] ⟨lg (ls rfl (lx (ls rfl oz))), lg lz, trivial⟩ ?_
          refine aw_ret ?_
          obtain rfl := some_of h0
          exact done_ext (.inr rfl) ((res_list (rs := [_, _]) (ps := [_, _]) rfl rfl ⟨it_cellA (B := ⟨86, kDir.cs ({ x_4.1 with L := aset 16 (default : Tenant) x_4.1.L x_2.1.toNat (⟨(x_4.1.L.getD x_2.1.toNat (default : Tenant)).ID, (x_4.1.L.getD x_2.1.toNat (default : Tenant)).Gen, (((x_4.1.L.getD x_2.1.toNat (default : Tenant)).Ext) ++ x_3.1)⟩ : Tenant) } : Dir)⟩) ag86_W6C sz86_W6C oz (loc_getN rfl rfl) (kDir_len _), it_tmp (os rfl oz), trivial⟩).le (tup_le ⟨zLr, zLr, trivial⟩)) (tup_bnd (zbc (agg_bnd (kb_Dir _ _ _)) (zbc zPb bnd_nil)))
end Go.Proofs.YtokcgacehdgkcaaDoor.Eng.A
