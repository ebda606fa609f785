/- EH5: what functions do, walked; used by the laws of this seat. -/
import Derived.Test.YtmnhfpcbfdgbcaaDoorEH4
namespace Go.Proofs.YtmnhfpcbfdgbcaaDoor.Eng.A
set_option linter.unusedVariables false
set_option linter.unusedSimpArgs false
open Go.RowKit Go.Proofs.YtmnhfpcbfdgbcaaDoor.Plain Go.Proofs.YtmnhfpcbfdgbcaaDoor.Eng Go.Proofs.YtmnhfpcbfdgbcaaDoor.Eng.Pk Go.Proofs.YtmnhfpcbfdgbcaaDoor.Eng.Rd

theorem ht79_u12b : hasText Go.Proofs.Tryd.prog 79 = true := by kernel_rfl
theorem sz150_u12b : sizeT Go.Proofs.Tryd.prog 150 = some 6 := by kernel_rfl
theorem fo150_1_u12b : fieldOff Go.Proofs.Tryd.prog 150 1 = some 1 := by kernel_rfl
theorem ag148_u12b : aggT Go.Proofs.Tryd.prog 148 = some true := by kernel_rfl
theorem sz148_u12b : sizeT Go.Proofs.Tryd.prog 148 = some 5 := by kernel_rfl
theorem zt148_u12b : zeroT Go.Proofs.Tryd.prog 148 = some [.int .u64 0, .int .u64 0, .int .u64 0, .int .u64 0, .int .u64 0] := by kernel_rfl
theorem fo148_0_u12b : fieldOff Go.Proofs.Tryd.prog 148 0 = some 0 := by kernel_rfl
theorem ag22_u12b : aggT Go.Proofs.Tryd.prog 22 = some false := by kernel_rfl
theorem sz22_u12b : sizeT Go.Proofs.Tryd.prog 22 = some 1 := by kernel_rfl
theorem fo150_0_u12b : fieldOff Go.Proofs.Tryd.prog 150 0 = some 0 := by kernel_rfl
theorem ag3_u12b : aggT Go.Proofs.Tryd.prog 3 = some false := by kernel_rfl
theorem fo148_1_u12b : fieldOff Go.Proofs.Tryd.prog 148 1 = some 1 := by kernel_rfl
theorem ht77_u12b : hasText Go.Proofs.Tryd.prog 77 = true := by kernel_rfl
theorem ht76_u12b : hasText Go.Proofs.Tryd.prog 76 = true := by kernel_rfl
theorem ht74_u12b : hasText Go.Proofs.Tryd.prog 74 = true := by kernel_rfl
theorem zt22_u12b : zeroT Go.Proofs.Tryd.prog 22 = some [.int .u64 0] := by kernel_rfl
theorem el22_u12b : elT Go.Proofs.Tryd.prog 22 = some (1, 8) := by kernel_rfl
theorem ht78_u12b : hasText Go.Proofs.Tryd.prog 78 = true := by kernel_rfl
theorem sz137_u12b : sizeT Go.Proofs.Tryd.prog 137 = some 5 := by kernel_rfl
theorem ag137_u12b : aggT Go.Proofs.Tryd.prog 137 = some true := by kernel_rfl
theorem mixed_u12b : Go.Proofs.Tryd.prog.follows .mixedOrders = true := by kernel_rfl
theorem ht85_u12b : hasText Go.Proofs.Tryd.prog 85 = true := by kernel_rfl
theorem sz141_u12b : sizeT Go.Proofs.Tryd.prog 141 = some 1 := by kernel_rfl
theorem zt160_u12b : zeroT Go.Proofs.Tryd.prog 160 = some [.slice none 0 0, .slice none 0 0, .slice none 0 0, .slice none 0 0, .slice none 0 0] := by kernel_rfl
theorem sz160_u12b : sizeT Go.Proofs.Tryd.prog 160 = some 5 := by kernel_rfl
theorem ht73_u12b : hasText Go.Proofs.Tryd.prog 73 = true := by kernel_rfl
theorem ag141_u12b : aggT Go.Proofs.Tryd.prog 141 = some false := by kernel_rfl
theorem zt137_u12b : zeroT Go.Proofs.Tryd.prog 137 = some [.int .u64 0, .int .u64 0, .int .u64 0, .int .u64 0, .int .u64 0] := by kernel_rfl
theorem fo137_1_u12b : fieldOff Go.Proofs.Tryd.prog 137 1 = some 1 := by kernel_rfl
theorem ht75_u12b : hasText Go.Proofs.Tryd.prog 75 = true := by kernel_rfl
theorem fo137_2_u12b : fieldOff Go.Proofs.Tryd.prog 137 2 = some 2 := by kernel_rfl
theorem pt137_u12b : placesT Go.Proofs.Tryd.prog 137 5 = some [(0, 1), (1, 1), (2, 1), (3, 1), (4, 1)] := by kernel_rfl

open Go.Proofs.YtmnhfpcbfdgbcaaDoor.Eng.Er Go.Proofs.YtmnhfpcbfdgbcaaDoor.Eng.Er2 Go.Proofs.YtmnhfpcbfdgbcaaDoor.Eng.Hb Go.Proofs.YtmnhfpcbfdgbcaaDoor.Eng.Hc Go.Proofs.YtmnhfpcbfdgbcaaDoor.Eng.Hd Go.Proofs.YtmnhfpcbfdgbcaaDoor.Eng.He Go.Proofs.YtmnhfpcbfdgbcaaDoor.Eng.Hf

def F_hAlone_b1 (t_2 : (List Int) × Int × (List ((Int × Int) × Itm)) × (List (Int × Int)) × (List ((Int × Int) × Itm)) × (List (Int × Int))) (x_12 : (Int × Option Int × Tbl)) (t_17 : Int) : Option ((Int) ⊕ ((Bool) ⊕ (Unit))) :=
  ifb ((decide (t_17 < (t_2.1.length : Int))) && x_12.2.1.isNone) (ixb t_2.1 t_17 fun x_19 => ifb (decide (x_19 = x_12.1)) (some (.inr (.inl false))) (some (.inl (IntKind.i64.wrap (t_17 + 1))))) (some (.inr (.inr ())))
def F_hAlone_b0 (fl : Nat) (p0 : (List HAct)) (t_2 : (List Int) × Int × (List ((Int × Int) × Itm)) × (List (Int × Int)) × (List ((Int × Int) × Itm)) × (List (Int × Int))) : Option (((List Int) × Int × (List ((Int × Int) × Itm)) × (List (Int × Int)) × (List ((Int × Int) × Itm)) × (List (Int × Int))) ⊕ ((Bool) ⊕ ((List ((Int × Int) × Itm)) × (List (Int × Int)) × (List ((Int × Int) × Itm)) × (List (Int × Int))))) :=
  ifb ((decide (t_2.2.1 < (p0.length : Int))) && (decide (t_2.2.1 < 60))) (bnd (ixb p0 t_2.2.1 fun x_5 => bnd (ifb (decide ((x_5.X.Who.tmod 2) = 1)) (some 1) (some (x_5.X.Who.tmod 4))) fun z_6 => ixb p0 t_2.2.1 fun x_7 => ifb (decide (x_7.Kind = 3)) (bnd (F_tdrop t_2.2.2.1 z_6 x_5.X.No) fun x_8 => ifb (decide ((x_5.X.Who.tmod 2) = 1)) (bnd (F_tdrop t_2.2.2.2.2.1 z_6 x_5.X.No) fun x_9 => bnd (tNumG x_9.1) fun x_10 => bnd (tNumG x_8.1) fun x_11 => ifb (decide (x_10 ≠ x_11)) (some (.inl false)) (some (.inr (t_2.1, x_8.2, t_2.2.2.2.1, x_9.2, t_2.2.2.2.2.2)))) (some (.inr (t_2.1, x_8.2, t_2.2.2.2.1, t_2.2.2.2.2.1, t_2.2.2.2.2.2)))) (bnd (F_tgive fl ⟨t_2.2.2.1, t_2.2.2.2.1⟩ (⟨z_6, x_5.X.No, x_5.X.Space, x_5.X.Gen, x_5.X.Txn⟩ : Itm)) fun x_12 => ifb (!(decide ((x_5.X.Who.tmod 2) = 1))) (some (.inr (t_2.1, x_12.2.2.H, x_12.2.2.N, t_2.2.2.2.2.1, t_2.2.2.2.2.2))) (bnd (F_tgive fl ⟨t_2.2.2.2.2.1, t_2.2.2.2.2.2⟩ (⟨z_6, x_5.X.No, x_5.X.Space, x_5.X.Gen, x_5.X.Txn⟩ : Itm)) fun x_13 => bnd (gif ((decide (x_12.1 ≠ x_13.1)) == false) (tNumG x_12.2.1)) fun x_14 => bnd (gif ((decide (x_12.1 ≠ x_13.1)) == false) (tNumG x_13.2.1)) fun x_15 => ifb ((decide (x_12.1 ≠ x_13.1)) || (decide (x_14 ≠ x_15))) (some (.inl false)) (bnd (lp (F_hAlone_b1 t_2 x_12) fl 0) fun z_16 => ocs z_16 (fun qz_16_0 => some (.inl qz_16_0)) fun z_16_0 => ifb x_12.2.1.isNone (grd (Fits 8 (t_2.1.length + ([x_12.1] : (List Int)).length)) <| some (.inr ((t_2.1 ++ ([x_12.1] : (List Int))), x_12.2.2.H, x_12.2.2.N, x_13.2.2.H, x_13.2.2.N))) (some (.inr (t_2.1, x_12.2.2.H, x_12.2.2.N, x_13.2.2.H, x_13.2.2.N))))))) fun z_4 => ocs z_4 (fun qz_4_0 => some (.inr (.inl qz_4_0))) fun z_4_0 => some (.inl (z_4_0.1, IntKind.i64.wrap (t_2.2.1 + 1), z_4_0.2.1, z_4_0.2.2.1, z_4_0.2.2.2.1, z_4_0.2.2.2.2))) (some (.inr (.inr (t_2.2.2.1, t_2.2.2.2.1, t_2.2.2.2.2.1, t_2.2.2.2.2.2))))
def F_hAlone_b2 (x_20 : (List Itm)) (x_21 : (List Itm)) (t_23 : Int) : Option ((Int) ⊕ ((Bool) ⊕ (Unit))) :=
  ifb (decide (t_23 < (x_20.length : Int))) (ixb x_20 t_23 fun x_25 => ixb x_21 t_23 fun x_26 => ifb (!(decide (x_25.Who = x_26.Who) && (decide (x_25.No = x_26.No) && (decide (x_25.Space = x_26.Space) && (decide (x_25.Gen = x_26.Gen) && (decide (x_25.Txn = x_26.Txn) && true)))))) (some (.inr (.inl false))) (some (.inl (IntKind.i64.wrap (t_23 + 1))))) (some (.inr (.inr ())))
def F_hAlone (fl : Nat) (p0 : (List HAct)) : Option (Bool) :=
  bnd (lp (F_hAlone_b0 fl p0) fl (([] : (List Int)), 0, ([] : (List ((Int × Int) × Itm))), ([] : (List (Int × Int))), ([] : (List ((Int × Int) × Itm))), ([] : (List (Int × Int))))) fun z_1 => ocs z_1 (fun qz_1_0 => some qz_1_0) fun z_1_0 => bnd (F_tof fl z_1_0.1 1) fun x_20 => bnd (F_tof fl z_1_0.2.2.1 1) fun x_21 => ifb (decide ((x_20.length : Int) ≠ (x_21.length : Int))) (some false) (bnd (lp (F_hAlone_b2 x_20 x_21) fl 0) fun z_22 => ocs z_22 (fun qz_22_0 => some qz_22_0) fun z_22_0 => bnd (F_sure34 fl) fun x_27 => some x_27)
set_option maxRecDepth 100000 in
set_option maxHeartbeats 2000000 in
theorem c_hAlone {fl : Nat} {p0 : (List HAct)} {R : Bool} {s : St} (h0 : F_hAlone fl p0 = some R) (hst : StGV s) : AC Go.Proofs.Tryd.prog 16 [sl kHAct none none p0] s (pl (.bool R)) s := by
  unfold F_hAlone at h0
  refine ac_of_aw s.boxes.length s.fr.length Go.Proofs.Tryd.func16 rfl (by simp [Go.Proofs.Tryd.ntmps16]) ?_
  refine aw_ext0 ?_
  refine aw_keep [(0, _)] ⟨lg ez, trivial⟩ ?_
  refine aw_seq ?_
  refine aw_region (by decide) ?_
  refine rts _ rfl (opD_assign (ev_const _ _)) ?_
  refine .nil ?_
  refine aw_keep [(0, _)] ⟨lg (ls rfl oz), trivial⟩ ?_
  refine aw_seq ?_
  refine aw_region (by decide) ?_
  refine rts _ rfl (opD_ple (q := ptr (s.boxes.length + 2) 0) rfl (callN3 (n := 0) rfl ht79_u12b (fun s => t_new) trivial rfl rfl)) ?_
  refine rts _ rfl (opD_ple (q := ptr (s.boxes.length + 5) 0) rfl (callN3 (n := 3) rfl ht79_u12b (fun s => t_new) trivial rfl rfl)) ?_
  refine rts _ rfl (opD_assign (ls rfl lz)) ?_
  refine rts _ rfl (opD_assign (ls rfl lz)) ?_
  refine .nil ?_
  refine aw_keep [(0, _), (3, _), (4, _)] ⟨lg (ls rfl (ls rfl (ls rfl (ls rfl oz)))), lg (ls rfl lz), lg lz, trivial⟩ ?_
  refine aw_seq ?_
  refine aw_seq ?_
  refine aw_region (by decide) ?_
  refine rts _ rfl (opD_move (os rfl oz)) ?_
  refine rts _ rfl (opD_ptr_eqnil Go.Proofs.Tryd.underlying132 lz) ?_
  refine rts _ rfl (opD_move lz) ?_
  refine rts _ ⟨_, rfl, .inl ⟨_, eg lz, rfl⟩⟩ (opD_move (ls rfl (ls rfl (ls rfl (os rfl (os rfl oz)))))) ?_
  refine rts _ ⟨_, rfl, .inl ⟨_, eg (ls rfl lz), rfl⟩⟩ (opD_ptr_eqnil Go.Proofs.Tryd.underlying132 lz) ?_
  refine rts _ rfl (opD_pickF (ls rfl (ls rfl lz)) lz) ?_
  refine .nil ?_
  refine aw_keep [(0, _), (3, _), (4, _), (25, _)] ⟨lg (ls rfl (ls rfl (ls rfl (ls rfl (ls rfl (ls rfl oz)))))), lg (ls rfl (ls rfl (ls rfl (ls rfl (ls rfl (ls rfl (os rfl oz))))))), lg (ls rfl (ls rfl (ls rfl (ls rfl (ls rfl (ls rfl (os rfl (os rfl oz)))))))), lg lz, trivial⟩ ?_
  refine aw_cond _ (os rfl (os rfl (os rfl oz))) (fun hc => ?_) (fun hc => ?_)
  · skip
    cases hc
  · skip
    refine aw_skip ?_
    refine aw_keep [(0, _), (3, _), (4, _)] ⟨lg oz, lg (os rfl oz), lg (os rfl (os rfl oz)), trivial⟩ ?_
    refine aw_seq ?_
    refine aw_region (by decide) ?_
    refine rts _ rfl (opD_assign (ev_const _ _)) ?_
    refine .nil ?_
    refine aw_keep [(0, _), (3, _), (4, _), (5, _)] ⟨lg (ls rfl oz), lg (ls rfl (os rfl oz)), lg (ls rfl (os rfl (os rfl oz))), lg lz, trivial⟩ ?_
    refine aw_seq ?_
    refine aw_seq ?_
    refine aw_region (by decide) ?_
    refine rts _ rfl (opD_assign (ev_const _ _)) ?_
    refine .nil ?_
    refine aw_keep [(0, _), (3, _), (4, _), (5, _), (6, _)] ⟨lg (ls rfl oz), lg (ls rfl (os rfl oz)), lg (ls rfl (os rfl (os rfl oz))), lg (ls rfl (os rfl (os rfl (os rfl oz)))), lg lz, trivial⟩ ?_
    replace h0 := bnd_some h0
    obtain ⟨z_1, hz_1, h0⟩ := h0
    refine aw_mid (fun e st => ∃ v : (List ((Int × Int) × Itm)) × (List (Int × Int)) × (List ((Int × Int) × Itm)) × (List (Int × Int)), Holds e [(3, ptr (s.boxes.length + 2) 0), (4, ptr (s.boxes.length + 5) 0)] ∧ st = s.ext [⟨HOT, [mp K1 v.1]⟩, ⟨HOT, [mp K2 v.2.1]⟩, ⟨201, [mref (s.boxes.length + 0), mref (s.boxes.length + 1)]⟩, ⟨HOT, [mp K1 v.2.2.1]⟩, ⟨HOT, [mp K2 v.2.2.2]⟩, ⟨201, [mref (s.boxes.length + 3), mref (s.boxes.length + 4)]⟩] [] ∧ (.inr v) = z_1) ?_ ?_
    · skip
      refine aw_wkN rfl 6 0 rfl rfl ?_
      refine aw_block ?_
      refine aw_fr ⟨22, 1, 0⟩ ?_
      refine aw_loop (fun n e st => ∃ v : (List Int) × Int × (List ((Int × Int) × Itm)) × (List (Int × Int)) × (List ((Int × Int) × Itm)) × (List (Int × Int)), Holds e [(0, sl kHAct none none p0), (3, ptr (s.boxes.length + 2) 0), (4, ptr (s.boxes.length + 5) 0), (5, sl (kI .u64) (some (s.fr.length + 0)) none v.1), (6, pl (.int .i64 v.2.1))] ∧ st = s.ext [⟨HOT, [mp K1 v.2.2.1]⟩, ⟨HOT, [mp K2 v.2.2.2.1]⟩, ⟨201, [mref (s.boxes.length + 0), mref (s.boxes.length + 1)]⟩, ⟨HOT, [mp K1 v.2.2.2.2.1]⟩, ⟨HOT, [mp K2 v.2.2.2.2.2]⟩, ⟨201, [mref (s.boxes.length + 3), mref (s.boxes.length + 4)]⟩] [⟨22, 1, v.1.length⟩] ∧ lp (F_hAlone_b0 fl p0) n v = some z_1) fl ⟨(([] : (List Int)), 0, ([] : (List ((Int × Int) × Itm))), ([] : (List (Int × Int))), ([] : (List ((Int × Int) × Itm))), ([] : (List (Int × Int)))), ⟨le_of_eq (eg oz), le_of_eq (eg (os rfl oz)), le_of_eq (eg (os rfl (os rfl oz))), (le_of_eq (eg (os rfl (os rfl (os rfl oz))))).trans (nil_own rfl), le_of_eq (eg (os rfl (os rfl (os rfl (os rfl oz))))), trivial⟩, rfl, hz_1⟩ ?_
      rintro n e st ⟨t_2, hH, rfl, hz_1⟩
      replace hz_1 := lp_some hz_1
      obtain ⟨m_z_3, z_3, rfl, hz_3, hz_1⟩ := hz_1
      unfold F_hAlone_b0 at hz_3
      refine aw_keep _ hH ?_
      refine aw_wkN rfl 6 1 rfl rfl ?_
      refine aw_seq ?_
      refine aw_seq ?_
      refine aw_region (by decide) ?_
      refine rts _ rfl (opD_move (os rfl (os rfl (os rfl (os rfl oz))))) ?_
      refine rts _ rfl (opD_move (ls rfl oz)) ?_
      refine rts _ rfl (opD_len_sl Go.Proofs.Tryd.underlying131 lz) ?_
      refine rts _ rfl (opD_lss (ls rfl (ls rfl lz)) lz) ?_
      refine rts _ rfl (opD_move lz) ?_
      refine rtg _ rfl lz (fun hg6_5_151 => opD_move (ls rfl (ls rfl (ls rfl (ls rfl (ls rfl (os rfl (os rfl (os rfl (os rfl oz)))))))))) ?_
      refine rtg _ rfl (ls rfl lz) (fun hg6_6_152 => opD_lss (lz.trans (pif_pos hg6_6_152)) (ev_const _ _)) ?_
      refine rts _ rfl (opD_and (ls rfl (ls rfl lz)) lz) ?_
      refine .nil ?_
      refine aw_keep [(0, _), (3, _), (4, _), (5, _), (6, _), (33, _)] ⟨lg (ls rfl (ls rfl (ls rfl (ls rfl (ls rfl (ls rfl (ls rfl (ls rfl oz)))))))), lg (ls rfl (ls rfl (ls rfl (ls rfl (ls rfl (ls rfl (ls rfl (ls rfl (os rfl oz))))))))), lg (ls rfl (ls rfl (ls rfl (ls rfl (ls rfl (ls rfl (ls rfl (ls rfl (os rfl (os rfl oz)))))))))), lg (ls rfl (ls rfl (ls rfl (ls rfl (ls rfl (ls rfl (ls rfl (ls rfl (os rfl (os rfl (os rfl oz))))))))))), lg (ls rfl (ls rfl (ls rfl (ls rfl (ls rfl (ls rfl (ls rfl (ls rfl (os rfl (os rfl (os rfl (os rfl oz)))))))))))), lg lz, trivial⟩ ?_
      refine aw_cond _ (os rfl (os rfl (os rfl (os rfl (os rfl oz))))) (fun hc => ?_) (fun hc => ?_)
      · skip
        replace hz_3 := ifb_t hz_3 hc
        clear hc
        refine aw_skip ?_
        refine aw_keep [(0, _), (3, _), (4, _), (5, _), (6, _)] ⟨lg oz, lg (os rfl oz), lg (os rfl (os rfl oz)), lg (os rfl (os rfl (os rfl oz))), lg (os rfl (os rfl (os rfl (os rfl oz)))), trivial⟩ ?_
        refine aw_seq ?_
        replace hz_3 := bnd_some hz_3
        obtain ⟨z_4, hz_4, hz_3⟩ := hz_3
        refine aw_mid (fun e st => ∃ v : (List Int) × (List ((Int × Int) × Itm)) × (List (Int × Int)) × (List ((Int × Int) × Itm)) × (List (Int × Int)), Holds e [(0, sl kHAct none none p0), (3, ptr (s.boxes.length + 2) 0), (4, ptr (s.boxes.length + 5) 0), (5, sl (kI .u64) (some (s.fr.length + 0)) none v.1), (6, pl (.int .i64 t_2.2.1))] ∧ st = s.ext [⟨HOT, [mp K1 v.2.1]⟩, ⟨HOT, [mp K2 v.2.2.1]⟩, ⟨201, [mref (s.boxes.length + 0), mref (s.boxes.length + 1)]⟩, ⟨HOT, [mp K1 v.2.2.2.1]⟩, ⟨HOT, [mp K2 v.2.2.2.2]⟩, ⟨201, [mref (s.boxes.length + 3), mref (s.boxes.length + 4)]⟩] [⟨22, 1, v.1.length⟩] ∧ (.inr v) = z_4) ?_ ?_
        · skip
          refine aw_wkN rfl 6 1 rfl rfl ?_
          refine aw_block ?_
          refine aw_seq ?_
          refine aw_region (by decide) ?_
          refine rts _ rfl (opD_move oz) ?_
          refine rts _ rfl (opD_move (ls rfl (os rfl (os rfl (os rfl (os rfl oz)))))) ?_
          replace hz_4 := ixb_some hz_4
          obtain ⟨x_5, hx_5, hbx_5, hz_4⟩ := hz_4
          refine rts _ rfl (opD_indexAddr_sl (i := t_2.2.1.toNat) Go.Proofs.Tryd.underlying131 sz150_u12b (ls rfl lz) lz hbx_5.2.2 hbx_5.2.1) ?_
          refine rts _ rfl (opD_fieldAddr_el fo150_1_u12b lz) ?_
          refine rts _ rfl (opD_load_el_aggX (qs := [_, _, _, _, _]) ag148_u12b sz148_u12b lz hx_5 (Nat.le_of_ble_eq_true rfl) rfl) ?_
          refine rts _ rfl (allocN rfl zt148_u12b (by first | exact List.length_nil | (simp only [List.length_cons, List.length_nil, Nat.zero_add, Nat.reduceAdd] <;> rfl)) (by simp only [na, nb, nc, nd, nf, ng, nh, ni, nj, nk] <;> rfl)) ?_
          refine rts _ rfl (storeAN rfl sz148_u12b lz (ls rfl lz) (ones_cons (one_pl rfl) (ones_cons (one_pl rfl) (ones_cons (one_pl rfl) (ones_cons (one_pl rfl) (ones_cons (one_pl rfl) ones_nil))))) rfl rfl (Nat.le_of_ble_eq_true rfl) (List.cons_ne_nil _ _) (bnd_cons (pl_bnd _ _ _) (bnd_cons (pl_bnd _ _ _) (bnd_cons (pl_bnd _ _ _) (bnd_cons (pl_bnd _ _ _) (bnd_cons (pl_bnd _ _ _) bnd_nil))))) (by simp only [na, nb, nc, nd, nf, ng, nh, ni, nj, nk] <;> rfl) (by simp only [na, nb, nc, nd, nf, ng, nh, ni, nj, nk] <;> rfl)) ?_
          refine .nil ?_
          refine aw_keep [(0, _), (3, _), (4, _), (5, _), (6, _), (7, _)] ⟨lg (lx (ls rfl (ls rfl (ls rfl (ls rfl (ls rfl (ls rfl oz))))))), lg (lx (ls rfl (ls rfl (ls rfl (ls rfl (ls rfl (ls rfl (os rfl oz)))))))), lg (lx (ls rfl (ls rfl (ls rfl (ls rfl (ls rfl (ls rfl (os rfl (os rfl oz))))))))), lg (lx (ls rfl (ls rfl (ls rfl (ls rfl (ls rfl (ls rfl (os rfl (os rfl (os rfl oz)))))))))), lg (lx (ls rfl (ls rfl (ls rfl (ls rfl (ls rfl (ls rfl (os rfl (os rfl (os rfl (os rfl oz))))))))))), lg (lx lz), trivial⟩ ?_
          refine aw_seq ?_
          refine aw_region (by decide) ?_
          refine rts _ rfl (opD_fieldAddr fo148_0_u12b (os rfl (os rfl (os rfl (os rfl (os rfl oz)))))) ?_
          refine rts _ rfl (opD_load_one ag22_u12b lz (loc_getN rfl rfl) rfl) ?_
          refine rts _ rfl (opD_rem lz (ev_const _ _) (by decide) rfl) ?_
          refine rts _ rfl (opD_eql lz (ev_const _ _)) ?_
          refine rts _ rfl (opD_assign lz) ?_
          refine .nil ?_
          refine aw_keep [(0, _), (3, _), (4, _), (5, _), (6, _), (7, _), (8, _)] ⟨lg (ls rfl (ls rfl (ls rfl (ls rfl (ls rfl oz))))), lg (ls rfl (ls rfl (ls rfl (ls rfl (ls rfl (os rfl oz)))))), lg (ls rfl (ls rfl (ls rfl (ls rfl (ls rfl (os rfl (os rfl oz))))))), lg (ls rfl (ls rfl (ls rfl (ls rfl (ls rfl (os rfl (os rfl (os rfl oz)))))))), lg (ls rfl (ls rfl (ls rfl (ls rfl (ls rfl (os rfl (os rfl (os rfl (os rfl oz))))))))), lg (ls rfl (ls rfl (ls rfl (ls rfl (ls rfl (os rfl (os rfl (os rfl (os rfl (os rfl oz)))))))))), lg lz, trivial⟩ ?_
          refine aw_seq ?_
          refine aw_region (by decide) ?_
          refine rts _ rfl (opD_fieldAddr fo148_0_u12b (os rfl (os rfl (os rfl (os rfl (os rfl oz)))))) ?_
          refine rts _ rfl (opD_load_one ag22_u12b lz (loc_getN rfl rfl) rfl) ?_
          refine rts _ rfl (opD_rem lz (ev_const _ _) (by decide) rfl) ?_
          refine rts _ rfl (opD_fieldAddr fo148_0_u12b (ls rfl (ls rfl (ls rfl (os rfl (os rfl (os rfl (os rfl (os rfl oz))))))))) ?_
          refine rts _ rfl (storeON rfl sz22_u12b lz (le_of_eq (ls rfl lz)) (one_pl rfl) rfl (Nat.le_of_ble_eq_true rfl) (pl_bnd _ _ _) (by simp only [na, nb, nc, nd, nf, ng, nh, ni, nj, nk] <;> rfl) (by simp only [na, nb, nc, nd, nf, ng, nh, ni, nj, nk] <;> rfl)) ?_
          refine .nil ?_
          refine aw_keep [(0, _), (3, _), (4, _), (5, _), (6, _), (7, _), (8, _)] ⟨lg (lx (ls rfl (ls rfl (ls rfl (ls rfl oz))))), lg (lx (ls rfl (ls rfl (ls rfl (ls rfl (os rfl oz)))))), lg (lx (ls rfl (ls rfl (ls rfl (ls rfl (os rfl (os rfl oz))))))), lg (lx (ls rfl (ls rfl (ls rfl (ls rfl (os rfl (os rfl (os rfl oz)))))))), lg (lx (ls rfl (ls rfl (ls rfl (ls rfl (os rfl (os rfl (os rfl (os rfl oz))))))))), lg (lx (ls rfl (ls rfl (ls rfl (ls rfl (os rfl (os rfl (os rfl (os rfl (os rfl oz)))))))))), lg (lx (ls rfl (ls rfl (ls rfl (ls rfl (os rfl (os rfl (os rfl (os rfl (os rfl (os rfl oz))))))))))), trivial⟩ ?_
          refine aw_seq ?_
          refine aw_seq ?_
          refine aw_region (by decide) ?_
          refine rts _ rfl (opD_move (os rfl (os rfl (os rfl (os rfl (os rfl (os rfl oz))))))) ?_
          refine .nil ?_
          refine aw_keep [(0, _), (3, _), (4, _), (5, _), (6, _), (7, _), (8, _), (49, _)] ⟨lg (ls rfl oz), lg (ls rfl (os rfl oz)), lg (ls rfl (os rfl (os rfl oz))), lg (ls rfl (os rfl (os rfl (os rfl oz)))), lg (ls rfl (os rfl (os rfl (os rfl (os rfl oz))))), lg (ls rfl (os rfl (os rfl (os rfl (os rfl (os rfl oz)))))), lg (ls rfl (os rfl (os rfl (os rfl (os rfl (os rfl (os rfl oz))))))), lg lz, trivial⟩ ?_
          replace hz_4 := bnd_some hz_4
          obtain ⟨z_6, hz_6, hz_4⟩ := hz_4
          refine aw_mid (fun e st => ∃ v : Int, Holds e [(0, sl kHAct none none p0), (3, ptr (s.boxes.length + 2) 0), (4, ptr (s.boxes.length + 5) 0), (5, sl (kI .u64) (some (s.fr.length + 0)) none t_2.1), (6, pl (.int .i64 t_2.2.1)), (7, ptr (s.boxes.length + 6) 0), (8, pl (.bool (decide ((x_5.X.Who.tmod 2) = 1))))] ∧ st = s.ext [⟨HOT, [mp K1 t_2.2.2.1]⟩, ⟨HOT, [mp K2 t_2.2.2.2.1]⟩, ⟨201, [mref (s.boxes.length + 0), mref (s.boxes.length + 1)]⟩, ⟨HOT, [mp K1 t_2.2.2.2.2.1]⟩, ⟨HOT, [mp K2 t_2.2.2.2.2.2]⟩, ⟨201, [mref (s.boxes.length + 3), mref (s.boxes.length + 4)]⟩, ⟨148, [pl (.int .u64 v), pl (.int .u64 x_5.X.No), pl (.int .u64 x_5.X.Space), pl (.int .u64 x_5.X.Gen), pl (.int .u64 x_5.X.Txn)]⟩] [⟨22, 1, t_2.1.length⟩] ∧ v = z_6) ?_ ?_
          · skip
            refine aw_wkN rfl 7 1 rfl rfl ?_
            refine aw_cond _ (os rfl (os rfl (os rfl (os rfl (os rfl (os rfl (os rfl oz))))))) (fun hc => ?_) (fun hc => ?_)
            · skip
              replace hz_6 := ifb_t hz_6 hc
              clear hc
              refine aw_region (by decide) ?_
              refine rts _ rfl (opD_fieldAddr fo148_0_u12b (os rfl (os rfl (os rfl (os rfl (os rfl oz)))))) ?_
              refine rts _ rfl (storeON rfl sz22_u12b lz (le_of_eq (ev_const _ _)) (one_pl rfl) rfl (Nat.le_of_ble_eq_true rfl) (pl_bnd _ _ _) (by simp only [na, nb, nc, nd, nf, ng, nh, ni, nj, nk] <;> rfl) (by simp only [na, nb, nc, nd, nf, ng, nh, ni, nj, nk] <;> rfl)) ?_
              refine .nil ?_
              refine wk_yesN rfl (l := [(0, sl kHAct none none p0), (3, ptr (s.boxes.length + 2) 0), (4, ptr (s.boxes.length + 5) 0), (5, sl (kI .u64) (some (s.fr.length + 0)) none t_2.1), (6, pl (.int .i64 t_2.2.1)), (7, ptr (s.boxes.length + 6) 0), (8, pl (.bool (decide ((x_5.X.Who.tmod 2) = 1))))]) (bs' := [⟨HOT, [mp K1 t_2.2.2.1]⟩, ⟨HOT, [mp K2 t_2.2.2.2.1]⟩, ⟨201, [mref (s.boxes.length + 0), mref (s.boxes.length + 1)]⟩, ⟨HOT, [mp K1 t_2.2.2.2.2.1]⟩, ⟨HOT, [mp K2 t_2.2.2.2.2.2]⟩, ⟨201, [mref (s.boxes.length + 3), mref (s.boxes.length + 4)]⟩, ⟨148, [pl (.int .u64 1), pl (.int .u64 x_5.X.No), pl (.int .u64 x_5.X.Space), pl (.int .u64 x_5.X.Gen), pl (.int .u64 x_5.X.Txn)]⟩]) ⟨le_of_eq (eg (lx (ls rfl oz))), le_of_eq (eg (lx (ls rfl (os rfl oz)))), le_of_eq (eg (lx (ls rfl (os rfl (os rfl oz))))), le_of_eq (eg (lx (ls rfl (os rfl (os rfl (os rfl oz)))))), le_of_eq (eg (lx (ls rfl (os rfl (os rfl (os rfl (os rfl oz))))))), le_of_eq (eg (lx (ls rfl (os rfl (os rfl (os rfl (os rfl (os rfl oz)))))))), le_of_eq (eg (lx (ls rfl (os rfl (os rfl (os rfl (os rfl (os rfl (os rfl oz))))))))), trivial⟩ (bnd_cons (sl_b kb_HAct) (bnd_cons (ptr_bnd _ (by first | omega | (simp only [List.length_append, List.length_cons, List.length_nil]; omega))) (bnd_cons (ptr_bnd _ (by first | omega | (simp only [List.length_append, List.length_cons, List.length_nil]; omega))) (bnd_cons (sl_ob (kb_I _) (by first | omega | (simp only [List.length_append, List.length_cons, List.length_nil, ext_fr_length, upd_fr_length]; omega))) (bnd_cons (pl_bnd _ _ _) (bnd_cons (ptr_bnd _ (by first | omega | (simp only [List.length_append, List.length_cons, List.length_nil]; omega))) (bnd_cons (pl_bnd _ _ _) bnd_nil))))))) (Nat.le_of_ble_eq_true rfl) (by simp only [na, nb, nc, nd, nf, ng, nh, ni, nj, nk] <;> rfl) (bxle_same (bxle_same (bxle_same (bxle_same (bxle_same (bxle_same (bxle_same bxle_nil))))))) rfl (by simp only [na, nb, nc, nd, nf, ng, nh, ni, nj, nk] <;> rfl) (bl_cons (bnd_cons (mp_bnd _ _ _ _) bnd_nil) (bl_cons (bnd_cons (mp_bnd _ _ _ _) bnd_nil) (bl_cons (bnd_cons (mref_bnd _ (by first | omega | (simp only [List.length_append, List.length_cons, List.length_nil]; omega))) (bnd_cons (mref_bnd _ (by first | omega | (simp only [List.length_append, List.length_cons, List.length_nil]; omega))) bnd_nil)) (bl_cons (bnd_cons (mp_bnd _ _ _ _) bnd_nil) (bl_cons (bnd_cons (mp_bnd _ _ _ _) bnd_nil) (bl_cons (bnd_cons (mref_bnd _ (by first | omega | (simp only [List.length_append, List.length_cons, List.length_nil]; omega))) (bnd_cons (mref_bnd _ (by first | omega | (simp only [List.length_append, List.length_cons, List.length_nil]; omega))) bnd_nil)) (bl_cons (bnd_cons (pl_bnd _ _ _) (bnd_cons (pl_bnd _ _ _) (bnd_cons (pl_bnd _ _ _) (bnd_cons (pl_bnd _ _ _) (bnd_cons (pl_bnd _ _ _) bnd_nil))))) bl_nil))))))) ?_
              exact ⟨1, ⟨le_of_eq (eg oz), le_of_eq (eg (os rfl oz)), le_of_eq (eg (os rfl (os rfl oz))), le_of_eq (eg (os rfl (os rfl (os rfl oz)))), le_of_eq (eg (os rfl (os rfl (os rfl (os rfl oz))))), le_of_eq (eg (os rfl (os rfl (os rfl (os rfl (os rfl oz)))))), le_of_eq (eg (os rfl (os rfl (os rfl (os rfl (os rfl (os rfl oz))))))), trivial⟩, rfl, some_of hz_6⟩
            · skip
              replace hz_6 := ifb_f hz_6 hc
              clear hc
              refine aw_skip ?_
              refine wk_yesN rfl (l := [(0, sl kHAct none none p0), (3, ptr (s.boxes.length + 2) 0), (4, ptr (s.boxes.length + 5) 0), (5, sl (kI .u64) (some (s.fr.length + 0)) none t_2.1), (6, pl (.int .i64 t_2.2.1)), (7, ptr (s.boxes.length + 6) 0), (8, pl (.bool (decide ((x_5.X.Who.tmod 2) = 1))))]) (bs' := [⟨HOT, [mp K1 t_2.2.2.1]⟩, ⟨HOT, [mp K2 t_2.2.2.2.1]⟩, ⟨201, [mref (s.boxes.length + 0), mref (s.boxes.length + 1)]⟩, ⟨HOT, [mp K1 t_2.2.2.2.2.1]⟩, ⟨HOT, [mp K2 t_2.2.2.2.2.2]⟩, ⟨201, [mref (s.boxes.length + 3), mref (s.boxes.length + 4)]⟩, ⟨148, [pl (.int .u64 (x_5.X.Who.tmod 4)), pl (.int .u64 x_5.X.No), pl (.int .u64 x_5.X.Space), pl (.int .u64 x_5.X.Gen), pl (.int .u64 x_5.X.Txn)]⟩]) ⟨le_of_eq (eg oz), le_of_eq (eg (os rfl oz)), le_of_eq (eg (os rfl (os rfl oz))), le_of_eq (eg (os rfl (os rfl (os rfl oz)))), le_of_eq (eg (os rfl (os rfl (os rfl (os rfl oz))))), le_of_eq (eg (os rfl (os rfl (os rfl (os rfl (os rfl oz)))))), le_of_eq (eg (os rfl (os rfl (os rfl (os rfl (os rfl (os rfl oz))))))), trivial⟩ (bnd_cons (sl_b kb_HAct) (bnd_cons (ptr_bnd _ (by first | omega | (simp only [List.length_append, List.length_cons, List.length_nil]; omega))) (bnd_cons (ptr_bnd _ (by first | omega | (simp only [List.length_append, List.length_cons, List.length_nil]; omega))) (bnd_cons (sl_ob (kb_I _) (by first | omega | (simp only [List.length_append, List.length_cons, List.length_nil, ext_fr_length, upd_fr_length]; omega))) (bnd_cons (pl_bnd _ _ _) (bnd_cons (ptr_bnd _ (by first | omega | (simp only [List.length_append, List.length_cons, List.length_nil]; omega))) (bnd_cons (pl_bnd _ _ _) bnd_nil))))))) (Nat.le_of_ble_eq_true rfl) (by simp only [na, nb, nc, nd, nf, ng, nh, ni, nj, nk] <;> rfl) (bxle_same (bxle_same (bxle_same (bxle_same (bxle_same (bxle_same (bxle_same bxle_nil))))))) rfl (by simp only [na, nb, nc, nd, nf, ng, nh, ni, nj, nk] <;> rfl) (bl_cons (bnd_cons (mp_bnd _ _ _ _) bnd_nil) (bl_cons (bnd_cons (mp_bnd _ _ _ _) bnd_nil) (bl_cons (bnd_cons (mref_bnd _ (by first | omega | (simp only [List.length_append, List.length_cons, List.length_nil]; omega))) (bnd_cons (mref_bnd _ (by first | omega | (simp only [List.length_append, List.length_cons, List.length_nil]; omega))) bnd_nil)) (bl_cons (bnd_cons (mp_bnd _ _ _ _) bnd_nil) (bl_cons (bnd_cons (mp_bnd _ _ _ _) bnd_nil) (bl_cons (bnd_cons (mref_bnd _ (by first | omega | (simp only [List.length_append, List.length_cons, List.length_nil]; omega))) (bnd_cons (mref_bnd _ (by first | omega | (simp only [List.length_append, List.length_cons, List.length_nil]; omega))) bnd_nil)) (bl_cons (bnd_cons (pl_bnd _ _ _) (bnd_cons (pl_bnd _ _ _) (bnd_cons (pl_bnd _ _ _) (bnd_cons (pl_bnd _ _ _) (bnd_cons (pl_bnd _ _ _) bnd_nil))))) bl_nil))))))) ?_
              exact ⟨(x_5.X.Who.tmod 4), ⟨le_of_eq (eg oz), le_of_eq (eg (os rfl oz)), le_of_eq (eg (os rfl (os rfl oz))), le_of_eq (eg (os rfl (os rfl (os rfl oz)))), le_of_eq (eg (os rfl (os rfl (os rfl (os rfl oz))))), le_of_eq (eg (os rfl (os rfl (os rfl (os rfl (os rfl oz)))))), le_of_eq (eg (os rfl (os rfl (os rfl (os rfl (os rfl (os rfl oz))))))), trivial⟩, rfl, some_of hz_6⟩
          · rintro e st ⟨vz_6, hH, rfl, rfl⟩
            refine aw_keep _ hH ?_
            refine aw_keep [(0, _), (3, _), (4, _), (5, _), (6, _), (7, _), (8, _)] ⟨lg oz, lg (os rfl oz), lg (os rfl (os rfl oz)), lg (os rfl (os rfl (os rfl oz))), lg (os rfl (os rfl (os rfl (os rfl oz)))), lg (os rfl (os rfl (os rfl (os rfl (os rfl oz))))), lg (os rfl (os rfl (os rfl (os rfl (os rfl (os rfl oz)))))), trivial⟩ ?_
            refine aw_seq ?_
            refine aw_seq ?_
            refine aw_region (by decide) ?_
            refine rts _ rfl (opD_move oz) ?_
            refine rts _ rfl (opD_move (ls rfl (os rfl (os rfl (os rfl (os rfl oz)))))) ?_
            replace hz_4 := ixb_some hz_4
            obtain ⟨x_7, hx_7, hbx_7, hz_4⟩ := hz_4
            refine rts _ rfl (opD_indexAddr_sl (i := t_2.2.1.toNat) Go.Proofs.Tryd.underlying131 sz150_u12b (ls rfl lz) lz hbx_7.2.2 hbx_7.2.1) ?_
            refine rts _ rfl (opD_fieldAddr_el fo150_0_u12b lz) ?_
            refine rts _ rfl (opD_load_el_one ag3_u12b lz hx_7 rfl) ?_
            refine rts _ rfl (opD_eql lz (ev_const _ _)) ?_
            refine .nil ?_
            refine aw_keep [(0, _), (3, _), (4, _), (5, _), (6, _), (7, _), (8, _), (56, _)] ⟨lg (ls rfl (ls rfl (ls rfl (ls rfl (ls rfl (ls rfl oz)))))), lg (ls rfl (ls rfl (ls rfl (ls rfl (ls rfl (ls rfl (os rfl oz))))))), lg (ls rfl (ls rfl (ls rfl (ls rfl (ls rfl (ls rfl (os rfl (os rfl oz)))))))), lg (ls rfl (ls rfl (ls rfl (ls rfl (ls rfl (ls rfl (os rfl (os rfl (os rfl oz))))))))), lg (ls rfl (ls rfl (ls rfl (ls rfl (ls rfl (ls rfl (os rfl (os rfl (os rfl (os rfl oz)))))))))), lg (ls rfl (ls rfl (ls rfl (ls rfl (ls rfl (ls rfl (os rfl (os rfl (os rfl (os rfl (os rfl oz))))))))))), lg (ls rfl (ls rfl (ls rfl (ls rfl (ls rfl (ls rfl (os rfl (os rfl (os rfl (os rfl (os rfl (os rfl oz)))))))))))), lg lz, trivial⟩ ?_
            refine aw_cond _ (os rfl (os rfl (os rfl (os rfl (os rfl (os rfl (os rfl oz))))))) (fun hc => ?_) (fun hc => ?_)
            · skip
              replace hz_4 := ifb_t hz_4 hc
              clear hc
              refine aw_seq ?_
              refine aw_region (by decide) ?_
              refine rts _ rfl (opD_move (os rfl oz)) ?_
              refine rts _ rfl (opD_fieldAddr fo148_0_u12b (ls rfl (os rfl (os rfl (os rfl (os rfl (os rfl oz))))))) ?_
              refine rts _ rfl (opD_load_one ag22_u12b lz (loc_getN rfl rfl) rfl) ?_
              refine rts _ rfl (opD_fieldAddr fo148_1_u12b (ls rfl (ls rfl (ls rfl (os rfl (os rfl (os rfl (os rfl (os rfl oz))))))))) ?_
              refine rts _ rfl (opD_load_one ag22_u12b lz (loc_getN rfl rfl) rfl) ?_
              replace hz_4 := bnd_some hz_4
              obtain ⟨x_8, hx_8, hz_4⟩ := hz_4
              refine rts _ rfl (callTU (T := TBx) rfl 0 ht77_u12b (fun s g1 g2 gT h12 h1 h2 hT => ct_drop (p0 := ⟨t_2.2.2.1, t_2.2.2.2.1⟩) hx_8 h1 h2 hT) rfl rfl rfl ⟨le_of_eq (ls rfl (ls rfl (ls rfl (ls rfl lz)))), le_of_eq (ls rfl (ls rfl lz)), le_of_eq lz, trivial⟩ (by simp only [na, nb, nc, nd, nf, ng, nh, ni, nj, nk] <;> rfl)) ?_
              refine rts _ rfl (opD_assign lz) ?_
              refine .nil ?_
              refine aw_keep [(0, _), (3, _), (4, _), (5, _), (6, _), (7, _), (8, _), (9, _)] ⟨lg (ls rfl (ls rfl (ls rfl (ls rfl (ls rfl (ls rfl (ls rfl oz))))))), lg (ls rfl (ls rfl (ls rfl (ls rfl (ls rfl (ls rfl (ls rfl (os rfl oz)))))))), lg (ls rfl (ls rfl (ls rfl (ls rfl (ls rfl (ls rfl (ls rfl (os rfl (os rfl oz))))))))), lg (ls rfl (ls rfl (ls rfl (ls rfl (ls rfl (ls rfl (ls rfl (os rfl (os rfl (os rfl oz)))))))))), lg (ls rfl (ls rfl (ls rfl (ls rfl (ls rfl (ls rfl (ls rfl (os rfl (os rfl (os rfl (os rfl oz))))))))))), lg (ls rfl (ls rfl (ls rfl (ls rfl (ls rfl (ls rfl (ls rfl (os rfl (os rfl (os rfl (os rfl (os rfl oz)))))))))))), lg (ls rfl (ls rfl (ls rfl (ls rfl (ls rfl (ls rfl (ls rfl (os rfl (os rfl (os rfl (os rfl (os rfl (os rfl oz))))))))))))), lg lz, trivial⟩ ?_
              refine aw_seq ?_
              refine aw_seq ?_
              refine aw_region (by decide) ?_
              refine rts _ rfl (opD_move (os rfl (os rfl (os rfl (os rfl (os rfl (os rfl oz))))))) ?_
              refine rts _ rfl (opD_move lz) ?_
              refine rt_cases 64 (eg lz) (fun hc => ?_) (fun hc => ?_)
              · skip
                replace hz_4 := ifb_t hz_4 hc
                clear hc
                refine rts _ ⟨_, rfl, .inl ⟨_, eg lz, rfl⟩⟩ (opD_move (ls rfl (ls rfl (ls rfl (os rfl (os rfl oz)))))) ?_
                refine rts _ ⟨_, rfl, .inl ⟨_, eg (ls rfl lz), rfl⟩⟩ (opD_fieldAddr fo148_0_u12b (ls rfl (ls rfl (ls rfl (ls rfl (os rfl (os rfl (os rfl (os rfl (os rfl oz)))))))))) ?_
                refine rts _ ⟨_, rfl, .inl ⟨_, eg (ls rfl (ls rfl lz)), rfl⟩⟩ (opD_load_one ag22_u12b lz (loc_getN rfl rfl) rfl) ?_
                refine rts _ ⟨_, rfl, .inl ⟨_, eg (ls rfl (ls rfl (ls rfl lz))), rfl⟩⟩ (opD_fieldAddr fo148_1_u12b (ls rfl (ls rfl (ls rfl (ls rfl (ls rfl (ls rfl (os rfl (os rfl (os rfl (os rfl (os rfl oz)))))))))))) ?_
                refine rts _ ⟨_, rfl, .inl ⟨_, eg (ls rfl (ls rfl (ls rfl (ls rfl lz)))), rfl⟩⟩ (opD_load_one ag22_u12b lz (loc_getN rfl rfl) rfl) ?_
                replace hz_4 := bnd_some hz_4
                obtain ⟨x_9, hx_9, hz_4⟩ := hz_4
                refine rts _ ⟨_, rfl, .inl ⟨_, eg (ls rfl (ls rfl (ls rfl (ls rfl (ls rfl lz))))), rfl⟩⟩ (callTU (T := TBx) rfl 3 ht77_u12b (fun s g1 g2 gT h12 h1 h2 hT => ct_drop (p0 := ⟨t_2.2.2.2.2.1, t_2.2.2.2.2.2⟩) hx_9 h1 h2 hT) rfl rfl rfl ⟨le_of_eq (ls rfl (ls rfl (ls rfl (ls rfl lz)))), le_of_eq (ls rfl (ls rfl lz)), le_of_eq lz, trivial⟩ (by simp only [na, nb, nc, nd, nf, ng, nh, ni, nj, nk] <;> rfl)) ?_
                replace hz_4 := bnd_some hz_4
                obtain ⟨x_10, hx_10, hz_4⟩ := hz_4
                refine rts _ ⟨_, rfl, .inl ⟨_, eg (ls rfl (ls rfl (ls rfl (ls rfl (ls rfl (ls rfl lz)))))), rfl⟩⟩ (opD_call ht76_u12b (c_num34 hx_10 hst) ⟨le_of_eq lz, trivial⟩) ?_
                refine rts _ ⟨_, rfl, .inl ⟨_, eg (ls rfl (ls rfl (ls rfl (ls rfl (ls rfl (ls rfl (ls rfl lz))))))), rfl⟩⟩ (opD_move (ls rfl (ls rfl (ls rfl (ls rfl (ls rfl (ls rfl (ls rfl (ls rfl (ls rfl (ls rfl (os rfl (os rfl (os rfl (os rfl (os rfl (os rfl (os rfl oz)))))))))))))))))) ?_
                replace hz_4 := bnd_some hz_4
                obtain ⟨x_11, hx_11, hz_4⟩ := hz_4
                refine rts _ ⟨_, rfl, .inl ⟨_, eg (ls rfl (ls rfl (ls rfl (ls rfl (ls rfl (ls rfl (ls rfl (ls rfl lz)))))))), rfl⟩⟩ (opD_call ht76_u12b (c_num34 hx_11 hst) ⟨le_of_eq lz, trivial⟩) ?_
                refine rts _ ⟨_, rfl, .inl ⟨_, eg (ls rfl (ls rfl (ls rfl (ls rfl (ls rfl (ls rfl (ls rfl (ls rfl (ls rfl lz))))))))), rfl⟩⟩ (opD_neq (ls rfl (ls rfl lz)) lz) ?_
                refine rts _ rfl (opD_pickT (ls rfl (ls rfl (ls rfl (ls rfl (ls rfl (ls rfl (ls rfl (ls rfl (ls rfl (ls rfl lz)))))))))) lz) ?_
                refine .nil ?_
                refine aw_keep [(0, _), (3, _), (4, _), (5, _), (6, _), (75, _)] ⟨lg (ls rfl (ls rfl (ls rfl (ls rfl (ls rfl (ls rfl (ls rfl (ls rfl (ls rfl (ls rfl (ls rfl (ls rfl (ls rfl (ls rfl oz)))))))))))))), lg (ls rfl (ls rfl (ls rfl (ls rfl (ls rfl (ls rfl (ls rfl (ls rfl (ls rfl (ls rfl (ls rfl (ls rfl (ls rfl (ls rfl (os rfl oz))))))))))))))), lg (ls rfl (ls rfl (ls rfl (ls rfl (ls rfl (ls rfl (ls rfl (ls rfl (ls rfl (ls rfl (ls rfl (ls rfl (ls rfl (ls rfl (os rfl (os rfl oz)))))))))))))))), lg (ls rfl (ls rfl (ls rfl (ls rfl (ls rfl (ls rfl (ls rfl (ls rfl (ls rfl (ls rfl (ls rfl (ls rfl (ls rfl (ls rfl (os rfl (os rfl (os rfl oz))))))))))))))))), lg (ls rfl (ls rfl (ls rfl (ls rfl (ls rfl (ls rfl (ls rfl (ls rfl (ls rfl (ls rfl (ls rfl (ls rfl (ls rfl (ls rfl (os rfl (os rfl (os rfl (os rfl oz)))))))))))))))))), lg lz, trivial⟩ ?_
                refine aw_cond _ (os rfl (os rfl (os rfl (os rfl (os rfl oz))))) (fun hc => ?_) (fun hc => ?_)
                · skip
                  replace hz_4 := ifb_t hz_4 hc
                  clear hc
                  refine aw_seq ?_
                  refine aw_region (by decide) ?_
                  refine rts _ rfl (opD_assign (ev_const _ _)) ?_
                  refine .nil ?_
                  refine aw_keep [(2, _)] ⟨lg lz, trivial⟩ ?_
                  refine aw_ret ?_
                  obtain rfl := some_of hz_4
                  replace hz_3 := ocs_l hz_3
                  obtain rfl := some_of hz_3
                  replace hz_1 := ocs_r hz_1
                  obtain rfl := some_of hz_1
                  replace h0 := ocs_l h0
                  refine wk_no ?_
                  refine wk_no ?_
                  refine wk_no ?_
                  obtain rfl := some_of h0
                  exact done_ext (.inr rfl) ((res_one rfl (it_tmp oz)).le (Pd.le_refl _)) (pl_bnd _ _ _)
                · skip
                  replace hz_4 := ifb_f hz_4 hc
                  clear hc
                  refine aw_skip ?_
                  refine aw_keep [(0, _), (3, _), (4, _), (5, _), (6, _)] ⟨lg oz, lg (os rfl oz), lg (os rfl (os rfl oz)), lg (os rfl (os rfl (os rfl oz))), lg (os rfl (os rfl (os rfl (os rfl oz)))), trivial⟩ ?_
                  refine aw_exit ?_
                  refine wk_yesN rfl (l := [(0, sl kHAct none none p0), (3, ptr (s.boxes.length + 2) 0), (4, ptr (s.boxes.length + 5) 0), (5, sl (kI .u64) (some (s.fr.length + 0)) none t_2.1), (6, pl (.int .i64 t_2.2.1))]) (bs' := [⟨HOT, [mp K1 x_8.2]⟩, ⟨HOT, [mp K2 t_2.2.2.2.1]⟩, ⟨201, [mref (s.boxes.length + 0), mref (s.boxes.length + 1)]⟩, ⟨HOT, [mp K1 x_9.2]⟩, ⟨HOT, [mp K2 t_2.2.2.2.2.2]⟩, ⟨201, [mref (s.boxes.length + 3), mref (s.boxes.length + 4)]⟩]) ⟨le_of_eq (eg oz), le_of_eq (eg (os rfl oz)), le_of_eq (eg (os rfl (os rfl oz))), le_of_eq (eg (os rfl (os rfl (os rfl oz)))), le_of_eq (eg (os rfl (os rfl (os rfl (os rfl oz))))), trivial⟩ (bnd_cons (sl_b kb_HAct) (bnd_cons (ptr_bnd _ (by first | omega | (simp only [List.length_append, List.length_cons, List.length_nil]; omega))) (bnd_cons (ptr_bnd _ (by first | omega | (simp only [List.length_append, List.length_cons, List.length_nil]; omega))) (bnd_cons (sl_ob (kb_I _) (by first | omega | (simp only [List.length_append, List.length_cons, List.length_nil, ext_fr_length, upd_fr_length]; omega))) (bnd_cons (pl_bnd _ _ _) bnd_nil))))) (Nat.le_of_ble_eq_true rfl) (by simp only [na, nb, nc, nd, nf, ng, nh, ni, nj, nk] <;> rfl) (bxle_same (bxle_same (bxle_same (bxle_same (bxle_same (bxle_same bxle_nil)))))) rfl (by simp only [na, nb, nc, nd, nf, ng, nh, ni, nj, nk] <;> rfl) (bl_cons (bnd_cons (mp_bnd _ _ _ _) bnd_nil) (bl_cons (bnd_cons (mp_bnd _ _ _ _) bnd_nil) (bl_cons (bnd_cons (mref_bnd _ (by first | omega | (simp only [List.length_append, List.length_cons, List.length_nil]; omega))) (bnd_cons (mref_bnd _ (by first | omega | (simp only [List.length_append, List.length_cons, List.length_nil]; omega))) bnd_nil)) (bl_cons (bnd_cons (mp_bnd _ _ _ _) bnd_nil) (bl_cons (bnd_cons (mp_bnd _ _ _ _) bnd_nil) (bl_cons (bnd_cons (mref_bnd _ (by first | omega | (simp only [List.length_append, List.length_cons, List.length_nil]; omega))) (bnd_cons (mref_bnd _ (by first | omega | (simp only [List.length_append, List.length_cons, List.length_nil]; omega))) bnd_nil)) bl_nil)))))) ?_
                  exact ⟨(t_2.1, x_8.2, t_2.2.2.2.1, x_9.2, t_2.2.2.2.2.2), ⟨le_of_eq (eg oz), le_of_eq (eg (os rfl oz)), le_of_eq (eg (os rfl (os rfl oz))), le_of_eq (eg (os rfl (os rfl (os rfl oz)))), le_of_eq (eg (os rfl (os rfl (os rfl (os rfl oz))))), trivial⟩, rfl, some_of hz_4⟩
              · skip
                replace hz_4 := ifb_f hz_4 hc
                clear hc
                refine rtk ⟨_, rfl, .inl ⟨_, eg lz, rfl⟩⟩ ?_
                refine rtk ⟨_, rfl, .inl ⟨_, eg (ls rfl lz), rfl⟩⟩ ?_
                refine rtk ⟨_, rfl, .inl ⟨_, eg (ls rfl (ls rfl lz)), rfl⟩⟩ ?_
                refine rtk ⟨_, rfl, .inl ⟨_, eg (ls rfl (ls rfl (ls rfl lz))), rfl⟩⟩ ?_
                refine rtk ⟨_, rfl, .inl ⟨_, eg (ls rfl (ls rfl (ls rfl (ls rfl lz)))), rfl⟩⟩ ?_
                refine rtk ⟨_, rfl, .inl ⟨_, eg (ls rfl (ls rfl (ls rfl (ls rfl (ls rfl lz))))), rfl⟩⟩ ?_
                refine rtk ⟨_, rfl, .inl ⟨_, eg (ls rfl (ls rfl (ls rfl (ls rfl (ls rfl (ls rfl lz)))))), rfl⟩⟩ ?_
                refine rtk ⟨_, rfl, .inl ⟨_, eg (ls rfl (ls rfl (ls rfl (ls rfl (ls rfl (ls rfl (ls rfl lz))))))), rfl⟩⟩ ?_
                refine rtk ⟨_, rfl, .inl ⟨_, eg (ls rfl (ls rfl (ls rfl (ls rfl (ls rfl (ls rfl (ls rfl (ls rfl lz)))))))), rfl⟩⟩ ?_
                refine rtk ⟨_, rfl, .inl ⟨_, eg (ls rfl (ls rfl (ls rfl (ls rfl (ls rfl (ls rfl (ls rfl (ls rfl (ls rfl lz))))))))), rfl⟩⟩ ?_
                refine rts _ rfl (opD_pickF (ls rfl (ls rfl (ls rfl (ls rfl (ls rfl (ls rfl (ls rfl (ls rfl (ls rfl (ls rfl lz)))))))))) (ev_const _ _)) ?_
                refine .nil ?_
                refine aw_keep [(0, _), (3, _), (4, _), (5, _), (6, _), (75, _)] ⟨lg (ls rfl (ls rfl (ls rfl (ls rfl (ls rfl (ls rfl (ls rfl (ls rfl (ls rfl (ls rfl (ls rfl (ls rfl (ls rfl (ls rfl oz)))))))))))))), lg (ls rfl (ls rfl (ls rfl (ls rfl (ls rfl (ls rfl (ls rfl (ls rfl (ls rfl (ls rfl (ls rfl (ls rfl (ls rfl (ls rfl (os rfl oz))))))))))))))), lg (ls rfl (ls rfl (ls rfl (ls rfl (ls rfl (ls rfl (ls rfl (ls rfl (ls rfl (ls rfl (ls rfl (ls rfl (ls rfl (ls rfl (os rfl (os rfl oz)))))))))))))))), lg (ls rfl (ls rfl (ls rfl (ls rfl (ls rfl (ls rfl (ls rfl (ls rfl (ls rfl (ls rfl (ls rfl (ls rfl (ls rfl (ls rfl (os rfl (os rfl (os rfl oz))))))))))))))))), lg (ls rfl (ls rfl (ls rfl (ls rfl (ls rfl (ls rfl (ls rfl (ls rfl (ls rfl (ls rfl (ls rfl (ls rfl (ls rfl (ls rfl (os rfl (os rfl (os rfl (os rfl oz)))))))))))))))))), lg lz, trivial⟩ ?_
                refine aw_cond _ (os rfl (os rfl (os rfl (os rfl (os rfl oz))))) (fun hc => ?_) (fun hc => ?_)
                · skip
                  cases hc
                · skip
                  refine aw_skip ?_
                  refine aw_keep [(0, _), (3, _), (4, _), (5, _), (6, _)] ⟨lg oz, lg (os rfl oz), lg (os rfl (os rfl oz)), lg (os rfl (os rfl (os rfl oz))), lg (os rfl (os rfl (os rfl (os rfl oz)))), trivial⟩ ?_
                  refine aw_exit ?_
                  refine wk_yesN rfl (l := [(0, sl kHAct none none p0), (3, ptr (s.boxes.length + 2) 0), (4, ptr (s.boxes.length + 5) 0), (5, sl (kI .u64) (some (s.fr.length + 0)) none t_2.1), (6, pl (.int .i64 t_2.2.1))]) (bs' := [⟨HOT, [mp K1 x_8.2]⟩, ⟨HOT, [mp K2 t_2.2.2.2.1]⟩, ⟨201, [mref (s.boxes.length + 0), mref (s.boxes.length + 1)]⟩, ⟨HOT, [mp K1 t_2.2.2.2.2.1]⟩, ⟨HOT, [mp K2 t_2.2.2.2.2.2]⟩, ⟨201, [mref (s.boxes.length + 3), mref (s.boxes.length + 4)]⟩]) ⟨le_of_eq (eg oz), le_of_eq (eg (os rfl oz)), le_of_eq (eg (os rfl (os rfl oz))), le_of_eq (eg (os rfl (os rfl (os rfl oz)))), le_of_eq (eg (os rfl (os rfl (os rfl (os rfl oz))))), trivial⟩ (bnd_cons (sl_b kb_HAct) (bnd_cons (ptr_bnd _ (by first | omega | (simp only [List.length_append, List.length_cons, List.length_nil]; omega))) (bnd_cons (ptr_bnd _ (by first | omega | (simp only [List.length_append, List.length_cons, List.length_nil]; omega))) (bnd_cons (sl_ob (kb_I _) (by first | omega | (simp only [List.length_append, List.length_cons, List.length_nil, ext_fr_length, upd_fr_length]; omega))) (bnd_cons (pl_bnd _ _ _) bnd_nil))))) (Nat.le_of_ble_eq_true rfl) (by simp only [na, nb, nc, nd, nf, ng, nh, ni, nj, nk] <;> rfl) (bxle_same (bxle_same (bxle_same (bxle_same (bxle_same (bxle_same bxle_nil)))))) rfl (by simp only [na, nb, nc, nd, nf, ng, nh, ni, nj, nk] <;> rfl) (bl_cons (bnd_cons (mp_bnd _ _ _ _) bnd_nil) (bl_cons (bnd_cons (mp_bnd _ _ _ _) bnd_nil) (bl_cons (bnd_cons (mref_bnd _ (by first | omega | (simp only [List.length_append, List.length_cons, List.length_nil]; omega))) (bnd_cons (mref_bnd _ (by first | omega | (simp only [List.length_append, List.length_cons, List.length_nil]; omega))) bnd_nil)) (bl_cons (bnd_cons (mp_bnd _ _ _ _) bnd_nil) (bl_cons (bnd_cons (mp_bnd _ _ _ _) bnd_nil) (bl_cons (bnd_cons (mref_bnd _ (by first | omega | (simp only [List.length_append, List.length_cons, List.length_nil]; omega))) (bnd_cons (mref_bnd _ (by first | omega | (simp only [List.length_append, List.length_cons, List.length_nil]; omega))) bnd_nil)) bl_nil)))))) ?_
                  exact ⟨(t_2.1, x_8.2, t_2.2.2.2.1, t_2.2.2.2.2.1, t_2.2.2.2.2.2), ⟨le_of_eq (eg oz), le_of_eq (eg (os rfl oz)), le_of_eq (eg (os rfl (os rfl oz))), le_of_eq (eg (os rfl (os rfl (os rfl oz)))), le_of_eq (eg (os rfl (os rfl (os rfl (os rfl oz))))), trivial⟩, rfl, some_of hz_4⟩
            · skip
              replace hz_4 := ifb_f hz_4 hc
              clear hc
              refine aw_skip ?_
              refine aw_keep [(0, _), (3, _), (4, _), (5, _), (6, _), (7, _), (8, _)] ⟨lg oz, lg (os rfl oz), lg (os rfl (os rfl oz)), lg (os rfl (os rfl (os rfl oz))), lg (os rfl (os rfl (os rfl (os rfl oz)))), lg (os rfl (os rfl (os rfl (os rfl (os rfl oz))))), lg (os rfl (os rfl (os rfl (os rfl (os rfl (os rfl oz)))))), trivial⟩ ?_
              refine aw_seq ?_
              refine aw_region (by decide) ?_
              refine rts _ rfl (opD_move (os rfl oz)) ?_
              refine rts _ rfl (opD_load_aggX (qs := [_, _, _, _, _]) ag148_u12b sz148_u12b (ls rfl (os rfl (os rfl (os rfl (os rfl (os rfl oz)))))) (loc_getN rfl rfl) (Nat.le_of_ble_eq_true rfl) rfl) ?_
              replace hz_4 := bnd_some hz_4
              obtain ⟨x_12, hx_12, hz_4⟩ := hz_4
              refine rts _ rfl (callTU (T := TBx) rfl 0 ht74_u12b (fun s g1 g2 gT h12 h1 h2 hT => ct_give hx_12 h12 h1 h2 hT) rfl rfl rfl ⟨le_of_eq (ls rfl lz), (le_of_eq lz).trans (agg_le ⟨(Pd.le_refl _), (Pd.le_refl _), (Pd.le_refl _), (Pd.le_refl _), (Pd.le_refl _), trivial⟩), trivial⟩ (by simp only [na, nb, nc, nd, nf, ng, nh, ni, nj, nk] <;> rfl)) ?_
              refine rts _ rfl (opD_move lz) ?_
              refine rts _ rfl (opD_extract lz rfl) ?_
              refine rts _ rfl (opD_extract (ls rfl lz) rfl) ?_
              refine rts _ rfl (opD_assign (ls rfl lz)) ?_
              refine rts _ rfl (opD_assign (ls rfl lz)) ?_
              refine .nil ?_
              refine aw_keep [(0, _), (3, _), (4, _), (5, _), (6, _), (7, _), (8, _), (10, _), (11, _)] ⟨lg (ls rfl (ls rfl (ls rfl (ls rfl (ls rfl (ls rfl (ls rfl (ls rfl oz)))))))), lg (ls rfl (ls rfl (ls rfl (ls rfl (ls rfl (ls rfl (ls rfl (ls rfl (os rfl oz))))))))), lg (ls rfl (ls rfl (ls rfl (ls rfl (ls rfl (ls rfl (ls rfl (ls rfl (os rfl (os rfl oz)))))))))), lg (ls rfl (ls rfl (ls rfl (ls rfl (ls rfl (ls rfl (ls rfl (ls rfl (os rfl (os rfl (os rfl oz))))))))))), lg (ls rfl (ls rfl (ls rfl (ls rfl (ls rfl (ls rfl (ls rfl (ls rfl (os rfl (os rfl (os rfl (os rfl oz)))))))))))), lg (ls rfl (ls rfl (ls rfl (ls rfl (ls rfl (ls rfl (ls rfl (ls rfl (os rfl (os rfl (os rfl (os rfl (os rfl oz))))))))))))), lg (ls rfl (ls rfl (ls rfl (ls rfl (ls rfl (ls rfl (ls rfl (ls rfl (os rfl (os rfl (os rfl (os rfl (os rfl (os rfl oz)))))))))))))), lg (ls rfl lz), lg lz, trivial⟩ ?_
              refine aw_seq ?_
              refine aw_seq ?_
              refine aw_region (by decide) ?_
              refine rts _ rfl (opD_move (os rfl (os rfl (os rfl (os rfl (os rfl (os rfl oz))))))) ?_
              refine rts _ rfl (opD_not lz) ?_
              refine .nil ?_
              refine aw_keep [(0, _), (3, _), (4, _), (5, _), (6, _), (7, _), (10, _), (11, _), (83, _)] ⟨lg (ls rfl (ls rfl oz)), lg (ls rfl (ls rfl (os rfl oz))), lg (ls rfl (ls rfl (os rfl (os rfl oz)))), lg (ls rfl (ls rfl (os rfl (os rfl (os rfl oz))))), lg (ls rfl (ls rfl (os rfl (os rfl (os rfl (os rfl oz)))))), lg (ls rfl (ls rfl (os rfl (os rfl (os rfl (os rfl (os rfl oz))))))), lg (ls rfl (ls rfl (os rfl (os rfl (os rfl (os rfl (os rfl (os rfl (os rfl oz))))))))), lg (ls rfl (ls rfl (os rfl (os rfl (os rfl (os rfl (os rfl (os rfl (os rfl (os rfl oz)))))))))), lg lz, trivial⟩ ?_
              refine aw_cond _ (os rfl (os rfl (os rfl (os rfl (os rfl (os rfl (os rfl (os rfl oz)))))))) (fun hc => ?_) (fun hc => ?_)
              · skip
                replace hz_4 := ifb_t hz_4 hc
                clear hc
                refine aw_exit ?_
                refine wk_yesN rfl (l := [(0, sl kHAct none none p0), (3, ptr (s.boxes.length + 2) 0), (4, ptr (s.boxes.length + 5) 0), (5, sl (kI .u64) (some (s.fr.length + 0)) none t_2.1), (6, pl (.int .i64 t_2.2.1))]) (bs' := [⟨HOT, [mp K1 x_12.2.2.H]⟩, ⟨HOT, [mp K2 x_12.2.2.N]⟩, ⟨201, [mref (s.boxes.length + 0), mref (s.boxes.length + 1)]⟩, ⟨HOT, [mp K1 t_2.2.2.2.2.1]⟩, ⟨HOT, [mp K2 t_2.2.2.2.2.2]⟩, ⟨201, [mref (s.boxes.length + 3), mref (s.boxes.length + 4)]⟩]) ⟨le_of_eq (eg oz), le_of_eq (eg (os rfl oz)), le_of_eq (eg (os rfl (os rfl oz))), le_of_eq (eg (os rfl (os rfl (os rfl oz)))), le_of_eq (eg (os rfl (os rfl (os rfl (os rfl oz))))), trivial⟩ (bnd_cons (sl_b kb_HAct) (bnd_cons (ptr_bnd _ (by first | omega | (simp only [List.length_append, List.length_cons, List.length_nil]; omega))) (bnd_cons (ptr_bnd _ (by first | omega | (simp only [List.length_append, List.length_cons, List.length_nil]; omega))) (bnd_cons (sl_ob (kb_I _) (by first | omega | (simp only [List.length_append, List.length_cons, List.length_nil, ext_fr_length, upd_fr_length]; omega))) (bnd_cons (pl_bnd _ _ _) bnd_nil))))) (Nat.le_of_ble_eq_true rfl) (by simp only [na, nb, nc, nd, nf, ng, nh, ni, nj, nk] <;> rfl) (bxle_same (bxle_same (bxle_same (bxle_same (bxle_same (bxle_same bxle_nil)))))) rfl (by simp only [na, nb, nc, nd, nf, ng, nh, ni, nj, nk] <;> rfl) (bl_cons (bnd_cons (mp_bnd _ _ _ _) bnd_nil) (bl_cons (bnd_cons (mp_bnd _ _ _ _) bnd_nil) (bl_cons (bnd_cons (mref_bnd _ (by first | omega | (simp only [List.length_append, List.length_cons, List.length_nil]; omega))) (bnd_cons (mref_bnd _ (by first | omega | (simp only [List.length_append, List.length_cons, List.length_nil]; omega))) bnd_nil)) (bl_cons (bnd_cons (mp_bnd _ _ _ _) bnd_nil) (bl_cons (bnd_cons (mp_bnd _ _ _ _) bnd_nil) (bl_cons (bnd_cons (mref_bnd _ (by first | omega | (simp only [List.length_append, List.length_cons, List.length_nil]; omega))) (bnd_cons (mref_bnd _ (by first | omega | (simp only [List.length_append, List.length_cons, List.length_nil]; omega))) bnd_nil)) bl_nil)))))) ?_
                exact ⟨(t_2.1, x_12.2.2.H, x_12.2.2.N, t_2.2.2.2.2.1, t_2.2.2.2.2.2), ⟨le_of_eq (eg oz), le_of_eq (eg (os rfl oz)), le_of_eq (eg (os rfl (os rfl oz))), le_of_eq (eg (os rfl (os rfl (os rfl oz)))), le_of_eq (eg (os rfl (os rfl (os rfl (os rfl oz))))), trivial⟩, rfl, some_of hz_4⟩
              · skip
                replace hz_4 := ifb_f hz_4 hc
                clear hc
                refine aw_skip ?_
                refine aw_keep [(0, _), (3, _), (4, _), (5, _), (6, _), (7, _), (10, _), (11, _)] ⟨lg oz, lg (os rfl oz), lg (os rfl (os rfl oz)), lg (os rfl (os rfl (os rfl oz))), lg (os rfl (os rfl (os rfl (os rfl oz)))), lg (os rfl (os rfl (os rfl (os rfl (os rfl oz))))), lg (os rfl (os rfl (os rfl (os rfl (os rfl (os rfl oz)))))), lg (os rfl (os rfl (os rfl (os rfl (os rfl (os rfl (os rfl oz))))))), trivial⟩ ?_
                refine aw_seq ?_
                refine aw_region (by decide) ?_
                refine rts _ rfl (opD_move (os rfl (os rfl oz))) ?_
                refine rts _ rfl (opD_load_aggX (qs := [_, _, _, _, _]) ag148_u12b sz148_u12b (ls rfl (os rfl (os rfl (os rfl (os rfl (os rfl oz)))))) (loc_getN rfl rfl) (Nat.le_of_ble_eq_true rfl) rfl) ?_
                replace hz_4 := bnd_some hz_4
                obtain ⟨x_13, hx_13, hz_4⟩ := hz_4
                refine rts _ rfl (callTU (T := TBx) rfl 3 ht74_u12b (fun s g1 g2 gT h12 h1 h2 hT => ct_give hx_13 h12 h1 h2 hT) rfl rfl rfl ⟨le_of_eq (ls rfl lz), (le_of_eq lz).trans (agg_le ⟨(Pd.le_refl _), (Pd.le_refl _), (Pd.le_refl _), (Pd.le_refl _), (Pd.le_refl _), trivial⟩), trivial⟩ (by simp only [na, nb, nc, nd, nf, ng, nh, ni, nj, nk] <;> rfl)) ?_
                refine rts _ rfl (opD_move lz) ?_
                refine rts _ rfl (opD_extract lz rfl) ?_
                refine rts _ rfl (opD_extract (ls rfl lz) rfl) ?_
                refine rts _ rfl (opD_assign (ls rfl lz)) ?_
                refine rts _ rfl (opD_assign (ls rfl lz)) ?_
                refine .nil ?_
                refine aw_keep [(0, _), (3, _), (4, _), (5, _), (6, _), (10, _), (11, _), (12, _), (13, _)] ⟨lg (ls rfl (ls rfl (ls rfl (ls rfl (ls rfl (ls rfl (ls rfl (ls rfl oz)))))))), lg (ls rfl (ls rfl (ls rfl (ls rfl (ls rfl (ls rfl (ls rfl (ls rfl (os rfl oz))))))))), lg (ls rfl (ls rfl (ls rfl (ls rfl (ls rfl (ls rfl (ls rfl (ls rfl (os rfl (os rfl oz)))))))))), lg (ls rfl (ls rfl (ls rfl (ls rfl (ls rfl (ls rfl (ls rfl (ls rfl (os rfl (os rfl (os rfl oz))))))))))), lg (ls rfl (ls rfl (ls rfl (ls rfl (ls rfl (ls rfl (ls rfl (ls rfl (os rfl (os rfl (os rfl (os rfl oz)))))))))))), lg (ls rfl (ls rfl (ls rfl (ls rfl (ls rfl (ls rfl (ls rfl (ls rfl (os rfl (os rfl (os rfl (os rfl (os rfl (os rfl oz)))))))))))))), lg (ls rfl (ls rfl (ls rfl (ls rfl (ls rfl (ls rfl (ls rfl (ls rfl (os rfl (os rfl (os rfl (os rfl (os rfl (os rfl (os rfl oz))))))))))))))), lg (ls rfl lz), lg lz, trivial⟩ ?_
                refine aw_seq ?_
                refine aw_seq ?_
                refine aw_region (by decide) ?_
                refine rts _ rfl (opD_move (os rfl (os rfl (os rfl (os rfl (os rfl oz)))))) ?_
                refine rts _ rfl (opD_move (ls rfl (os rfl (os rfl (os rfl (os rfl (os rfl (os rfl (os rfl oz))))))))) ?_
                refine rts _ rfl (opD_neq (ls rfl lz) lz) ?_
                refine rts _ rfl (opD_move lz) ?_
                refine rtg _ rfl lz (fun hg20_4_167 => opD_move (ls rfl (ls rfl (ls rfl (ls rfl (os rfl (os rfl (os rfl (os rfl (os rfl (os rfl oz))))))))))) ?_
                replace hz_4 := bnd_some hz_4
                obtain ⟨x_14, hx_14, hz_4⟩ := hz_4
                refine rtg _ rfl (ls rfl lz) (fun hg20_5_168 => opD_call ht76_u12b (c_num34 (gif_some hx_14 hg20_5_168) hst) ⟨le_of_eq (lz.trans (pif_pos hg20_5_168)), trivial⟩) ?_
                refine rtg _ rfl (ls rfl (ls rfl lz)) (fun hg20_6_169 => opD_move (ls rfl (ls rfl (ls rfl (ls rfl (ls rfl (ls rfl (os rfl (os rfl (os rfl (os rfl (os rfl (os rfl (os rfl (os rfl oz))))))))))))))) ?_
                replace hz_4 := bnd_some hz_4
                obtain ⟨x_15, hx_15, hz_4⟩ := hz_4
                refine rtg _ rfl (ls rfl (ls rfl (ls rfl lz))) (fun hg20_7_170 => opD_call ht76_u12b (c_num34 (gif_some hx_15 hg20_7_170) hst) ⟨le_of_eq (lz.trans (pif_pos hg20_7_170)), trivial⟩) ?_
                refine rtg _ rfl (ls rfl (ls rfl (ls rfl (ls rfl lz)))) (fun hg20_8_171 => opD_neq ((ls rfl (ls rfl lz)).trans (pif_pos hg20_8_171)) (lz.trans (pif_pos hg20_8_171))) ?_
                refine rts _ rfl (opD_or (ls rfl (ls rfl (ls rfl (ls rfl (ls rfl lz))))) lz) ?_
                refine .nil ?_
                refine aw_keep [(0, _), (3, _), (4, _), (5, _), (6, _), (10, _), (11, _), (99, _)] ⟨lg (ls rfl (ls rfl (ls rfl (ls rfl (ls rfl (ls rfl (ls rfl (ls rfl (ls rfl (ls rfl oz)))))))))), lg (ls rfl (ls rfl (ls rfl (ls rfl (ls rfl (ls rfl (ls rfl (ls rfl (ls rfl (ls rfl (os rfl oz))))))))))), lg (ls rfl (ls rfl (ls rfl (ls rfl (ls rfl (ls rfl (ls rfl (ls rfl (ls rfl (ls rfl (os rfl (os rfl oz)))))))))))), lg (ls rfl (ls rfl (ls rfl (ls rfl (ls rfl (ls rfl (ls rfl (ls rfl (ls rfl (ls rfl (os rfl (os rfl (os rfl oz))))))))))))), lg (ls rfl (ls rfl (ls rfl (ls rfl (ls rfl (ls rfl (ls rfl (ls rfl (ls rfl (ls rfl (os rfl (os rfl (os rfl (os rfl oz)))))))))))))), lg (ls rfl (ls rfl (ls rfl (ls rfl (ls rfl (ls rfl (ls rfl (ls rfl (ls rfl (ls rfl (os rfl (os rfl (os rfl (os rfl (os rfl oz))))))))))))))), lg (ls rfl (ls rfl (ls rfl (ls rfl (ls rfl (ls rfl (ls rfl (ls rfl (ls rfl (ls rfl (os rfl (os rfl (os rfl (os rfl (os rfl (os rfl oz)))))))))))))))), lg lz, trivial⟩ ?_
                refine aw_cond _ (os rfl (os rfl (os rfl (os rfl (os rfl (os rfl (os rfl oz))))))) (fun hc => ?_) (fun hc => ?_)
                · skip
                  replace hz_4 := ifb_t hz_4 hc
                  clear hc
                  refine aw_seq ?_
                  refine aw_region (by decide) ?_
                  refine rts _ rfl (opD_assign (ev_const _ _)) ?_
                  refine .nil ?_
                  refine aw_keep [(2, _)] ⟨lg lz, trivial⟩ ?_
                  refine aw_ret ?_
                  obtain rfl := some_of hz_4
                  replace hz_3 := ocs_l hz_3
                  obtain rfl := some_of hz_3
                  replace hz_1 := ocs_r hz_1
                  obtain rfl := some_of hz_1
                  replace h0 := ocs_l h0
                  refine wk_no ?_
                  refine wk_no ?_
                  refine wk_no ?_
                  obtain rfl := some_of h0
                  exact done_ext (.inr rfl) ((res_one rfl (it_tmp oz)).le (Pd.le_refl _)) (pl_bnd _ _ _)
                · skip
                  replace hz_4 := ifb_f hz_4 hc
                  clear hc
                  refine aw_skip ?_
                  refine aw_keep [(0, _), (3, _), (4, _), (5, _), (6, _), (10, _), (11, _)] ⟨lg oz, lg (os rfl oz), lg (os rfl (os rfl oz)), lg (os rfl (os rfl (os rfl oz))), lg (os rfl (os rfl (os rfl (os rfl oz)))), lg (os rfl (os rfl (os rfl (os rfl (os rfl oz))))), lg (os rfl (os rfl (os rfl (os rfl (os rfl (os rfl oz)))))), trivial⟩ ?_
                  refine aw_seq ?_
                  refine aw_seq ?_
                  refine aw_region (by decide) ?_
                  refine rts _ rfl (opD_assign (ev_const _ _)) ?_
                  refine .nil ?_
                  refine aw_keep [(0, _), (3, _), (4, _), (5, _), (6, _), (10, _), (11, _), (14, _)] ⟨lg (ls rfl oz), lg (ls rfl (os rfl oz)), lg (ls rfl (os rfl (os rfl oz))), lg (ls rfl (os rfl (os rfl (os rfl oz)))), lg (ls rfl (os rfl (os rfl (os rfl (os rfl oz))))), lg (ls rfl (os rfl (os rfl (os rfl (os rfl (os rfl oz)))))), lg (ls rfl (os rfl (os rfl (os rfl (os rfl (os rfl (os rfl oz))))))), lg lz, trivial⟩ ?_
                  replace hz_4 := bnd_some hz_4
                  obtain ⟨z_16, hz_16, hz_4⟩ := hz_4
                  refine aw_mid (fun e st => ∃ v : Unit, Holds e [(0, sl kHAct none none p0), (3, ptr (s.boxes.length + 2) 0), (4, ptr (s.boxes.length + 5) 0), (5, sl (kI .u64) (some (s.fr.length + 0)) none t_2.1), (6, pl (.int .i64 t_2.2.1)), (10, pl (.int .u64 x_12.1)), (11, pl (errV x_12.2.1))] ∧ st = s.ext [⟨HOT, [mp K1 x_12.2.2.H]⟩, ⟨HOT, [mp K2 x_12.2.2.N]⟩, ⟨201, [mref (s.boxes.length + 0), mref (s.boxes.length + 1)]⟩, ⟨HOT, [mp K1 x_13.2.2.H]⟩, ⟨HOT, [mp K2 x_13.2.2.N]⟩, ⟨201, [mref (s.boxes.length + 3), mref (s.boxes.length + 4)]⟩, ⟨148, [pl (.int .u64 vz_6), pl (.int .u64 x_5.X.No), pl (.int .u64 x_5.X.Space), pl (.int .u64 x_5.X.Gen), pl (.int .u64 x_5.X.Txn)]⟩] [⟨22, 1, t_2.1.length⟩] ∧ (.inr v) = z_16) ?_ ?_
                  · skip
                    refine aw_wkN rfl 7 1 rfl rfl ?_
                    refine aw_block ?_
                    refine aw_loop (fun n e st => ∃ v : Int, Holds e [(0, sl kHAct none none p0), (3, ptr (s.boxes.length + 2) 0), (4, ptr (s.boxes.length + 5) 0), (5, sl (kI .u64) (some (s.fr.length + 0)) none t_2.1), (6, pl (.int .i64 t_2.2.1)), (10, pl (.int .u64 x_12.1)), (11, pl (errV x_12.2.1)), (14, pl (.int .i64 v))] ∧ st = s.ext [⟨HOT, [mp K1 x_12.2.2.H]⟩, ⟨HOT, [mp K2 x_12.2.2.N]⟩, ⟨201, [mref (s.boxes.length + 0), mref (s.boxes.length + 1)]⟩, ⟨HOT, [mp K1 x_13.2.2.H]⟩, ⟨HOT, [mp K2 x_13.2.2.N]⟩, ⟨201, [mref (s.boxes.length + 3), mref (s.boxes.length + 4)]⟩, ⟨148, [pl (.int .u64 vz_6), pl (.int .u64 x_5.X.No), pl (.int .u64 x_5.X.Space), pl (.int .u64 x_5.X.Gen), pl (.int .u64 x_5.X.Txn)]⟩] [⟨22, 1, t_2.1.length⟩] ∧ lp (F_hAlone_b1 t_2 x_12) n v = some z_16) fl ⟨0, ⟨le_of_eq (eg oz), le_of_eq (eg (os rfl oz)), le_of_eq (eg (os rfl (os rfl oz))), le_of_eq (eg (os rfl (os rfl (os rfl oz)))), le_of_eq (eg (os rfl (os rfl (os rfl (os rfl oz))))), le_of_eq (eg (os rfl (os rfl (os rfl (os rfl (os rfl oz)))))), le_of_eq (eg (os rfl (os rfl (os rfl (os rfl (os rfl (os rfl oz))))))), le_of_eq (eg (os rfl (os rfl (os rfl (os rfl (os rfl (os rfl (os rfl oz)))))))), trivial⟩, rfl, hz_16⟩ ?_
                    rintro n e st ⟨t_17, hH, rfl, hz_16⟩
                    replace hz_16 := lp_some hz_16
                    obtain ⟨m_z_18, z_18, rfl, hz_18, hz_16⟩ := hz_16
                    unfold F_hAlone_b1 at hz_18
                    refine aw_keep _ hH ?_
                    refine aw_wkN rfl 7 1 rfl rfl ?_
                    refine aw_seq ?_
                    refine aw_seq ?_
                    refine aw_region (by decide) ?_
                    refine rts _ rfl (opD_move (os rfl (os rfl (os rfl (os rfl (os rfl (os rfl (os rfl oz)))))))) ?_
                    refine rts _ rfl (opD_move (ls rfl (os rfl (os rfl (os rfl oz))))) ?_
                    refine rts _ rfl (opD_len_sl Go.Proofs.Tryd.underlying159 lz) ?_
                    refine rts _ rfl (opD_lss (ls rfl (ls rfl lz)) lz) ?_
                    refine rts _ rfl (opD_move lz) ?_
                    refine rtg _ rfl lz (fun hg23_5_178 => opD_move (ls rfl (ls rfl (ls rfl (ls rfl (ls rfl (os rfl (os rfl (os rfl (os rfl (os rfl (os rfl oz)))))))))))) ?_
                    refine rtg _ rfl (ls rfl lz) (fun hg23_6_179 => opD_bin (lz.trans (pif_pos hg23_6_179)) (ev_const _ _) (fun w => errV_geql _ w _) (fun w => errV_eql _ w)) ?_
                    refine rts _ rfl (opD_and (ls rfl (ls rfl lz)) lz) ?_
                    refine .nil ?_
                    refine aw_keep [(0, _), (3, _), (4, _), (5, _), (6, _), (10, _), (11, _), (14, _), (107, _)] ⟨lg (ls rfl (ls rfl (ls rfl (ls rfl (ls rfl (ls rfl (ls rfl (ls rfl oz)))))))), lg (ls rfl (ls rfl (ls rfl (ls rfl (ls rfl (ls rfl (ls rfl (ls rfl (os rfl oz))))))))), lg (ls rfl (ls rfl (ls rfl (ls rfl (ls rfl (ls rfl (ls rfl (ls rfl (os rfl (os rfl oz)))))))))), lg (ls rfl (ls rfl (ls rfl (ls rfl (ls rfl (ls rfl (ls rfl (ls rfl (os rfl (os rfl (os rfl oz))))))))))), lg (ls rfl (ls rfl (ls rfl (ls rfl (ls rfl (ls rfl (ls rfl (ls rfl (os rfl (os rfl (os rfl (os rfl oz)))))))))))), lg (ls rfl (ls rfl (ls rfl (ls rfl (ls rfl (ls rfl (ls rfl (ls rfl (os rfl (os rfl (os rfl (os rfl (os rfl oz))))))))))))), lg (ls rfl (ls rfl (ls rfl (ls rfl (ls rfl (ls rfl (ls rfl (ls rfl (os rfl (os rfl (os rfl (os rfl (os rfl (os rfl oz)))))))))))))), lg (ls rfl (ls rfl (ls rfl (ls rfl (ls rfl (ls rfl (ls rfl (ls rfl (os rfl (os rfl (os rfl (os rfl (os rfl (os rfl (os rfl oz))))))))))))))), lg lz, trivial⟩ ?_
                    refine aw_cond _ (os rfl (os rfl (os rfl (os rfl (os rfl (os rfl (os rfl (os rfl oz)))))))) (fun hc => ?_) (fun hc => ?_)
                    · skip
                      replace hz_18 := ifb_t hz_18 hc
                      clear hc
                      refine aw_skip ?_
                      refine aw_keep [(0, _), (3, _), (4, _), (5, _), (6, _), (10, _), (11, _), (14, _)] ⟨lg oz, lg (os rfl oz), lg (os rfl (os rfl oz)), lg (os rfl (os rfl (os rfl oz))), lg (os rfl (os rfl (os rfl (os rfl oz)))), lg (os rfl (os rfl (os rfl (os rfl (os rfl oz))))), lg (os rfl (os rfl (os rfl (os rfl (os rfl (os rfl oz)))))), lg (os rfl (os rfl (os rfl (os rfl (os rfl (os rfl (os rfl oz))))))), trivial⟩ ?_
                      refine aw_seq ?_
                      refine aw_block ?_
                      refine aw_seq ?_
                      refine aw_region (by decide) ?_
                      refine rts _ rfl (opD_move (os rfl (os rfl (os rfl oz)))) ?_
                      refine rts _ rfl (opD_move (ls rfl (os rfl (os rfl (os rfl (os rfl (os rfl (os rfl (os rfl oz))))))))) ?_
                      replace hz_18 := ixb_some hz_18
                      obtain ⟨x_19, hx_19, hbx_19, hz_18⟩ := hz_18
                      refine rts _ rfl (opD_indexAddr_sl (i := t_17.toNat) Go.Proofs.Tryd.underlying159 sz22_u12b (ls rfl lz) lz hbx_19.2.2 hbx_19.2.1) ?_
                      refine rts _ rfl (opD_load_el_one ag22_u12b lz hx_19 rfl) ?_
                      refine rts _ rfl (opD_move (ls rfl (ls rfl (ls rfl (ls rfl (os rfl (os rfl (os rfl (os rfl (os rfl oz)))))))))) ?_
                      refine rts _ rfl (opD_eql (ls rfl lz) lz) ?_
                      refine .nil ?_
                      refine aw_keep [(0, _), (3, _), (4, _), (5, _), (6, _), (10, _), (11, _), (14, _), (115, _)] ⟨lg (ls rfl (ls rfl (ls rfl (ls rfl (ls rfl (ls rfl oz)))))), lg (ls rfl (ls rfl (ls rfl (ls rfl (ls rfl (ls rfl (os rfl oz))))))), lg (ls rfl (ls rfl (ls rfl (ls rfl (ls rfl (ls rfl (os rfl (os rfl oz)))))))), lg (ls rfl (ls rfl (ls rfl (ls rfl (ls rfl (ls rfl (os rfl (os rfl (os rfl oz))))))))), lg (ls rfl (ls rfl (ls rfl (ls rfl (ls rfl (ls rfl (os rfl (os rfl (os rfl (os rfl oz)))))))))), lg (ls rfl (ls rfl (ls rfl (ls rfl (ls rfl (ls rfl (os rfl (os rfl (os rfl (os rfl (os rfl oz))))))))))), lg (ls rfl (ls rfl (ls rfl (ls rfl (ls rfl (ls rfl (os rfl (os rfl (os rfl (os rfl (os rfl (os rfl oz)))))))))))), lg (ls rfl (ls rfl (ls rfl (ls rfl (ls rfl (ls rfl (os rfl (os rfl (os rfl (os rfl (os rfl (os rfl (os rfl oz))))))))))))), lg lz, trivial⟩ ?_
                      refine aw_cond _ (os rfl (os rfl (os rfl (os rfl (os rfl (os rfl (os rfl (os rfl oz)))))))) (fun hc => ?_) (fun hc => ?_)
                      · skip
                        replace hz_18 := ifb_t hz_18 hc
                        clear hc
                        refine aw_seq ?_
                        refine aw_region (by decide) ?_
                        refine rts _ rfl (opD_assign (ev_const _ _)) ?_
                        refine .nil ?_
                        refine aw_keep [(2, _)] ⟨lg lz, trivial⟩ ?_
                        refine aw_ret ?_
                        obtain rfl := some_of hz_18
                        replace hz_16 := ocs_r hz_16
                        obtain rfl := some_of hz_16
                        replace hz_4 := ocs_l hz_4
                        obtain rfl := some_of hz_4
                        replace hz_3 := ocs_l hz_3
                        obtain rfl := some_of hz_3
                        replace hz_1 := ocs_r hz_1
                        obtain rfl := some_of hz_1
                        replace h0 := ocs_l h0
                        refine wk_no ?_
                        refine wk_no ?_
                        refine wk_no ?_
                        refine wk_no ?_
                        refine wk_no ?_
                        obtain rfl := some_of h0
                        exact done_ext (.inr rfl) ((res_one rfl (it_tmp oz)).le (Pd.le_refl _)) (pl_bnd _ _ _)
                      · skip
                        replace hz_18 := ifb_f hz_18 hc
                        clear hc
                        refine aw_skip ?_
                        refine aw_keep [(0, _), (3, _), (4, _), (5, _), (6, _), (10, _), (11, _), (14, _)] ⟨lg oz, lg (os rfl oz), lg (os rfl (os rfl oz)), lg (os rfl (os rfl (os rfl oz))), lg (os rfl (os rfl (os rfl (os rfl oz)))), lg (os rfl (os rfl (os rfl (os rfl (os rfl oz))))), lg (os rfl (os rfl (os rfl (os rfl (os rfl (os rfl oz)))))), lg (os rfl (os rfl (os rfl (os rfl (os rfl (os rfl (os rfl oz))))))), trivial⟩ ?_
                        refine aw_region (by decide) ?_
                        refine rts _ rfl (opD_move (os rfl (os rfl (os rfl (os rfl (os rfl (os rfl (os rfl oz)))))))) ?_
                        refine rts _ rfl (opD_add lz (ev_const _ _) rfl) ?_
                        refine rts _ rfl (opD_assign lz) ?_
                        refine .nil ?_
                        obtain rfl := some_of hz_18
                        replace hz_16 := ocs_l hz_16
                        refine wk_yesN rfl (l := [(0, sl kHAct none none p0), (3, ptr (s.boxes.length + 2) 0), (4, ptr (s.boxes.length + 5) 0), (5, sl (kI .u64) (some (s.fr.length + 0)) none t_2.1), (6, pl (.int .i64 t_2.2.1)), (10, pl (.int .u64 x_12.1)), (11, pl (errV x_12.2.1)), (14, pl (.int .i64 (IntKind.i64.wrap (t_17 + 1))))]) (bs' := [⟨HOT, [mp K1 x_12.2.2.H]⟩, ⟨HOT, [mp K2 x_12.2.2.N]⟩, ⟨201, [mref (s.boxes.length + 0), mref (s.boxes.length + 1)]⟩, ⟨HOT, [mp K1 x_13.2.2.H]⟩, ⟨HOT, [mp K2 x_13.2.2.N]⟩, ⟨201, [mref (s.boxes.length + 3), mref (s.boxes.length + 4)]⟩, ⟨148, [pl (.int .u64 vz_6), pl (.int .u64 x_5.X.No), pl (.int .u64 x_5.X.Space), pl (.int .u64 x_5.X.Gen), pl (.int .u64 x_5.X.Txn)]⟩]) ⟨le_of_eq (eg (ls rfl (ls rfl (ls rfl oz)))), le_of_eq (eg (ls rfl (ls rfl (ls rfl (os rfl oz))))), le_of_eq (eg (ls rfl (ls rfl (ls rfl (os rfl (os rfl oz)))))), le_of_eq (eg (ls rfl (ls rfl (ls rfl (os rfl (os rfl (os rfl oz))))))), le_of_eq (eg (ls rfl (ls rfl (ls rfl (os rfl (os rfl (os rfl (os rfl oz)))))))), le_of_eq (eg (ls rfl (ls rfl (ls rfl (os rfl (os rfl (os rfl (os rfl (os rfl oz))))))))), le_of_eq (eg (ls rfl (ls rfl (ls rfl (os rfl (os rfl (os rfl (os rfl (os rfl (os rfl oz)))))))))), le_of_eq (eg lz), trivial⟩ (bnd_cons (sl_b kb_HAct) (bnd_cons (ptr_bnd _ (by first | omega | (simp only [List.length_append, List.length_cons, List.length_nil]; omega))) (bnd_cons (ptr_bnd _ (by first | omega | (simp only [List.length_append, List.length_cons, List.length_nil]; omega))) (bnd_cons (sl_ob (kb_I _) (by first | omega | (simp only [List.length_append, List.length_cons, List.length_nil, ext_fr_length, upd_fr_length]; omega))) (bnd_cons (pl_bnd _ _ _) (bnd_cons (pl_bnd _ _ _) (bnd_cons (pl_bnd _ _ _) (bnd_cons (pl_bnd _ _ _) bnd_nil)))))))) (Nat.le_of_ble_eq_true rfl) (by simp only [na, nb, nc, nd, nf, ng, nh, ni, nj, nk] <;> rfl) (bxle_same (bxle_same (bxle_same (bxle_same (bxle_same (bxle_same (bxle_same bxle_nil))))))) rfl (by simp only [na, nb, nc, nd, nf, ng, nh, ni, nj, nk] <;> rfl) (bl_cons (bnd_cons (mp_bnd _ _ _ _) bnd_nil) (bl_cons (bnd_cons (mp_bnd _ _ _ _) bnd_nil) (bl_cons (bnd_cons (mref_bnd _ (by first | omega | (simp only [List.length_append, List.length_cons, List.length_nil]; omega))) (bnd_cons (mref_bnd _ (by first | omega | (simp only [List.length_append, List.length_cons, List.length_nil]; omega))) bnd_nil)) (bl_cons (bnd_cons (mp_bnd _ _ _ _) bnd_nil) (bl_cons (bnd_cons (mp_bnd _ _ _ _) bnd_nil) (bl_cons (bnd_cons (mref_bnd _ (by first | omega | (simp only [List.length_append, List.length_cons, List.length_nil]; omega))) (bnd_cons (mref_bnd _ (by first | omega | (simp only [List.length_append, List.length_cons, List.length_nil]; omega))) bnd_nil)) (bl_cons (bnd_cons (pl_bnd _ _ _) (bnd_cons (pl_bnd _ _ _) (bnd_cons (pl_bnd _ _ _) (bnd_cons (pl_bnd _ _ _) (bnd_cons (pl_bnd _ _ _) bnd_nil))))) bl_nil))))))) ?_
                        exact ⟨m_z_18, Nat.lt_succ_self _, IntKind.i64.wrap (t_17 + 1), ⟨le_of_eq (eg oz), le_of_eq (eg (os rfl oz)), le_of_eq (eg (os rfl (os rfl oz))), le_of_eq (eg (os rfl (os rfl (os rfl oz)))), le_of_eq (eg (os rfl (os rfl (os rfl (os rfl oz))))), le_of_eq (eg (os rfl (os rfl (os rfl (os rfl (os rfl oz)))))), le_of_eq (eg (os rfl (os rfl (os rfl (os rfl (os rfl (os rfl oz))))))), le_of_eq (eg (os rfl (os rfl (os rfl (os rfl (os rfl (os rfl (os rfl oz)))))))), trivial⟩, rfl, hz_16⟩
                    · skip
                      replace hz_18 := ifb_f hz_18 hc
                      clear hc
                      refine aw_exit ?_
                      obtain rfl := some_of hz_18
                      replace hz_16 := ocs_r hz_16
                      refine wk_no ?_
                      refine wk_yesN rfl (l := [(0, sl kHAct none none p0), (3, ptr (s.boxes.length + 2) 0), (4, ptr (s.boxes.length + 5) 0), (5, sl (kI .u64) (some (s.fr.length + 0)) none t_2.1), (6, pl (.int .i64 t_2.2.1)), (10, pl (.int .u64 x_12.1)), (11, pl (errV x_12.2.1))]) (bs' := [⟨HOT, [mp K1 x_12.2.2.H]⟩, ⟨HOT, [mp K2 x_12.2.2.N]⟩, ⟨201, [mref (s.boxes.length + 0), mref (s.boxes.length + 1)]⟩, ⟨HOT, [mp K1 x_13.2.2.H]⟩, ⟨HOT, [mp K2 x_13.2.2.N]⟩, ⟨201, [mref (s.boxes.length + 3), mref (s.boxes.length + 4)]⟩, ⟨148, [pl (.int .u64 vz_6), pl (.int .u64 x_5.X.No), pl (.int .u64 x_5.X.Space), pl (.int .u64 x_5.X.Gen), pl (.int .u64 x_5.X.Txn)]⟩]) ⟨le_of_eq (eg oz), le_of_eq (eg (os rfl oz)), le_of_eq (eg (os rfl (os rfl oz))), le_of_eq (eg (os rfl (os rfl (os rfl oz)))), le_of_eq (eg (os rfl (os rfl (os rfl (os rfl oz))))), le_of_eq (eg (os rfl (os rfl (os rfl (os rfl (os rfl oz)))))), le_of_eq (eg (os rfl (os rfl (os rfl (os rfl (os rfl (os rfl oz))))))), trivial⟩ (bnd_cons (sl_b kb_HAct) (bnd_cons (ptr_bnd _ (by first | omega | (simp only [List.length_append, List.length_cons, List.length_nil]; omega))) (bnd_cons (ptr_bnd _ (by first | omega | (simp only [List.length_append, List.length_cons, List.length_nil]; omega))) (bnd_cons (sl_ob (kb_I _) (by first | omega | (simp only [List.length_append, List.length_cons, List.length_nil, ext_fr_length, upd_fr_length]; omega))) (bnd_cons (pl_bnd _ _ _) (bnd_cons (pl_bnd _ _ _) (bnd_cons (pl_bnd _ _ _) bnd_nil))))))) (Nat.le_of_ble_eq_true rfl) (by simp only [na, nb, nc, nd, nf, ng, nh, ni, nj, nk] <;> rfl) (bxle_same (bxle_same (bxle_same (bxle_same (bxle_same (bxle_same (bxle_same bxle_nil))))))) rfl (by simp only [na, nb, nc, nd, nf, ng, nh, ni, nj, nk] <;> rfl) (bl_cons (bnd_cons (mp_bnd _ _ _ _) bnd_nil) (bl_cons (bnd_cons (mp_bnd _ _ _ _) bnd_nil) (bl_cons (bnd_cons (mref_bnd _ (by first | omega | (simp only [List.length_append, List.length_cons, List.length_nil]; omega))) (bnd_cons (mref_bnd _ (by first | omega | (simp only [List.length_append, List.length_cons, List.length_nil]; omega))) bnd_nil)) (bl_cons (bnd_cons (mp_bnd _ _ _ _) bnd_nil) (bl_cons (bnd_cons (mp_bnd _ _ _ _) bnd_nil) (bl_cons (bnd_cons (mref_bnd _ (by first | omega | (simp only [List.length_append, List.length_cons, List.length_nil]; omega))) (bnd_cons (mref_bnd _ (by first | omega | (simp only [List.length_append, List.length_cons, List.length_nil]; omega))) bnd_nil)) (bl_cons (bnd_cons (pl_bnd _ _ _) (bnd_cons (pl_bnd _ _ _) (bnd_cons (pl_bnd _ _ _) (bnd_cons (pl_bnd _ _ _) (bnd_cons (pl_bnd _ _ _) bnd_nil))))) bl_nil))))))) ?_
                      exact ⟨(), ⟨le_of_eq (eg oz), le_of_eq (eg (os rfl oz)), le_of_eq (eg (os rfl (os rfl oz))), le_of_eq (eg (os rfl (os rfl (os rfl oz)))), le_of_eq (eg (os rfl (os rfl (os rfl (os rfl oz))))), le_of_eq (eg (os rfl (os rfl (os rfl (os rfl (os rfl oz)))))), le_of_eq (eg (os rfl (os rfl (os rfl (os rfl (os rfl (os rfl oz))))))), trivial⟩, rfl, some_of hz_16⟩
                  · rintro e st ⟨vz_16, hH, rfl, rfl⟩
                    refine aw_keep _ hH ?_
                    replace hz_4 := ocs_r hz_4
                    refine aw_keep [(0, _), (3, _), (4, _), (5, _), (6, _), (10, _), (11, _)] ⟨lg oz, lg (os rfl oz), lg (os rfl (os rfl oz)), lg (os rfl (os rfl (os rfl oz))), lg (os rfl (os rfl (os rfl (os rfl oz)))), lg (os rfl (os rfl (os rfl (os rfl (os rfl oz))))), lg (os rfl (os rfl (os rfl (os rfl (os rfl (os rfl oz)))))), trivial⟩ ?_
                    refine aw_seq ?_
                    refine aw_region (by decide) ?_
                    refine rts _ rfl (opD_move (os rfl (os rfl (os rfl (os rfl (os rfl (os rfl oz))))))) ?_
                    refine rts _ rfl (opD_bin lz (ev_const _ _) (fun w => errV_geql _ w _) (fun w => errV_eql _ w)) ?_
                    refine .nil ?_
                    refine aw_keep [(0, _), (3, _), (4, _), (5, _), (6, _), (10, _), (117, _)] ⟨lg (ls rfl (ls rfl oz)), lg (ls rfl (ls rfl (os rfl oz))), lg (ls rfl (ls rfl (os rfl (os rfl oz)))), lg (ls rfl (ls rfl (os rfl (os rfl (os rfl oz))))), lg (ls rfl (ls rfl (os rfl (os rfl (os rfl (os rfl oz)))))), lg (ls rfl (ls rfl (os rfl (os rfl (os rfl (os rfl (os rfl oz))))))), lg lz, trivial⟩ ?_
                    refine aw_cond _ (os rfl (os rfl (os rfl (os rfl (os rfl (os rfl oz)))))) (fun hc => ?_) (fun hc => ?_)
                    · skip
                      replace hz_4 := ifb_t hz_4 hc
                      clear hc
                      refine aw_region (by decide) ?_
                      refine rts _ rfl (opD_move (os rfl (os rfl (os rfl oz)))) ?_
                      refine rts _ rfl (opD_move (ls rfl (os rfl (os rfl (os rfl (os rfl (os rfl oz))))))) ?_
                      refine rts _ rfl (opD_buildOwn (k := kI .u64) ([x_12.1] : (List Int)) Go.Proofs.Tryd.underlying159 sz22_u12b zt22_u12b (by decide) rfl (parts_cons (cells1 lz (one_pl rfl)) parts_nil) rfl rfl (by first | exact List.length_nil | (simp only [List.length_cons, List.length_nil, Nat.zero_add, Nat.reduceAdd] <;> rfl)) (by simp only [na, nb, nc, nd, nf, ng, nh, ni, nj, nk] <;> rfl)) ?_
                      replace hz_4 := grd_some hz_4
                      obtain ⟨hg_180, hz_4⟩ := hz_4
                      refine rts _ rfl (opD_appendX Go.Proofs.Tryd.underlying159 el22_u12b (ls rfl (ls rfl lz)) lz rfl hg_180.1 hg_180.2 rfl (by simp only [na, nb, nc, nd, nf, ng, nh, ni, nj, nk] <;> rfl)) ?_
                      refine rts _ rfl (opD_assign lz) ?_
                      refine .nil ?_
                      refine wk_yesN rfl (l := [(0, sl kHAct none none p0), (3, ptr (s.boxes.length + 2) 0), (4, ptr (s.boxes.length + 5) 0), (5, sl (kI .u64) (some (s.fr.length + 0)) none (t_2.1 ++ ([x_12.1] : (List Int)))), (6, pl (.int .i64 t_2.2.1))]) (bs' := [⟨HOT, [mp K1 x_12.2.2.H]⟩, ⟨HOT, [mp K2 x_12.2.2.N]⟩, ⟨201, [mref (s.boxes.length + 0), mref (s.boxes.length + 1)]⟩, ⟨HOT, [mp K1 x_13.2.2.H]⟩, ⟨HOT, [mp K2 x_13.2.2.N]⟩, ⟨201, [mref (s.boxes.length + 3), mref (s.boxes.length + 4)]⟩]) ⟨le_of_eq (eg (ls rfl (ls rfl (ls rfl (ls rfl (ls rfl oz)))))), le_of_eq (eg (ls rfl (ls rfl (ls rfl (ls rfl (ls rfl (os rfl oz))))))), le_of_eq (eg (ls rfl (ls rfl (ls rfl (ls rfl (ls rfl (os rfl (os rfl oz)))))))), le_of_eq (eg lz), le_of_eq (eg (ls rfl (ls rfl (ls rfl (ls rfl (ls rfl (os rfl (os rfl (os rfl (os rfl oz)))))))))), trivial⟩ (bnd_cons (sl_b kb_HAct) (bnd_cons (ptr_bnd _ (by first | omega | (simp only [List.length_append, List.length_cons, List.length_nil]; omega))) (bnd_cons (ptr_bnd _ (by first | omega | (simp only [List.length_append, List.length_cons, List.length_nil]; omega))) (bnd_cons (sl_ob (kb_I _) (by first | omega | (simp only [List.length_append, List.length_cons, List.length_nil, ext_fr_length, upd_fr_length]; omega))) (bnd_cons (pl_bnd _ _ _) bnd_nil))))) (Nat.le_of_ble_eq_true rfl) (by simp only [na, nb, nc, nd, nf, ng, nh, ni, nj, nk] <;> rfl) (bxle_same (bxle_same (bxle_same (bxle_same (bxle_same (bxle_same bxle_nil)))))) rfl (by simp only [na, nb, nc, nd, nf, ng, nh, ni, nj, nk] <;> rfl) (bl_cons (bnd_cons (mp_bnd _ _ _ _) bnd_nil) (bl_cons (bnd_cons (mp_bnd _ _ _ _) bnd_nil) (bl_cons (bnd_cons (mref_bnd _ (by first | omega | (simp only [List.length_append, List.length_cons, List.length_nil]; omega))) (bnd_cons (mref_bnd _ (by first | omega | (simp only [List.length_append, List.length_cons, List.length_nil]; omega))) bnd_nil)) (bl_cons (bnd_cons (mp_bnd _ _ _ _) bnd_nil) (bl_cons (bnd_cons (mp_bnd _ _ _ _) bnd_nil) (bl_cons (bnd_cons (mref_bnd _ (by first | omega | (simp only [List.length_append, List.length_cons, List.length_nil]; omega))) (bnd_cons (mref_bnd _ (by first | omega | (simp only [List.length_append, List.length_cons, List.length_nil]; omega))) bnd_nil)) bl_nil)))))) ?_
                      exact ⟨((t_2.1 ++ ([x_12.1] : (List Int))), x_12.2.2.H, x_12.2.2.N, x_13.2.2.H, x_13.2.2.N), ⟨le_of_eq (eg oz), le_of_eq (eg (os rfl oz)), le_of_eq (eg (os rfl (os rfl oz))), le_of_eq (eg (os rfl (os rfl (os rfl oz)))), le_of_eq (eg (os rfl (os rfl (os rfl (os rfl oz))))), trivial⟩, rfl, some_of hz_4⟩
                    · skip
                      replace hz_4 := ifb_f hz_4 hc
                      clear hc
                      refine aw_skip ?_
                      refine wk_yesN rfl (l := [(0, sl kHAct none none p0), (3, ptr (s.boxes.length + 2) 0), (4, ptr (s.boxes.length + 5) 0), (5, sl (kI .u64) (some (s.fr.length + 0)) none t_2.1), (6, pl (.int .i64 t_2.2.1))]) (bs' := [⟨HOT, [mp K1 x_12.2.2.H]⟩, ⟨HOT, [mp K2 x_12.2.2.N]⟩, ⟨201, [mref (s.boxes.length + 0), mref (s.boxes.length + 1)]⟩, ⟨HOT, [mp K1 x_13.2.2.H]⟩, ⟨HOT, [mp K2 x_13.2.2.N]⟩, ⟨201, [mref (s.boxes.length + 3), mref (s.boxes.length + 4)]⟩]) ⟨le_of_eq (eg oz), le_of_eq (eg (os rfl oz)), le_of_eq (eg (os rfl (os rfl oz))), le_of_eq (eg (os rfl (os rfl (os rfl oz)))), le_of_eq (eg (os rfl (os rfl (os rfl (os rfl oz))))), trivial⟩ (bnd_cons (sl_b kb_HAct) (bnd_cons (ptr_bnd _ (by first | omega | (simp only [List.length_append, List.length_cons, List.length_nil]; omega))) (bnd_cons (ptr_bnd _ (by first | omega | (simp only [List.length_append, List.length_cons, List.length_nil]; omega))) (bnd_cons (sl_ob (kb_I _) (by first | omega | (simp only [List.length_append, List.length_cons, List.length_nil, ext_fr_length, upd_fr_length]; omega))) (bnd_cons (pl_bnd _ _ _) bnd_nil))))) (Nat.le_of_ble_eq_true rfl) (by simp only [na, nb, nc, nd, nf, ng, nh, ni, nj, nk] <;> rfl) (bxle_same (bxle_same (bxle_same (bxle_same (bxle_same (bxle_same bxle_nil)))))) rfl (by simp only [na, nb, nc, nd, nf, ng, nh, ni, nj, nk] <;> rfl) (bl_cons (bnd_cons (mp_bnd _ _ _ _) bnd_nil) (bl_cons (bnd_cons (mp_bnd _ _ _ _) bnd_nil) (bl_cons (bnd_cons (mref_bnd _ (by first | omega | (simp only [List.length_append, List.length_cons, List.length_nil]; omega))) (bnd_cons (mref_bnd _ (by first | omega | (simp only [List.length_append, List.length_cons, List.length_nil]; omega))) bnd_nil)) (bl_cons (bnd_cons (mp_bnd _ _ _ _) bnd_nil) (bl_cons (bnd_cons (mp_bnd _ _ _ _) bnd_nil) (bl_cons (bnd_cons (mref_bnd _ (by first | omega | (simp only [List.length_append, List.length_cons, List.length_nil]; omega))) (bnd_cons (mref_bnd _ (by first | omega | (simp only [List.length_append, List.length_cons, List.length_nil]; omega))) bnd_nil)) bl_nil)))))) ?_
                      exact ⟨(t_2.1, x_12.2.2.H, x_12.2.2.N, x_13.2.2.H, x_13.2.2.N), ⟨le_of_eq (eg oz), le_of_eq (eg (os rfl oz)), le_of_eq (eg (os rfl (os rfl oz))), le_of_eq (eg (os rfl (os rfl (os rfl oz)))), le_of_eq (eg (os rfl (os rfl (os rfl (os rfl oz))))), trivial⟩, rfl, some_of hz_4⟩
        · rintro e st ⟨vz_4, hH, rfl, rfl⟩
          refine aw_keep _ hH ?_
          replace hz_3 := ocs_r hz_3
          refine aw_keep [(0, _), (3, _), (4, _), (5, _), (6, _)] ⟨lg oz, lg (os rfl oz), lg (os rfl (os rfl oz)), lg (os rfl (os rfl (os rfl oz))), lg (os rfl (os rfl (os rfl (os rfl oz)))), trivial⟩ ?_
          refine aw_region (by decide) ?_
          refine rts _ rfl (opD_move (os rfl (os rfl (os rfl (os rfl oz))))) ?_
          refine rts _ rfl (opD_add lz (ev_const _ _) rfl) ?_
          refine rts _ rfl (opD_assign lz) ?_
          refine .nil ?_
          obtain rfl := some_of hz_3
          replace hz_1 := ocs_l hz_1
          refine wk_yesN rfl (l := [(0, sl kHAct none none p0), (3, ptr (s.boxes.length + 2) 0), (4, ptr (s.boxes.length + 5) 0), (5, sl (kI .u64) (some (s.fr.length + 0)) none vz_4.1), (6, pl (.int .i64 (IntKind.i64.wrap (t_2.2.1 + 1))))]) (bs' := [⟨HOT, [mp K1 vz_4.2.1]⟩, ⟨HOT, [mp K2 vz_4.2.2.1]⟩, ⟨201, [mref (s.boxes.length + 0), mref (s.boxes.length + 1)]⟩, ⟨HOT, [mp K1 vz_4.2.2.2.1]⟩, ⟨HOT, [mp K2 vz_4.2.2.2.2]⟩, ⟨201, [mref (s.boxes.length + 3), mref (s.boxes.length + 4)]⟩]) ⟨le_of_eq (eg (ls rfl (ls rfl (ls rfl oz)))), le_of_eq (eg (ls rfl (ls rfl (ls rfl (os rfl oz))))), le_of_eq (eg (ls rfl (ls rfl (ls rfl (os rfl (os rfl oz)))))), le_of_eq (eg (ls rfl (ls rfl (ls rfl (os rfl (os rfl (os rfl oz))))))), le_of_eq (eg lz), trivial⟩ (bnd_cons (sl_b kb_HAct) (bnd_cons (ptr_bnd _ (by first | omega | (simp only [List.length_append, List.length_cons, List.length_nil]; omega))) (bnd_cons (ptr_bnd _ (by first | omega | (simp only [List.length_append, List.length_cons, List.length_nil]; omega))) (bnd_cons (sl_ob (kb_I _) (by first | omega | (simp only [List.length_append, List.length_cons, List.length_nil, ext_fr_length, upd_fr_length]; omega))) (bnd_cons (pl_bnd _ _ _) bnd_nil))))) (Nat.le_of_ble_eq_true rfl) (by simp only [na, nb, nc, nd, nf, ng, nh, ni, nj, nk] <;> rfl) (bxle_same (bxle_same (bxle_same (bxle_same (bxle_same (bxle_same bxle_nil)))))) rfl (by simp only [na, nb, nc, nd, nf, ng, nh, ni, nj, nk] <;> rfl) (bl_cons (bnd_cons (mp_bnd _ _ _ _) bnd_nil) (bl_cons (bnd_cons (mp_bnd _ _ _ _) bnd_nil) (bl_cons (bnd_cons (mref_bnd _ (by first | omega | (simp only [List.length_append, List.length_cons, List.length_nil]; omega))) (bnd_cons (mref_bnd _ (by first | omega | (simp only [List.length_append, List.length_cons, List.length_nil]; omega))) bnd_nil)) (bl_cons (bnd_cons (mp_bnd _ _ _ _) bnd_nil) (bl_cons (bnd_cons (mp_bnd _ _ _ _) bnd_nil) (bl_cons (bnd_cons (mref_bnd _ (by first | omega | (simp only [List.length_append, List.length_cons, List.length_nil]; omega))) (bnd_cons (mref_bnd _ (by first | omega | (simp only [List.length_append, List.length_cons, List.length_nil]; omega))) bnd_nil)) bl_nil)))))) ?_
          exact ⟨m_z_3, Nat.lt_succ_self _, (vz_4.1, IntKind.i64.wrap (t_2.2.1 + 1), vz_4.2.1, vz_4.2.2.1, vz_4.2.2.2.1, vz_4.2.2.2.2), ⟨le_of_eq (eg oz), le_of_eq (eg (os rfl oz)), le_of_eq (eg (os rfl (os rfl oz))), le_of_eq (eg (os rfl (os rfl (os rfl oz)))), le_of_eq (eg (os rfl (os rfl (os rfl (os rfl oz))))), trivial⟩, rfl, hz_1⟩
      · skip
        replace hz_3 := ifb_f hz_3 hc
        clear hc
        refine aw_exit ?_
        obtain rfl := some_of hz_3
        replace hz_1 := ocs_r hz_1
        refine wk_no ?_
        refine wk_yesN rfl (l := [(3, ptr (s.boxes.length + 2) 0), (4, ptr (s.boxes.length + 5) 0)]) (bs' := [⟨HOT, [mp K1 t_2.2.2.1]⟩, ⟨HOT, [mp K2 t_2.2.2.2.1]⟩, ⟨201, [mref (s.boxes.length + 0), mref (s.boxes.length + 1)]⟩, ⟨HOT, [mp K1 t_2.2.2.2.2.1]⟩, ⟨HOT, [mp K2 t_2.2.2.2.2.2]⟩, ⟨201, [mref (s.boxes.length + 3), mref (s.boxes.length + 4)]⟩]) ⟨le_of_eq (eg (os rfl oz)), le_of_eq (eg (os rfl (os rfl oz))), trivial⟩ (bnd_cons (ptr_bnd _ (by first | omega | (simp only [List.length_append, List.length_cons, List.length_nil]; omega))) (bnd_cons (ptr_bnd _ (by first | omega | (simp only [List.length_append, List.length_cons, List.length_nil]; omega))) bnd_nil)) (Nat.le_of_ble_eq_true rfl) (by simp only [na, nb, nc, nd, nf, ng, nh, ni, nj, nk] <;> rfl) (bxle_same (bxle_same (bxle_same (bxle_same (bxle_same (bxle_same bxle_nil)))))) rfl (by simp only [na, nb, nc, nd, nf, ng, nh, ni, nj, nk] <;> rfl) (bl_cons (bnd_cons (mp_bnd _ _ _ _) bnd_nil) (bl_cons (bnd_cons (mp_bnd _ _ _ _) bnd_nil) (bl_cons (bnd_cons (mref_bnd _ (by first | omega | (simp only [List.length_append, List.length_cons, List.length_nil]; omega))) (bnd_cons (mref_bnd _ (by first | omega | (simp only [List.length_append, List.length_cons, List.length_nil]; omega))) bnd_nil)) (bl_cons (bnd_cons (mp_bnd _ _ _ _) bnd_nil) (bl_cons (bnd_cons (mp_bnd _ _ _ _) bnd_nil) (bl_cons (bnd_cons (mref_bnd _ (by first | omega | (simp only [List.length_append, List.length_cons, List.length_nil]; omega))) (bnd_cons (mref_bnd _ (by first | omega | (simp only [List.length_append, List.length_cons, List.length_nil]; omega))) bnd_nil)) bl_nil)))))) ?_
        exact ⟨(t_2.2.2.1, t_2.2.2.2.1, t_2.2.2.2.2.1, t_2.2.2.2.2.2), ⟨le_of_eq (eg oz), le_of_eq (eg (os rfl oz)), trivial⟩, rfl, some_of hz_1⟩
    · rintro e st ⟨vz_1, hH, rfl, rfl⟩
      refine aw_keep _ hH ?_
      replace h0 := ocs_r h0
      refine aw_keep [(3, _), (4, _)] ⟨lg oz, lg (os rfl oz), trivial⟩ ?_
      refine aw_seq ?_
      refine aw_region (by decide) ?_
      refine rts _ rfl (opD_move oz) ?_
      replace h0 := bnd_some h0
      obtain ⟨x_20, hx_20, h0⟩ := h0
      refine rts _ rfl (callT (T := TBx) rfl 0 ht78_u12b (fun s g1 g2 gT h12 h1 h2 hT => ct_of hx_20 h1 hT) rfl rfl rfl ⟨le_of_eq lz, le_of_eq (ev_const _ _), trivial⟩) ?_
      refine rts _ rfl (opD_move (ls rfl (ls rfl (os rfl oz)))) ?_
      replace h0 := bnd_some h0
      obtain ⟨x_21, hx_21, h0⟩ := h0
      refine rts _ rfl (callT (T := TBx) rfl 3 ht78_u12b (fun s g1 g2 gT h12 h1 h2 hT => ct_of hx_21 h1 hT) rfl rfl rfl ⟨le_of_eq lz, le_of_eq (ev_const _ _), trivial⟩) ?_
      refine rts _ rfl (opD_assign (ls rfl (ls rfl lz))) ?_
      refine rts _ rfl (opD_assign (ls rfl lz)) ?_
      refine .nil ?_
      refine aw_keep [(15, _), (16, _)] ⟨lg (ls rfl lz), lg lz, trivial⟩ ?_
      refine aw_seq ?_
      refine aw_seq ?_
      refine aw_region (by decide) ?_
      refine rts _ rfl (opD_move oz) ?_
      refine rts _ rfl (opD_len_sl Go.Proofs.Tryd.underlying141 lz) ?_
      refine rts _ rfl (opD_move (ls rfl (ls rfl (os rfl oz)))) ?_
      refine rts _ rfl (opD_len_sl Go.Proofs.Tryd.underlying141 lz) ?_
      refine rts _ rfl (opD_neq (ls rfl (ls rfl lz)) lz) ?_
      refine .nil ?_
      refine aw_keep [(15, _), (16, _), (130, _)] ⟨lg (ls rfl (ls rfl (ls rfl (ls rfl (ls rfl oz))))), lg (ls rfl (ls rfl (ls rfl (ls rfl (ls rfl (os rfl oz)))))), lg lz, trivial⟩ ?_
      refine aw_cond _ (os rfl (os rfl oz)) (fun hc => ?_) (fun hc => ?_)
      · skip
        replace h0 := ifb_t h0 hc
        clear hc
        refine aw_seq ?_
        refine aw_region (by decide) ?_
        refine rts _ rfl (opD_assign (ev_const _ _)) ?_
        refine .nil ?_
        refine aw_keep [(2, _)] ⟨lg lz, trivial⟩ ?_
        refine aw_ret ?_
        obtain rfl := some_of h0
        exact done_ext (.inr rfl) ((res_one rfl (it_tmp oz)).le (Pd.le_refl _)) (pl_bnd _ _ _)
      · skip
        replace h0 := ifb_f h0 hc
        clear hc
        refine aw_skip ?_
        refine aw_keep [(15, _), (16, _)] ⟨lg oz, lg (os rfl oz), trivial⟩ ?_
        refine aw_seq ?_
        refine aw_seq ?_
        refine aw_region (by decide) ?_
        refine rts _ rfl (opD_assign (ev_const _ _)) ?_
        refine .nil ?_
        refine aw_keep [(15, _), (16, _), (17, _)] ⟨lg (ls rfl oz), lg (ls rfl (os rfl oz)), lg lz, trivial⟩ ?_
        replace h0 := bnd_some h0
        obtain ⟨z_22, hz_22, h0⟩ := h0
        refine aw_mid (fun e st => ∃ v : Unit, Holds e [] ∧ st = s.ext [⟨HOT, [mp K1 vz_1.1]⟩, ⟨HOT, [mp K2 vz_1.2.1]⟩, ⟨201, [mref (s.boxes.length + 0), mref (s.boxes.length + 1)]⟩, ⟨HOT, [mp K1 vz_1.2.2.1]⟩, ⟨HOT, [mp K2 vz_1.2.2.2]⟩, ⟨201, [mref (s.boxes.length + 3), mref (s.boxes.length + 4)]⟩] [] ∧ (.inr v) = z_22) ?_ ?_
        · skip
          refine aw_wkN rfl 6 0 rfl rfl ?_
          refine aw_block ?_
          refine aw_loop (fun n e st => ∃ v : Int, Holds e [(15, sl kItm none none x_20), (16, sl kItm none none x_21), (17, pl (.int .i64 v))] ∧ st = s.ext [⟨HOT, [mp K1 vz_1.1]⟩, ⟨HOT, [mp K2 vz_1.2.1]⟩, ⟨201, [mref (s.boxes.length + 0), mref (s.boxes.length + 1)]⟩, ⟨HOT, [mp K1 vz_1.2.2.1]⟩, ⟨HOT, [mp K2 vz_1.2.2.2]⟩, ⟨201, [mref (s.boxes.length + 3), mref (s.boxes.length + 4)]⟩] [] ∧ lp (F_hAlone_b2 x_20 x_21) n v = some z_22) fl ⟨0, ⟨le_of_eq (eg oz), le_of_eq (eg (os rfl oz)), le_of_eq (eg (os rfl (os rfl oz))), trivial⟩, rfl, hz_22⟩ ?_
          rintro n e st ⟨t_23, hH, rfl, hz_22⟩
          replace hz_22 := lp_some hz_22
          obtain ⟨m_z_24, z_24, rfl, hz_24, hz_22⟩ := hz_22
          unfold F_hAlone_b2 at hz_24
          refine aw_keep _ hH ?_
          refine aw_wkN rfl 6 0 rfl rfl ?_
          refine aw_seq ?_
          refine aw_seq ?_
          refine aw_region (by decide) ?_
          refine rts _ rfl (opD_move (os rfl (os rfl oz))) ?_
          refine rts _ rfl (opD_move (ls rfl oz)) ?_
          refine rts _ rfl (opD_len_sl Go.Proofs.Tryd.underlying141 lz) ?_
          refine rts _ rfl (opD_lss (ls rfl (ls rfl lz)) lz) ?_
          refine .nil ?_
          refine aw_keep [(15, _), (16, _), (17, _), (134, _)] ⟨lg (ls rfl (ls rfl (ls rfl (ls rfl oz)))), lg (ls rfl (ls rfl (ls rfl (ls rfl (os rfl oz))))), lg (ls rfl (ls rfl (ls rfl (ls rfl (os rfl (os rfl oz)))))), lg lz, trivial⟩ ?_
          refine aw_cond _ (os rfl (os rfl (os rfl oz))) (fun hc => ?_) (fun hc => ?_)
          · skip
            replace hz_24 := ifb_t hz_24 hc
            clear hc
            refine aw_skip ?_
            refine aw_keep [(15, _), (16, _), (17, _)] ⟨lg oz, lg (os rfl oz), lg (os rfl (os rfl oz)), trivial⟩ ?_
            refine aw_seq ?_
            refine aw_block ?_
            refine aw_seq ?_
            refine aw_flat mixed_u12b (by decide +kernel) ?_
            refine zts _ rfl (opD_move oz) ?_
            refine zts _ rfl (opD_move (ls rfl (os rfl (os rfl oz)))) ?_
            replace hz_24 := ixb_some hz_24
            obtain ⟨x_25, hx_25, hbx_25, hz_24⟩ := hz_24
            refine zts _ rfl (opD_indexAddr_sl (i := t_23.toNat) Go.Proofs.Tryd.underlying141 sz137_u12b (ls rfl lz) lz hbx_25.2.2 hbx_25.2.1) ?_
            refine zts _ rfl (opD_load_el_aggX (qs := [_, _, _, _, _]) ag137_u12b sz137_u12b lz hx_25 (Nat.le_of_ble_eq_true rfl) rfl) ?_
            refine zts _ rfl (opD_move (ls rfl (ls rfl (ls rfl (ls rfl (os rfl oz)))))) ?_
            refine zts _ rfl (opD_move (ls rfl (ls rfl (ls rfl (ls rfl (ls rfl (os rfl (os rfl oz)))))))) ?_
            replace hz_24 := ixb_some hz_24
            obtain ⟨x_26, hx_26, hbx_26, hz_24⟩ := hz_24
            refine zts _ rfl (opD_indexAddr_sl (i := t_23.toNat) Go.Proofs.Tryd.underlying141 sz137_u12b (ls rfl lz) lz hbx_26.2.2 hbx_26.2.1) ?_
            refine zts _ rfl (opD_load_el_aggX (qs := [_, _, _, _, _]) ag137_u12b sz137_u12b lz hx_26 (Nat.le_of_ble_eq_true rfl) rfl) ?_
            refine zts _ rfl (opD_binA [.int .u64 x_25.Who, .int .u64 x_25.No, .int .u64 x_25.Space, .int .u64 x_25.Gen, .int .u64 x_25.Txn] [.int .u64 x_26.Who, .int .u64 x_26.No, .int .u64 x_26.Space, .int .u64 x_26.Gen, .int .u64 x_26.Txn] (ls rfl (ls rfl (ls rfl (ls rfl lz)))) lz (fun w => (eq_Itm_g _ _ _ _ _ w)) (fun w => (eq_Itm _ _ _ _ _ _ _ _ _ _ w).2)) ?_
            refine .nil ?_
            refine aw_keep [(15, _), (16, _), (17, _), (145, _)] ⟨lg (ls rfl (ls rfl (ls rfl (ls rfl (ls rfl (ls rfl (ls rfl (ls rfl (ls rfl oz))))))))), lg (ls rfl (ls rfl (ls rfl (ls rfl (ls rfl (ls rfl (ls rfl (ls rfl (ls rfl (os rfl oz)))))))))), lg (ls rfl (ls rfl (ls rfl (ls rfl (ls rfl (ls rfl (ls rfl (ls rfl (ls rfl (os rfl (os rfl oz))))))))))), lg lz, trivial⟩ ?_
            refine aw_cond _ (os rfl (os rfl (os rfl oz))) (fun hc => ?_) (fun hc => ?_)
            · skip
              replace hz_24 := ifb_t hz_24 hc
              clear hc
              refine aw_seq ?_
              refine aw_region (by decide) ?_
              refine rts _ rfl (opD_assign (ev_const _ _)) ?_
              refine .nil ?_
              refine aw_keep [(2, _)] ⟨lg lz, trivial⟩ ?_
              refine aw_ret ?_
              obtain rfl := some_of hz_24
              replace hz_22 := ocs_r hz_22
              obtain rfl := some_of hz_22
              replace h0 := ocs_l h0
              refine wk_no ?_
              refine wk_no ?_
              obtain rfl := some_of h0
              exact done_ext (.inr rfl) ((res_one rfl (it_tmp oz)).le (Pd.le_refl _)) (pl_bnd _ _ _)
            · skip
              replace hz_24 := ifb_f hz_24 hc
              clear hc
              refine aw_skip ?_
              refine aw_keep [(15, _), (16, _), (17, _)] ⟨lg oz, lg (os rfl oz), lg (os rfl (os rfl oz)), trivial⟩ ?_
              refine aw_region (by decide) ?_
              refine rts _ rfl (opD_move (os rfl (os rfl oz))) ?_
              refine rts _ rfl (opD_add lz (ev_const _ _) rfl) ?_
              refine rts _ rfl (opD_assign lz) ?_
              refine .nil ?_
              obtain rfl := some_of hz_24
              replace hz_22 := ocs_l hz_22
              refine wk_yesN rfl (l := [(15, sl kItm none none x_20), (16, sl kItm none none x_21), (17, pl (.int .i64 (IntKind.i64.wrap (t_23 + 1))))]) (bs' := [⟨HOT, [mp K1 vz_1.1]⟩, ⟨HOT, [mp K2 vz_1.2.1]⟩, ⟨201, [mref (s.boxes.length + 0), mref (s.boxes.length + 1)]⟩, ⟨HOT, [mp K1 vz_1.2.2.1]⟩, ⟨HOT, [mp K2 vz_1.2.2.2]⟩, ⟨201, [mref (s.boxes.length + 3), mref (s.boxes.length + 4)]⟩]) ⟨le_of_eq (eg (ls rfl (ls rfl (ls rfl oz)))), le_of_eq (eg (ls rfl (ls rfl (ls rfl (os rfl oz))))), le_of_eq (eg lz), trivial⟩ (bnd_cons (sl_b kb_Itm) (bnd_cons (sl_b kb_Itm) (bnd_cons (pl_bnd _ _ _) bnd_nil))) (Nat.le_of_ble_eq_true rfl) (by simp only [na, nb, nc, nd, nf, ng, nh, ni, nj, nk] <;> rfl) (bxle_same (bxle_same (bxle_same (bxle_same (bxle_same (bxle_same bxle_nil)))))) rfl (by simp only [na, nb, nc, nd, nf, ng, nh, ni, nj, nk] <;> rfl) (bl_cons (bnd_cons (mp_bnd _ _ _ _) bnd_nil) (bl_cons (bnd_cons (mp_bnd _ _ _ _) bnd_nil) (bl_cons (bnd_cons (mref_bnd _ (by first | omega | (simp only [List.length_append, List.length_cons, List.length_nil]; omega))) (bnd_cons (mref_bnd _ (by first | omega | (simp only [List.length_append, List.length_cons, List.length_nil]; omega))) bnd_nil)) (bl_cons (bnd_cons (mp_bnd _ _ _ _) bnd_nil) (bl_cons (bnd_cons (mp_bnd _ _ _ _) bnd_nil) (bl_cons (bnd_cons (mref_bnd _ (by first | omega | (simp only [List.length_append, List.length_cons, List.length_nil]; omega))) (bnd_cons (mref_bnd _ (by first | omega | (simp only [List.length_append, List.length_cons, List.length_nil]; omega))) bnd_nil)) bl_nil)))))) ?_
              exact ⟨m_z_24, Nat.lt_succ_self _, IntKind.i64.wrap (t_23 + 1), ⟨le_of_eq (eg oz), le_of_eq (eg (os rfl oz)), le_of_eq (eg (os rfl (os rfl oz))), trivial⟩, rfl, hz_22⟩
          · skip
            replace hz_24 := ifb_f hz_24 hc
            clear hc
            refine aw_exit ?_
            obtain rfl := some_of hz_24
            replace hz_22 := ocs_r hz_22
            refine wk_no ?_
            refine wk_yesN rfl (l := []) (bs' := [⟨HOT, [mp K1 vz_1.1]⟩, ⟨HOT, [mp K2 vz_1.2.1]⟩, ⟨201, [mref (s.boxes.length + 0), mref (s.boxes.length + 1)]⟩, ⟨HOT, [mp K1 vz_1.2.2.1]⟩, ⟨HOT, [mp K2 vz_1.2.2.2]⟩, ⟨201, [mref (s.boxes.length + 3), mref (s.boxes.length + 4)]⟩]) trivial bnd_nil (Nat.le_of_ble_eq_true rfl) (by simp only [na, nb, nc, nd, nf, ng, nh, ni, nj, nk] <;> rfl) (bxle_same (bxle_same (bxle_same (bxle_same (bxle_same (bxle_same bxle_nil)))))) rfl (by simp only [na, nb, nc, nd, nf, ng, nh, ni, nj, nk] <;> rfl) (bl_cons (bnd_cons (mp_bnd _ _ _ _) bnd_nil) (bl_cons (bnd_cons (mp_bnd _ _ _ _) bnd_nil) (bl_cons (bnd_cons (mref_bnd _ (by first | omega | (simp only [List.length_append, List.length_cons, List.length_nil]; omega))) (bnd_cons (mref_bnd _ (by first | omega | (simp only [List.length_append, List.length_cons, List.length_nil]; omega))) bnd_nil)) (bl_cons (bnd_cons (mp_bnd _ _ _ _) bnd_nil) (bl_cons (bnd_cons (mp_bnd _ _ _ _) bnd_nil) (bl_cons (bnd_cons (mref_bnd _ (by first | omega | (simp only [List.length_append, List.length_cons, List.length_nil]; omega))) (bnd_cons (mref_bnd _ (by first | omega | (simp only [List.length_append, List.length_cons, List.length_nil]; omega))) bnd_nil)) bl_nil)))))) ?_
            exact ⟨(), trivial, rfl, some_of hz_22⟩
        · rintro e st ⟨vz_22, hH, rfl, rfl⟩
          refine aw_keep _ hH ?_
          replace h0 := ocs_r h0
          refine aw_keep [] trivial ?_
          refine aw_seq ?_
          refine aw_region (by decide) ?_
          replace h0 := bnd_some h0
          obtain ⟨x_27, hx_27, h0⟩ := h0
          refine rts _ rfl (opD_call ht85_u12b (c_sure34 hx_27 hst) trivial) ?_
          refine rts _ rfl (opD_assign lz) ?_
          refine .nil ?_
          refine aw_keep [(2, _)] ⟨lg lz, trivial⟩ ?_
          refine aw_ret ?_
          obtain rfl := some_of h0
          exact done_ext (.inr rfl) ((res_one rfl (it_tmp oz)).le (Pd.le_refl _)) (pl_bnd _ _ _)

def F_hForgets_b0 (fl : Nat) (p0 : (List HAct)) (t_2 : Int × (List ((Int × Int) × Itm)) × (List (Int × Int))) : Option ((Int × (List ((Int × Int) × Itm)) × (List (Int × Int))) ⊕ (((List ((Int × Int) × Itm)) × (List (Int × Int))))) :=
  ifb ((decide (t_2.1 < (p0.length : Int))) && (decide (t_2.1 < 40))) (ixb p0 t_2.1 fun x_4 => bnd (F_tgive fl ⟨t_2.2.1, t_2.2.2⟩ x_4.X) fun x_5 => some (.inl (IntKind.i64.wrap (t_2.1 + 1), x_5.2.2.H, x_5.2.2.N))) (some (.inr (t_2.2.1, t_2.2.2)))
def F_hForgets_b1 (fl : Nat) (vz_1 : (List ((Int × Int) × Itm)) × (List (Int × Int))) (t_7 : Int × (List (List Itm))) : Option ((Int × (List (List Itm))) ⊕ (((List (List Itm))))) :=
  ifb (decide (t_7.1 < 5)) (bnd (F_tof fl vz_1.1 (IntKind.u64.wrap (t_7.1))) fun x_9 => grd (Below t_7.1 5) <| grd (Below ((t_7.1.toNat : Nat) : Int) t_7.2.length) <| some (.inl (IntKind.i64.wrap (t_7.1 + 1), (t_7.2.set t_7.1.toNat x_9)))) (some (.inr t_7.2))
def F_hForgets_b3 (p1 : Int) (vz_6 : (List (List Itm))) (t_12 : Int × (List ((Int × Int) × Itm)) × (List (Int × Int))) (x_15 : (List Itm)) (t_17 : Int × Int × (List ((Int × Int) × Itm))) : Option ((Int × Int × (List ((Int × Int) × Itm))) ⊕ ((Bool) ⊕ (Int × (List ((Int × Int) × Itm))))) :=
  grd (Below t_12.1 5) <| ixb vz_6 ((t_12.1.toNat : Nat) : Int) fun x_19 => ifb (decide (t_17.2.1 < (x_19.length : Int))) (bnd (grd (Below t_12.1 5) <| ixb vz_6 ((t_12.1.toNat : Nat) : Int) fun x_21 => ixb x_21 t_17.2.1 fun x_22 => bnd (F_tget t_17.2.2 (IntKind.u64.wrap (t_12.1)) x_22.No) fun x_23 => ifb (decide (x_22.Space = p1)) (bnd (tNumG x_23.2) fun x_24 => ifb (decide (x_24 ≠ 11)) (some (.inl false)) (bnd (F_tdrop t_17.2.2 (IntKind.u64.wrap (t_12.1)) x_22.No) fun x_25 => bnd (tNumG x_25.1) fun x_26 => ifb (decide (x_26 ≠ 11)) (some (.inl false)) (some (.inr (t_17.1, x_25.2))))) (grd ((((x_23.2.isSome || (!(decide (x_23.1.Who = x_22.Who) && (decide (x_23.1.No = x_22.No) && (decide (x_23.1.Space = x_22.Space) && (decide (x_23.1.Gen = x_22.Gen) && (decide (x_23.1.Txn = x_22.Txn) && true))))))) || (decide ((x_15.length : Int) ≤ t_17.1))) == false) = true → Below t_17.1 x_15.length) <| ifb (((x_23.2.isSome || (!(decide (x_23.1.Who = x_22.Who) && (decide (x_23.1.No = x_22.No) && (decide (x_23.1.Space = x_22.Space) && (decide (x_23.1.Gen = x_22.Gen) && (decide (x_23.1.Txn = x_22.Txn) && true))))))) || (decide ((x_15.length : Int) ≤ t_17.1))) || (!(decide ((x_15.getD t_17.1.toNat default).Who = x_22.Who) && (decide ((x_15.getD t_17.1.toNat default).No = x_22.No) && (decide ((x_15.getD t_17.1.toNat default).Space = x_22.Space) && (decide ((x_15.getD t_17.1.toNat default).Gen = x_22.Gen) && (decide ((x_15.getD t_17.1.toNat default).Txn = x_22.Txn) && true))))))) (some (.inl false)) (some (.inr (IntKind.i64.wrap (t_17.1 + 1), t_17.2.2))))) fun z_20 => ocs z_20 (fun qz_20_0 => some (.inr (.inl qz_20_0))) fun z_20_0 => some (.inl (z_20_0.1, IntKind.i64.wrap (t_17.2.1 + 1), z_20_0.2))) (some (.inr (.inr (t_17.1, t_17.2.2))))
def F_hForgets_b2 (fl : Nat) (p1 : Int) (vz_6 : (List (List Itm))) (t_12 : Int × (List ((Int × Int) × Itm)) × (List (Int × Int))) : Option ((Int × (List ((Int × Int) × Itm)) × (List (Int × Int))) ⊕ ((Bool) ⊕ ((List ((Int × Int) × Itm)) × (List (Int × Int))))) :=
  ifb (decide (t_12.1 < 5)) (bnd (bnd (F_tof fl t_12.2.1 (IntKind.u64.wrap (t_12.1))) fun x_15 => bnd (lp (F_hForgets_b3 p1 vz_6 t_12 x_15) fl (0, 0, t_12.2.1)) fun z_16 => ocs z_16 (fun qz_16_0 => some (.inl qz_16_0)) fun z_16_0 => ifb (decide (z_16_0.1 ≠ (x_15.length : Int))) (some (.inl false)) (ifb (decide (0 < z_16_0.1)) (ixb x_15 0 fun x_27 => bnd (F_tdrop z_16_0.2 (IntKind.u64.wrap (t_12.1)) x_27.No) fun x_28 => ixb x_15 0 fun x_29 => bnd (F_tget x_28.2 (IntKind.u64.wrap (t_12.1)) x_29.No) fun x_30 => bnd (F_tgive fl ⟨x_28.2, t_12.2.2⟩ (⟨IntKind.u64.wrap (t_12.1), 0, 0, 0, 0⟩ : Itm)) fun x_31 => bnd (gif (x_28.1.isSome == false) (tNumG x_30.2)) fun x_32 => grd ((((x_28.1.isSome || (decide (x_32 ≠ 11))) || x_31.2.1.isSome) == false) = true → Below 0 x_15.length) <| ifb (((x_28.1.isSome || (decide (x_32 ≠ 11))) || x_31.2.1.isSome) || (decide (x_31.1 = ((x_15.getD (0 : Int).toNat default).No)))) (some (.inl false)) (some (.inr (x_31.2.2.H, x_31.2.2.N)))) (some (.inr (z_16_0.2, t_12.2.2))))) fun z_14 => ocs z_14 (fun qz_14_0 => some (.inr (.inl qz_14_0))) fun z_14_0 => some (.inl (IntKind.i64.wrap (t_12.1 + 1), z_14_0.1, z_14_0.2))) (some (.inr (.inr (t_12.2.1, t_12.2.2))))
def F_hForgets (fl : Nat) (p0 : (List HAct)) (p1 : Int) : Option (Bool) :=
  bnd (lp (F_hForgets_b0 fl p0) fl (0, ([] : (List ((Int × Int) × Itm))), ([] : (List (Int × Int))))) fun z_1 => grd ((List.replicate 5 ([] : (List Itm))).length = 5) <| grd (([[], [], [], [], []] : List (List Itm)).length = 5) <| bnd (lp (F_hForgets_b1 fl z_1) fl (0, ([[], [], [], [], []] : List (List Itm)))) fun z_6 => bnd (F_tforget z_1.1 p1) fun x_10 => bnd (lp (F_hForgets_b2 fl p1 z_6) fl (0, x_10, z_1.2)) fun z_11 => ocs z_11 (fun qz_11_0 => some qz_11_0) fun z_11_0 => bnd (F_sure34 fl) fun x_33 => some x_33
set_option maxRecDepth 100000 in
set_option maxHeartbeats 2000000 in
theorem c_hForgets {fl : Nat} {p0 : (List HAct)} {p1 : Int} {R : Bool} {s : St} (h0 : F_hForgets fl p0 p1 = some R) (hst : StGV s) : AC Go.Proofs.Tryd.prog 17 [sl kHAct none none p0, pl (.int .u64 p1)] s (pl (.bool R)) s := by
  unfold F_hForgets at h0
  refine ac_of_aw s.boxes.length s.fr.length Go.Proofs.Tryd.func17 rfl (by simp [Go.Proofs.Tryd.ntmps17]) ?_
  refine aw_ext0 ?_
  refine aw_keep [(0, _), (1, _)] ⟨lg ez, lg (es ez), trivial⟩ ?_
  refine aw_seq ?_
  refine aw_region (by decide) ?_
  refine rts _ rfl (opD_assign (ev_const _ _)) ?_
  refine .nil ?_
  refine aw_keep [(0, _), (1, _)] ⟨lg (ls rfl oz), lg (ls rfl (os rfl oz)), trivial⟩ ?_
  refine aw_seq ?_
  refine aw_region (by decide) ?_
  refine rts _ rfl (opD_ple (q := ptr (s.boxes.length + 2) 0) rfl (callN3 (n := 0) rfl ht79_u12b (fun s => t_new) trivial rfl rfl)) ?_
  refine rts _ rfl (opD_assign lz) ?_
  refine .nil ?_
  refine aw_keep [(0, _), (1, _), (5, _)] ⟨lg (ls rfl (ls rfl oz)), lg (ls rfl (ls rfl (os rfl oz))), lg lz, trivial⟩ ?_
  refine aw_seq ?_
  refine aw_seq ?_
  refine aw_region (by decide) ?_
  refine rts _ rfl (opD_move (os rfl (os rfl oz))) ?_
  refine rts _ rfl (opD_ptr_eqnil Go.Proofs.Tryd.underlying132 lz) ?_
  refine .nil ?_
  refine aw_keep [(0, _), (1, _), (5, _), (23, _)] ⟨lg (ls rfl (ls rfl oz)), lg (ls rfl (ls rfl (os rfl oz))), lg (ls rfl (ls rfl (os rfl (os rfl oz)))), lg lz, trivial⟩ ?_
  refine aw_cond _ (os rfl (os rfl (os rfl oz))) (fun hc => ?_) (fun hc => ?_)
  · skip
    cases hc
  · skip
    refine aw_skip ?_
    refine aw_keep [(0, _), (1, _), (5, _)] ⟨lg oz, lg (os rfl oz), lg (os rfl (os rfl oz)), trivial⟩ ?_
    refine aw_seq ?_
    refine aw_seq ?_
    refine aw_region (by decide) ?_
    refine rts _ rfl (opD_assign (ev_const _ _)) ?_
    refine .nil ?_
    refine aw_keep [(0, _), (1, _), (5, _), (6, _)] ⟨lg (ls rfl oz), lg (ls rfl (os rfl oz)), lg (ls rfl (os rfl (os rfl oz))), lg lz, trivial⟩ ?_
    replace h0 := bnd_some h0
    obtain ⟨z_1, hz_1, h0⟩ := h0
    refine aw_mid (fun e st => ∃ v : (List ((Int × Int) × Itm)) × (List (Int × Int)), Holds e [(1, pl (.int .u64 p1)), (5, ptr (s.boxes.length + 2) 0)] ∧ st = s.ext [⟨HOT, [mp K1 v.1]⟩, ⟨HOT, [mp K2 v.2]⟩, ⟨201, [mref (s.boxes.length + 0), mref (s.boxes.length + 1)]⟩] [] ∧ v = z_1) ?_ ?_
    · skip
      refine aw_wkN rfl 3 0 rfl rfl ?_
      refine aw_block ?_
      refine aw_loop (fun n e st => ∃ v : Int × (List ((Int × Int) × Itm)) × (List (Int × Int)), Holds e [(0, sl kHAct none none p0), (1, pl (.int .u64 p1)), (5, ptr (s.boxes.length + 2) 0), (6, pl (.int .i64 v.1))] ∧ st = s.ext [⟨HOT, [mp K1 v.2.1]⟩, ⟨HOT, [mp K2 v.2.2]⟩, ⟨201, [mref (s.boxes.length + 0), mref (s.boxes.length + 1)]⟩] [] ∧ lp (F_hForgets_b0 fl p0) n v = some z_1) fl ⟨(0, ([] : (List ((Int × Int) × Itm))), ([] : (List (Int × Int)))), ⟨le_of_eq (eg oz), le_of_eq (eg (os rfl oz)), le_of_eq (eg (os rfl (os rfl oz))), le_of_eq (eg (os rfl (os rfl (os rfl oz)))), trivial⟩, rfl, hz_1⟩ ?_
      rintro n e st ⟨t_2, hH, rfl, hz_1⟩
      replace hz_1 := lp_some hz_1
      obtain ⟨m_z_3, z_3, rfl, hz_3, hz_1⟩ := hz_1
      unfold F_hForgets_b0 at hz_3
      refine aw_keep _ hH ?_
      refine aw_wkN rfl 3 0 rfl rfl ?_
      refine aw_seq ?_
      refine aw_seq ?_
      refine aw_region (by decide) ?_
      refine rts _ rfl (opD_move (os rfl (os rfl (os rfl oz)))) ?_
      refine rts _ rfl (opD_move (ls rfl oz)) ?_
      refine rts _ rfl (opD_len_sl Go.Proofs.Tryd.underlying131 lz) ?_
      refine rts _ rfl (opD_lss (ls rfl (ls rfl lz)) lz) ?_
      refine rts _ rfl (opD_move lz) ?_
      refine rtg _ rfl lz (fun hg5_5_7 => opD_move (ls rfl (ls rfl (ls rfl (ls rfl (ls rfl (os rfl (os rfl (os rfl oz))))))))) ?_
      refine rtg _ rfl (ls rfl lz) (fun hg5_6_8 => opD_lss (lz.trans (pif_pos hg5_6_8)) (ev_const _ _)) ?_
      refine rts _ rfl (opD_and (ls rfl (ls rfl lz)) lz) ?_
      refine .nil ?_
      refine aw_keep [(0, _), (1, _), (5, _), (6, _), (31, _)] ⟨lg (ls rfl (ls rfl (ls rfl (ls rfl (ls rfl (ls rfl (ls rfl (ls rfl oz)))))))), lg (ls rfl (ls rfl (ls rfl (ls rfl (ls rfl (ls rfl (ls rfl (ls rfl (os rfl oz))))))))), lg (ls rfl (ls rfl (ls rfl (ls rfl (ls rfl (ls rfl (ls rfl (ls rfl (os rfl (os rfl oz)))))))))), lg (ls rfl (ls rfl (ls rfl (ls rfl (ls rfl (ls rfl (ls rfl (ls rfl (os rfl (os rfl (os rfl oz))))))))))), lg lz, trivial⟩ ?_
      refine aw_cond _ (os rfl (os rfl (os rfl (os rfl oz)))) (fun hc => ?_) (fun hc => ?_)
      · skip
        replace hz_3 := ifb_t hz_3 hc
        clear hc
        refine aw_skip ?_
        refine aw_keep [(0, _), (1, _), (5, _), (6, _)] ⟨lg oz, lg (os rfl oz), lg (os rfl (os rfl oz)), lg (os rfl (os rfl (os rfl oz))), trivial⟩ ?_
        refine aw_seq ?_
        refine aw_block ?_
        refine aw_region (by decide) ?_
        refine rts _ rfl (opD_move (os rfl (os rfl oz))) ?_
        refine rts _ rfl (opD_move (ls rfl oz)) ?_
        refine rts _ rfl (opD_move (ls rfl (ls rfl (os rfl (os rfl (os rfl oz)))))) ?_
        replace hz_3 := ixb_some hz_3
        obtain ⟨x_4, hx_4, hbx_4, hz_3⟩ := hz_3
        refine rts _ rfl (opD_indexAddr_sl (i := t_2.1.toNat) Go.Proofs.Tryd.underlying131 sz150_u12b (ls rfl lz) lz hbx_4.2.2 hbx_4.2.1) ?_
        refine rts _ rfl (opD_fieldAddr_el fo150_1_u12b lz) ?_
        refine rts _ rfl (opD_load_el_aggX (qs := [_, _, _, _, _]) ag148_u12b sz148_u12b lz hx_4 (Nat.le_of_ble_eq_true rfl) rfl) ?_
        replace hz_3 := bnd_some hz_3
        obtain ⟨x_5, hx_5, hz_3⟩ := hz_3
        refine rts _ rfl (callTU (T := TBx) rfl 0 ht74_u12b (fun s g1 g2 gT h12 h1 h2 hT => ct_give hx_5 h12 h1 h2 hT) rfl rfl rfl ⟨le_of_eq (ls rfl (ls rfl (ls rfl (ls rfl (ls rfl lz))))), (le_of_eq lz).trans (agg_le ⟨(Pd.le_refl _), (Pd.le_refl _), (Pd.le_refl _), (Pd.le_refl _), (Pd.le_refl _), trivial⟩), trivial⟩ (by simp only [na, nb, nc, nd, nf, ng, nh, ni, nj, nk] <;> rfl)) ?_
        refine .nil ?_
        refine aw_keep [(0, _), (1, _), (5, _), (6, _)] ⟨lg (ls rfl (ls rfl (ls rfl (ls rfl (ls rfl (ls rfl (ls rfl oz))))))), lg (ls rfl (ls rfl (ls rfl (ls rfl (ls rfl (ls rfl (ls rfl (os rfl oz)))))))), lg (ls rfl (ls rfl (ls rfl (ls rfl (ls rfl (ls rfl (ls rfl (os rfl (os rfl oz))))))))), lg (ls rfl (ls rfl (ls rfl (ls rfl (ls rfl (ls rfl (ls rfl (os rfl (os rfl (os rfl oz)))))))))), trivial⟩ ?_
        refine aw_region (by decide) ?_
        refine rts _ rfl (opD_move (os rfl (os rfl (os rfl oz)))) ?_
        refine rts _ rfl (opD_add lz (ev_const _ _) rfl) ?_
        refine rts _ rfl (opD_assign lz) ?_
        refine .nil ?_
        obtain rfl := some_of hz_3
        replace hz_1 := ocs_l hz_1
        refine wk_yesN rfl (l := [(0, sl kHAct none none p0), (1, pl (.int .u64 p1)), (5, ptr (s.boxes.length + 2) 0), (6, pl (.int .i64 (IntKind.i64.wrap (t_2.1 + 1))))]) (bs' := [⟨HOT, [mp K1 x_5.2.2.H]⟩, ⟨HOT, [mp K2 x_5.2.2.N]⟩, ⟨201, [mref (s.boxes.length + 0), mref (s.boxes.length + 1)]⟩]) ⟨le_of_eq (eg (ls rfl (ls rfl (ls rfl oz)))), le_of_eq (eg (ls rfl (ls rfl (ls rfl (os rfl oz))))), le_of_eq (eg (ls rfl (ls rfl (ls rfl (os rfl (os rfl oz)))))), le_of_eq (eg lz), trivial⟩ (bnd_cons (sl_b kb_HAct) (bnd_cons (pl_bnd _ _ _) (bnd_cons (ptr_bnd _ (by first | omega | (simp only [List.length_append, List.length_cons, List.length_nil]; omega))) (bnd_cons (pl_bnd _ _ _) bnd_nil)))) (Nat.le_of_ble_eq_true rfl) (by simp only [na, nb, nc, nd, nf, ng, nh, ni, nj, nk] <;> rfl) (bxle_same (bxle_same (bxle_same bxle_nil))) rfl (by simp only [na, nb, nc, nd, nf, ng, nh, ni, nj, nk] <;> rfl) (bl_cons (bnd_cons (mp_bnd _ _ _ _) bnd_nil) (bl_cons (bnd_cons (mp_bnd _ _ _ _) bnd_nil) (bl_cons (bnd_cons (mref_bnd _ (by first | omega | (simp only [List.length_append, List.length_cons, List.length_nil]; omega))) (bnd_cons (mref_bnd _ (by first | omega | (simp only [List.length_append, List.length_cons, List.length_nil]; omega))) bnd_nil)) bl_nil))) ?_
        exact ⟨m_z_3, Nat.lt_succ_self _, (IntKind.i64.wrap (t_2.1 + 1), x_5.2.2.H, x_5.2.2.N), ⟨le_of_eq (eg oz), le_of_eq (eg (os rfl oz)), le_of_eq (eg (os rfl (os rfl oz))), le_of_eq (eg (os rfl (os rfl (os rfl oz)))), trivial⟩, rfl, hz_1⟩
      · skip
        replace hz_3 := ifb_f hz_3 hc
        clear hc
        refine aw_exit ?_
        obtain rfl := some_of hz_3
        replace hz_1 := ocs_r hz_1
        refine wk_no ?_
        refine wk_yesN rfl (l := [(1, pl (.int .u64 p1)), (5, ptr (s.boxes.length + 2) 0)]) (bs' := [⟨HOT, [mp K1 t_2.2.1]⟩, ⟨HOT, [mp K2 t_2.2.2]⟩, ⟨201, [mref (s.boxes.length + 0), mref (s.boxes.length + 1)]⟩]) ⟨le_of_eq (eg (os rfl oz)), le_of_eq (eg (os rfl (os rfl oz))), trivial⟩ (bnd_cons (pl_bnd _ _ _) (bnd_cons (ptr_bnd _ (by first | omega | (simp only [List.length_append, List.length_cons, List.length_nil]; omega))) bnd_nil)) (Nat.le_of_ble_eq_true rfl) (by simp only [na, nb, nc, nd, nf, ng, nh, ni, nj, nk] <;> rfl) (bxle_same (bxle_same (bxle_same bxle_nil))) rfl (by simp only [na, nb, nc, nd, nf, ng, nh, ni, nj, nk] <;> rfl) (bl_cons (bnd_cons (mp_bnd _ _ _ _) bnd_nil) (bl_cons (bnd_cons (mp_bnd _ _ _ _) bnd_nil) (bl_cons (bnd_cons (mref_bnd _ (by first | omega | (simp only [List.length_append, List.length_cons, List.length_nil]; omega))) (bnd_cons (mref_bnd _ (by first | omega | (simp only [List.length_append, List.length_cons, List.length_nil]; omega))) bnd_nil)) bl_nil))) ?_
        exact ⟨(t_2.2.1, t_2.2.2), ⟨le_of_eq (eg oz), le_of_eq (eg (os rfl oz)), trivial⟩, rfl, some_of hz_1⟩
    · rintro e st ⟨vz_1, hH, rfl, rfl⟩
      refine aw_keep _ hH ?_
      refine aw_keep [(1, _), (5, _)] ⟨lg oz, lg (os rfl oz), trivial⟩ ?_
      refine aw_seq ?_
      refine aw_region (by decide) ?_
      refine rts _ rfl (opD_ple (q := agg (flat (kR kItm) ([[], [], [], [], []] : List (List Itm)))) rfl (opD_le (opD_build_array (rs := [pl (.slice none 0 0), pl (.slice none 0 0), pl (.slice none 0 0), pl (.slice none 0 0), pl (.slice none 0 0)]) Go.Proofs.Tryd.underlying160 sz141_u12b zt160_u12b parts_nil rfl) (agg_le (qs := [sl kItm none none ([] : List Itm), sl kItm none none ([] : List Itm), sl kItm none none ([] : List Itm), sl kItm none none ([] : List Itm), sl kItm none none ([] : List Itm)]) ⟨le_nil rfl, le_nil rfl, le_nil rfl, le_nil rfl, le_nil rfl, trivial⟩))) ?_
      refine rts _ rfl (opD_wkN rfl (allocN (bs' := [⟨HOT, [mp K1 vz_1.1]⟩, ⟨HOT, [mp K2 vz_1.2]⟩, ⟨201, [mref (s.boxes.length + 0), mref (s.boxes.length + 1)]⟩, ⟨160, [pl (.slice none 0 0), pl (.slice none 0 0), pl (.slice none 0 0), pl (.slice none 0 0), pl (.slice none 0 0)]⟩]) rfl zt160_u12b (by first | exact List.length_nil | (simp only [List.length_cons, List.length_nil, Nat.zero_add, Nat.reduceAdd] <;> rfl)) (by simp only [na, nb, nc, nd, nf, ng, nh, ni, nj, nk] <;> rfl)) (bxle_same (bxle_same (bxle_same (bxle_cons (B := ⟨160, [pl (.slice none 0 0), pl (.slice none 0 0), pl (.slice none 0 0), pl (.slice none 0 0), pl (.slice none 0 0)]⟩) (C := ⟨160, (flat (kR kItm) (List.replicate 5 ([] : (List Itm))))⟩) (@Eq.refl TypeId 160) ⟨le_nil rfl, le_nil rfl, le_nil rfl, le_nil rfl, le_nil rfl, trivial⟩ bxle_nil)))) (bl_cons (bnd_cons (mp_bnd _ _ _ _) bnd_nil) (bl_cons (bnd_cons (mp_bnd _ _ _ _) bnd_nil) (bl_cons (bnd_cons (mref_bnd _ (by first | omega | (simp only [List.length_append, List.length_cons, List.length_nil]; omega))) (bnd_cons (mref_bnd _ (by first | omega | (simp only [List.length_append, List.length_cons, List.length_nil]; omega))) bnd_nil)) (bl_cons (flatKB (kb_R kb_Itm)) bl_nil))))) ?_
      replace h0 := grd_some h0
      obtain ⟨hg_9, h0⟩ := h0
      replace h0 := grd_some h0
      obtain ⟨hg_10, h0⟩ := h0
      refine rts _ rfl (storeWF (k := kR kItm) rfl sz160_u12b lz (ls rfl lz) rfl rfl hg_9 hg_10 (by decide) (kb_R kb_Itm) (by simp only [na, nb, nc, nd, nf, ng, nh, ni, nj, nk] <;> rfl)) ?_
      refine .nil ?_
      refine aw_keep [(1, _), (5, _), (7, _)] ⟨lg (lx (ls rfl (ls rfl oz))), lg (lx (ls rfl (ls rfl (os rfl oz)))), lg (lx lz), trivial⟩ ?_
      refine aw_seq ?_
      refine aw_seq ?_
      refine aw_region (by decide) ?_
      refine rts _ rfl (opD_assign (ev_const _ _)) ?_
      refine .nil ?_
      refine aw_keep [(1, _), (5, _), (7, _), (8, _)] ⟨lg (ls rfl oz), lg (ls rfl (os rfl oz)), lg (ls rfl (os rfl (os rfl oz))), lg lz, trivial⟩ ?_
      replace h0 := bnd_some h0
      obtain ⟨z_6, hz_6, h0⟩ := h0
      refine aw_mid (fun e st => ∃ v : (List (List Itm)), Holds e [(1, pl (.int .u64 p1)), (5, ptr (s.boxes.length + 2) 0), (7, ptr (s.boxes.length + 3) 0)] ∧ st = s.ext [⟨HOT, [mp K1 vz_1.1]⟩, ⟨HOT, [mp K2 vz_1.2]⟩, ⟨201, [mref (s.boxes.length + 0), mref (s.boxes.length + 1)]⟩, ⟨160, (flat (kR kItm) v)⟩] [] ∧ v = z_6) ?_ ?_
      · skip
        refine aw_wkN rfl 4 0 rfl rfl ?_
        refine aw_block ?_
        refine aw_loop (fun n e st => ∃ v : Int × (List (List Itm)), Holds e [(1, pl (.int .u64 p1)), (5, ptr (s.boxes.length + 2) 0), (7, ptr (s.boxes.length + 3) 0), (8, pl (.int .i64 v.1))] ∧ st = s.ext [⟨HOT, [mp K1 vz_1.1]⟩, ⟨HOT, [mp K2 vz_1.2]⟩, ⟨201, [mref (s.boxes.length + 0), mref (s.boxes.length + 1)]⟩, ⟨160, (flat (kR kItm) v.2)⟩] [] ∧ lp (F_hForgets_b1 fl vz_1) n v = some z_6) fl ⟨(0, ([[], [], [], [], []] : List (List Itm))), ⟨le_of_eq (eg oz), le_of_eq (eg (os rfl oz)), le_of_eq (eg (os rfl (os rfl oz))), le_of_eq (eg (os rfl (os rfl (os rfl oz)))), trivial⟩, rfl, hz_6⟩ ?_
        rintro n e st ⟨t_7, hH, rfl, hz_6⟩
        replace hz_6 := lp_some hz_6
        obtain ⟨m_z_8, z_8, rfl, hz_8, hz_6⟩ := hz_6
        unfold F_hForgets_b1 at hz_8
        refine aw_keep _ hH ?_
        refine aw_wkN rfl 4 0 rfl rfl ?_
        refine aw_seq ?_
        refine aw_seq ?_
        refine aw_region (by decide) ?_
        refine rts _ rfl (opD_move (os rfl (os rfl (os rfl oz)))) ?_
        refine rts _ rfl (opD_lss lz (ev_const _ _)) ?_
        refine .nil ?_
        refine aw_keep [(1, _), (5, _), (7, _), (8, _), (43, _)] ⟨lg (ls rfl (ls rfl oz)), lg (ls rfl (ls rfl (os rfl oz))), lg (ls rfl (ls rfl (os rfl (os rfl oz)))), lg (ls rfl (ls rfl (os rfl (os rfl (os rfl oz))))), lg lz, trivial⟩ ?_
        refine aw_cond _ (os rfl (os rfl (os rfl (os rfl oz)))) (fun hc => ?_) (fun hc => ?_)
        · skip
          replace hz_8 := ifb_t hz_8 hc
          clear hc
          refine aw_skip ?_
          refine aw_keep [(1, _), (5, _), (7, _), (8, _)] ⟨lg oz, lg (os rfl oz), lg (os rfl (os rfl oz)), lg (os rfl (os rfl (os rfl oz))), trivial⟩ ?_
          refine aw_seq ?_
          refine aw_block ?_
          refine aw_region (by decide) ?_
          refine rts _ rfl (opD_move (os rfl (os rfl (os rfl oz)))) ?_
          refine rts _ rfl (opD_move (ls rfl (os rfl oz))) ?_
          refine rts _ rfl (opD_move (ls rfl (ls rfl (os rfl (os rfl (os rfl oz)))))) ?_
          refine rts _ rfl (opD_conv_int Go.Proofs.Tryd.underlying3 Go.Proofs.Tryd.underlying22 lz rfl) ?_
          replace hz_8 := bnd_some hz_8
          obtain ⟨x_9, hx_9, hz_8⟩ := hz_8
          refine rts _ rfl (callT (T := TBx) rfl 0 ht78_u12b (fun s g1 g2 gT h12 h1 h2 hT => ct_of hx_9 h1 hT) rfl rfl rfl ⟨le_of_eq (ls rfl (ls rfl lz)), le_of_eq lz, trivial⟩) ?_
          replace hz_8 := grd_some hz_8
          obtain ⟨hg_17, hz_8⟩ := hz_8
          refine rts _ rfl (opD_indexAddr_arr (i := t_7.1.toNat) Go.Proofs.Tryd.underlying160 sz141_u12b (ls rfl (ls rfl (ls rfl (ls rfl (ls rfl (os rfl (os rfl oz))))))) (ls rfl (ls rfl (ls rfl (ls rfl lz)))) hg_17.eq hg_17.2) ?_
          replace hz_8 := grd_some hz_8
          obtain ⟨hg_18, hz_8⟩ := hz_8
          refine rts _ rfl (storeFN (k := kR kItm) (z := x_9) rfl sz141_u12b lz (le_of_eq (ls rfl lz)) (one_sl _ _ _ _) rfl rfl (nat_lt hg_18) rfl (kb_R kb_Itm) (by simp only [na, nb, nc, nd, nf, ng, nh, ni, nj, nk] <;> rfl)) ?_
          refine .nil ?_
          refine aw_keep [(1, _), (5, _), (7, _), (8, _)] ⟨lg (lx (ls rfl (ls rfl (ls rfl (ls rfl (ls rfl (ls rfl oz))))))), lg (lx (ls rfl (ls rfl (ls rfl (ls rfl (ls rfl (ls rfl (os rfl oz)))))))), lg (lx (ls rfl (ls rfl (ls rfl (ls rfl (ls rfl (ls rfl (os rfl (os rfl oz))))))))), lg (lx (ls rfl (ls rfl (ls rfl (ls rfl (ls rfl (ls rfl (os rfl (os rfl (os rfl oz)))))))))), trivial⟩ ?_
          refine aw_region (by decide) ?_
          refine rts _ rfl (opD_move (os rfl (os rfl (os rfl oz)))) ?_
          refine rts _ rfl (opD_add lz (ev_const _ _) rfl) ?_
          refine rts _ rfl (opD_assign lz) ?_
          refine .nil ?_
          obtain rfl := some_of hz_8
          replace hz_6 := ocs_l hz_6
          refine wk_yesN rfl (l := [(1, pl (.int .u64 p1)), (5, ptr (s.boxes.length + 2) 0), (7, ptr (s.boxes.length + 3) 0), (8, pl (.int .i64 (IntKind.i64.wrap (t_7.1 + 1))))]) (bs' := [⟨HOT, [mp K1 vz_1.1]⟩, ⟨HOT, [mp K2 vz_1.2]⟩, ⟨201, [mref (s.boxes.length + 0), mref (s.boxes.length + 1)]⟩, ⟨160, (flat (kR kItm) (t_7.2.set t_7.1.toNat x_9))⟩]) ⟨le_of_eq (eg (ls rfl (ls rfl (ls rfl oz)))), le_of_eq (eg (ls rfl (ls rfl (ls rfl (os rfl oz))))), le_of_eq (eg (ls rfl (ls rfl (ls rfl (os rfl (os rfl oz)))))), le_of_eq (eg lz), trivial⟩ (bnd_cons (pl_bnd _ _ _) (bnd_cons (ptr_bnd _ (by first | omega | (simp only [List.length_append, List.length_cons, List.length_nil]; omega))) (bnd_cons (ptr_bnd _ (by first | omega | (simp only [List.length_append, List.length_cons, List.length_nil]; omega))) (bnd_cons (pl_bnd _ _ _) bnd_nil)))) (Nat.le_of_ble_eq_true rfl) (by simp only [na, nb, nc, nd, nf, ng, nh, ni, nj, nk] <;> rfl) (bxle_same (bxle_same (bxle_same (bxle_same bxle_nil)))) rfl (by simp only [na, nb, nc, nd, nf, ng, nh, ni, nj, nk] <;> rfl) (bl_cons (bnd_cons (mp_bnd _ _ _ _) bnd_nil) (bl_cons (bnd_cons (mp_bnd _ _ _ _) bnd_nil) (bl_cons (bnd_cons (mref_bnd _ (by first | omega | (simp only [List.length_append, List.length_cons, List.length_nil]; omega))) (bnd_cons (mref_bnd _ (by first | omega | (simp only [List.length_append, List.length_cons, List.length_nil]; omega))) bnd_nil)) (bl_cons (flatKB (kb_R kb_Itm)) bl_nil)))) ?_
          exact ⟨m_z_8, Nat.lt_succ_self _, (IntKind.i64.wrap (t_7.1 + 1), (t_7.2.set t_7.1.toNat x_9)), ⟨le_of_eq (eg oz), le_of_eq (eg (os rfl oz)), le_of_eq (eg (os rfl (os rfl oz))), le_of_eq (eg (os rfl (os rfl (os rfl oz)))), trivial⟩, rfl, hz_6⟩
        · skip
          replace hz_8 := ifb_f hz_8 hc
          clear hc
          refine aw_exit ?_
          obtain rfl := some_of hz_8
          replace hz_6 := ocs_r hz_6
          refine wk_no ?_
          refine wk_yesN rfl (l := [(1, pl (.int .u64 p1)), (5, ptr (s.boxes.length + 2) 0), (7, ptr (s.boxes.length + 3) 0)]) (bs' := [⟨HOT, [mp K1 vz_1.1]⟩, ⟨HOT, [mp K2 vz_1.2]⟩, ⟨201, [mref (s.boxes.length + 0), mref (s.boxes.length + 1)]⟩, ⟨160, (flat (kR kItm) t_7.2)⟩]) ⟨le_of_eq (eg oz), le_of_eq (eg (os rfl oz)), le_of_eq (eg (os rfl (os rfl oz))), trivial⟩ (bnd_cons (pl_bnd _ _ _) (bnd_cons (ptr_bnd _ (by first | omega | (simp only [List.length_append, List.length_cons, List.length_nil]; omega))) (bnd_cons (ptr_bnd _ (by first | omega | (simp only [List.length_append, List.length_cons, List.length_nil]; omega))) bnd_nil))) (Nat.le_of_ble_eq_true rfl) (by simp only [na, nb, nc, nd, nf, ng, nh, ni, nj, nk] <;> rfl) (bxle_same (bxle_same (bxle_same (bxle_same bxle_nil)))) rfl (by simp only [na, nb, nc, nd, nf, ng, nh, ni, nj, nk] <;> rfl) (bl_cons (bnd_cons (mp_bnd _ _ _ _) bnd_nil) (bl_cons (bnd_cons (mp_bnd _ _ _ _) bnd_nil) (bl_cons (bnd_cons (mref_bnd _ (by first | omega | (simp only [List.length_append, List.length_cons, List.length_nil]; omega))) (bnd_cons (mref_bnd _ (by first | omega | (simp only [List.length_append, List.length_cons, List.length_nil]; omega))) bnd_nil)) (bl_cons (flatKB (kb_R kb_Itm)) bl_nil)))) ?_
          exact ⟨t_7.2, ⟨le_of_eq (eg oz), le_of_eq (eg (os rfl oz)), le_of_eq (eg (os rfl (os rfl oz))), trivial⟩, rfl, some_of hz_6⟩
      · rintro e st ⟨vz_6, hH, rfl, rfl⟩
        refine aw_keep _ hH ?_
        refine aw_keep [(1, _), (5, _), (7, _)] ⟨lg oz, lg (os rfl oz), lg (os rfl (os rfl oz)), trivial⟩ ?_
        refine aw_seq ?_
        refine aw_region (by decide) ?_
        refine rts _ rfl (opD_move (os rfl oz)) ?_
        refine rts _ rfl (opD_move (ls rfl oz)) ?_
        replace h0 := bnd_some h0
        obtain ⟨x_10, hx_10, h0⟩ := h0
        refine rts _ rfl (callTU (T := TBx) rfl 0 ht73_u12b (fun s g1 g2 gT h12 h1 h2 hT => ct_forget (p0 := ⟨vz_1.1, vz_1.2⟩) hx_10 h12 h1 h2 hT) rfl rfl rfl ⟨le_of_eq (ls rfl lz), le_of_eq lz, trivial⟩ (by simp only [na, nb, nc, nd, nf, ng, nh, ni, nj, nk] <;> rfl)) ?_
        refine .nil ?_
        refine aw_keep [(1, _), (5, _), (7, _)] ⟨lg (ls rfl (ls rfl (ls rfl oz))), lg (ls rfl (ls rfl (ls rfl (os rfl oz)))), lg (ls rfl (ls rfl (ls rfl (os rfl (os rfl oz))))), trivial⟩ ?_
        refine aw_seq ?_
        refine aw_seq ?_
        refine aw_region (by decide) ?_
        refine rts _ rfl (opD_assign (ev_const _ _)) ?_
        refine .nil ?_
        refine aw_keep [(1, _), (5, _), (7, _), (9, _)] ⟨lg (ls rfl oz), lg (ls rfl (os rfl oz)), lg (ls rfl (os rfl (os rfl oz))), lg lz, trivial⟩ ?_
        replace h0 := bnd_some h0
        obtain ⟨z_11, hz_11, h0⟩ := h0
        refine aw_mid (fun e st => ∃ v : (List ((Int × Int) × Itm)) × (List (Int × Int)), Holds e [] ∧ st = s.ext [⟨HOT, [mp K1 v.1]⟩, ⟨HOT, [mp K2 v.2]⟩, ⟨201, [mref (s.boxes.length + 0), mref (s.boxes.length + 1)]⟩, ⟨160, (flat (kR kItm) vz_6)⟩] [] ∧ (.inr v) = z_11) ?_ ?_
        · skip
          refine aw_wkN rfl 4 0 rfl rfl ?_
          refine aw_block ?_
          refine aw_loop (fun n e st => ∃ v : Int × (List ((Int × Int) × Itm)) × (List (Int × Int)), Holds e [(1, pl (.int .u64 p1)), (5, ptr (s.boxes.length + 2) 0), (7, ptr (s.boxes.length + 3) 0), (9, pl (.int .i64 v.1))] ∧ st = s.ext [⟨HOT, [mp K1 v.2.1]⟩, ⟨HOT, [mp K2 v.2.2]⟩, ⟨201, [mref (s.boxes.length + 0), mref (s.boxes.length + 1)]⟩, ⟨160, (flat (kR kItm) vz_6)⟩] [] ∧ lp (F_hForgets_b2 fl p1 vz_6) n v = some z_11) fl ⟨(0, x_10, vz_1.2), ⟨le_of_eq (eg oz), le_of_eq (eg (os rfl oz)), le_of_eq (eg (os rfl (os rfl oz))), le_of_eq (eg (os rfl (os rfl (os rfl oz)))), trivial⟩, rfl, hz_11⟩ ?_
          rintro n e st ⟨t_12, hH, rfl, hz_11⟩
          replace hz_11 := lp_some hz_11
          obtain ⟨m_z_13, z_13, rfl, hz_13, hz_11⟩ := hz_11
          unfold F_hForgets_b2 at hz_13
          refine aw_keep _ hH ?_
          refine aw_wkN rfl 4 0 rfl rfl ?_
          refine aw_seq ?_
          refine aw_seq ?_
          refine aw_region (by decide) ?_
          refine rts _ rfl (opD_move (os rfl (os rfl (os rfl oz)))) ?_
          refine rts _ rfl (opD_lss lz (ev_const _ _)) ?_
          refine .nil ?_
          refine aw_keep [(1, _), (5, _), (7, _), (9, _), (56, _)] ⟨lg (ls rfl (ls rfl oz)), lg (ls rfl (ls rfl (os rfl oz))), lg (ls rfl (ls rfl (os rfl (os rfl oz)))), lg (ls rfl (ls rfl (os rfl (os rfl (os rfl oz))))), lg lz, trivial⟩ ?_
          refine aw_cond _ (os rfl (os rfl (os rfl (os rfl oz)))) (fun hc => ?_) (fun hc => ?_)
          · skip
            replace hz_13 := ifb_t hz_13 hc
            clear hc
            refine aw_skip ?_
            refine aw_keep [(1, _), (5, _), (7, _), (9, _)] ⟨lg oz, lg (os rfl oz), lg (os rfl (os rfl oz)), lg (os rfl (os rfl (os rfl oz))), trivial⟩ ?_
            refine aw_seq ?_
            replace hz_13 := bnd_some hz_13
            obtain ⟨z_14, hz_14, hz_13⟩ := hz_13
            refine aw_mid (fun e st => ∃ v : (List ((Int × Int) × Itm)) × (List (Int × Int)), Holds e [(1, pl (.int .u64 p1)), (5, ptr (s.boxes.length + 2) 0), (7, ptr (s.boxes.length + 3) 0), (9, pl (.int .i64 t_12.1))] ∧ st = s.ext [⟨HOT, [mp K1 v.1]⟩, ⟨HOT, [mp K2 v.2]⟩, ⟨201, [mref (s.boxes.length + 0), mref (s.boxes.length + 1)]⟩, ⟨160, (flat (kR kItm) vz_6)⟩] [] ∧ (.inr v) = z_14) ?_ ?_
            · skip
              refine aw_wkN rfl 4 0 rfl rfl ?_
              refine aw_block ?_
              refine aw_seq ?_
              refine aw_region (by decide) ?_
              refine rts _ rfl (opD_move (os rfl oz)) ?_
              refine rts _ rfl (opD_move (ls rfl (os rfl (os rfl (os rfl oz))))) ?_
              refine rts _ rfl (opD_conv_int Go.Proofs.Tryd.underlying3 Go.Proofs.Tryd.underlying22 lz rfl) ?_
              replace hz_14 := bnd_some hz_14
              obtain ⟨x_15, hx_15, hz_14⟩ := hz_14
              refine rts _ rfl (callT (T := TBx) rfl 0 ht78_u12b (fun s g1 g2 gT h12 h1 h2 hT => ct_of hx_15 h1 hT) rfl rfl rfl ⟨le_of_eq (ls rfl (ls rfl lz)), le_of_eq lz, trivial⟩) ?_
              refine rts _ rfl (opD_assign lz) ?_
              refine .nil ?_
              refine aw_keep [(1, _), (5, _), (7, _), (9, _), (10, _)] ⟨lg (ls rfl (ls rfl (ls rfl (ls rfl (ls rfl oz))))), lg (ls rfl (ls rfl (ls rfl (ls rfl (ls rfl (os rfl oz)))))), lg (ls rfl (ls rfl (ls rfl (ls rfl (ls rfl (os rfl (os rfl oz))))))), lg (ls rfl (ls rfl (ls rfl (ls rfl (ls rfl (os rfl (os rfl (os rfl oz)))))))), lg lz, trivial⟩ ?_
              refine aw_seq ?_
              refine aw_region (by decide) ?_
              refine rts _ rfl (opD_assign (ev_const _ _)) ?_
              refine .nil ?_
              refine aw_keep [(1, _), (5, _), (7, _), (9, _), (10, _), (11, _)] ⟨lg (ls rfl oz), lg (ls rfl (os rfl oz)), lg (ls rfl (os rfl (os rfl oz))), lg (ls rfl (os rfl (os rfl (os rfl oz)))), lg (ls rfl (os rfl (os rfl (os rfl (os rfl oz))))), lg lz, trivial⟩ ?_
              refine aw_seq ?_
              refine aw_seq ?_
              refine aw_region (by decide) ?_
              refine rts _ rfl (opD_assign (ev_const _ _)) ?_
              refine .nil ?_
              refine aw_keep [(1, _), (5, _), (7, _), (9, _), (10, _), (11, _), (12, _)] ⟨lg (ls rfl oz), lg (ls rfl (os rfl oz)), lg (ls rfl (os rfl (os rfl oz))), lg (ls rfl (os rfl (os rfl (os rfl oz)))), lg (ls rfl (os rfl (os rfl (os rfl (os rfl oz))))), lg (ls rfl (os rfl (os rfl (os rfl (os rfl (os rfl oz)))))), lg lz, trivial⟩ ?_
              replace hz_14 := bnd_some hz_14
              obtain ⟨z_16, hz_16, hz_14⟩ := hz_14
              refine aw_mid (fun e st => ∃ v : Int × (List ((Int × Int) × Itm)), Holds e [(1, pl (.int .u64 p1)), (5, ptr (s.boxes.length + 2) 0), (7, ptr (s.boxes.length + 3) 0), (9, pl (.int .i64 t_12.1)), (10, sl kItm none none x_15), (11, pl (.int .i64 v.1))] ∧ st = s.ext [⟨HOT, [mp K1 v.2]⟩, ⟨HOT, [mp K2 t_12.2.2]⟩, ⟨201, [mref (s.boxes.length + 0), mref (s.boxes.length + 1)]⟩, ⟨160, (flat (kR kItm) vz_6)⟩] [] ∧ (.inr v) = z_16) ?_ ?_
              · skip
                refine aw_wkN rfl 4 0 rfl rfl ?_
                refine aw_block ?_
                refine aw_loop (fun n e st => ∃ v : Int × Int × (List ((Int × Int) × Itm)), Holds e [(1, pl (.int .u64 p1)), (5, ptr (s.boxes.length + 2) 0), (7, ptr (s.boxes.length + 3) 0), (9, pl (.int .i64 t_12.1)), (10, sl kItm none none x_15), (11, pl (.int .i64 v.1)), (12, pl (.int .i64 v.2.1))] ∧ st = s.ext [⟨HOT, [mp K1 v.2.2]⟩, ⟨HOT, [mp K2 t_12.2.2]⟩, ⟨201, [mref (s.boxes.length + 0), mref (s.boxes.length + 1)]⟩, ⟨160, (flat (kR kItm) vz_6)⟩] [] ∧ lp (F_hForgets_b3 p1 vz_6 t_12 x_15) n v = some z_16) fl ⟨(0, 0, t_12.2.1), ⟨le_of_eq (eg oz), le_of_eq (eg (os rfl oz)), le_of_eq (eg (os rfl (os rfl oz))), le_of_eq (eg (os rfl (os rfl (os rfl oz)))), le_of_eq (eg (os rfl (os rfl (os rfl (os rfl oz))))), le_of_eq (eg (os rfl (os rfl (os rfl (os rfl (os rfl oz)))))), le_of_eq (eg (os rfl (os rfl (os rfl (os rfl (os rfl (os rfl oz))))))), trivial⟩, rfl, hz_16⟩ ?_
                rintro n e st ⟨t_17, hH, rfl, hz_16⟩
                replace hz_16 := lp_some hz_16
                obtain ⟨m_z_18, z_18, rfl, hz_18, hz_16⟩ := hz_16
                unfold F_hForgets_b3 at hz_18
                refine aw_keep _ hH ?_
                refine aw_wkN rfl 4 0 rfl rfl ?_
                refine aw_seq ?_
                refine aw_seq ?_
                refine aw_region (by decide) ?_
                refine rts _ rfl (opD_move (os rfl (os rfl (os rfl (os rfl (os rfl (os rfl oz))))))) ?_
                refine rts _ rfl (opD_move (ls rfl (os rfl (os rfl (os rfl oz))))) ?_
                replace hz_18 := grd_some hz_18
                obtain ⟨hg_1932, hz_18⟩ := hz_18
                refine rts _ rfl (opD_indexAddr_arr (i := t_12.1.toNat) Go.Proofs.Tryd.underlying160 sz141_u12b (ls rfl (ls rfl (os rfl (os rfl oz)))) lz hg_1932.eq hg_1932.2) ?_
                replace hz_18 := ixb_some hz_18
                obtain ⟨x_19, hx_19, hbx_19, hz_18⟩ := hz_18
                refine rts _ rfl (opD_load_one ag141_u12b lz (loc_getN rfl rfl) (flat_at0 rfl (nat_ix hx_19) rfl)) ?_
                refine rts _ rfl (opD_len_sl Go.Proofs.Tryd.underlying141 lz) ?_
                refine rts _ rfl (opD_lss (ls rfl (ls rfl (ls rfl (ls rfl lz)))) lz) ?_
                refine .nil ?_
                refine aw_keep [(1, _), (5, _), (7, _), (9, _), (10, _), (11, _), (12, _), (68, _)] ⟨lg (ls rfl (ls rfl (ls rfl (ls rfl (ls rfl (ls rfl oz)))))), lg (ls rfl (ls rfl (ls rfl (ls rfl (ls rfl (ls rfl (os rfl oz))))))), lg (ls rfl (ls rfl (ls rfl (ls rfl (ls rfl (ls rfl (os rfl (os rfl oz)))))))), lg (ls rfl (ls rfl (ls rfl (ls rfl (ls rfl (ls rfl (os rfl (os rfl (os rfl oz))))))))), lg (ls rfl (ls rfl (ls rfl (ls rfl (ls rfl (ls rfl (os rfl (os rfl (os rfl (os rfl oz)))))))))), lg (ls rfl (ls rfl (ls rfl (ls rfl (ls rfl (ls rfl (os rfl (os rfl (os rfl (os rfl (os rfl oz))))))))))), lg (ls rfl (ls rfl (ls rfl (ls rfl (ls rfl (ls rfl (os rfl (os rfl (os rfl (os rfl (os rfl (os rfl oz)))))))))))), lg lz, trivial⟩ ?_
                refine aw_cond _ (os rfl (os rfl (os rfl (os rfl (os rfl (os rfl (os rfl oz))))))) (fun hc => ?_) (fun hc => ?_)
                · skip
                  replace hz_18 := ifb_t hz_18 hc
                  clear hc
                  refine aw_skip ?_
                  refine aw_keep [(1, _), (5, _), (7, _), (9, _), (10, _), (11, _), (12, _)] ⟨lg oz, lg (os rfl oz), lg (os rfl (os rfl oz)), lg (os rfl (os rfl (os rfl oz))), lg (os rfl (os rfl (os rfl (os rfl oz)))), lg (os rfl (os rfl (os rfl (os rfl (os rfl oz))))), lg (os rfl (os rfl (os rfl (os rfl (os rfl (os rfl oz)))))), trivial⟩ ?_
                  refine aw_seq ?_
                  replace hz_18 := bnd_some hz_18
                  obtain ⟨z_20, hz_20, hz_18⟩ := hz_18
                  refine aw_mid (fun e st => ∃ v : Int × (List ((Int × Int) × Itm)), Holds e [(1, pl (.int .u64 p1)), (5, ptr (s.boxes.length + 2) 0), (7, ptr (s.boxes.length + 3) 0), (9, pl (.int .i64 t_12.1)), (10, sl kItm none none x_15), (11, pl (.int .i64 v.1)), (12, pl (.int .i64 t_17.2.1))] ∧ st = s.ext [⟨HOT, [mp K1 v.2]⟩, ⟨HOT, [mp K2 t_12.2.2]⟩, ⟨201, [mref (s.boxes.length + 0), mref (s.boxes.length + 1)]⟩, ⟨160, (flat (kR kItm) vz_6)⟩] [] ∧ (.inr v) = z_20) ?_ ?_
                  · skip
                    refine aw_wkN rfl 4 0 rfl rfl ?_
                    refine aw_block ?_
                    refine aw_seq ?_
                    refine aw_region (by decide) ?_
                    refine rts _ rfl (opD_move (os rfl (os rfl (os rfl oz)))) ?_
                    replace hz_20 := grd_some hz_20
                    obtain ⟨hg_1962, hz_20⟩ := hz_20
                    refine rts _ rfl (opD_indexAddr_arr (i := t_12.1.toNat) Go.Proofs.Tryd.underlying160 sz141_u12b (ls rfl (os rfl (os rfl oz))) lz hg_1962.eq hg_1962.2) ?_
                    replace hz_20 := ixb_some hz_20
                    obtain ⟨x_21, hx_21, hbx_21, hz_20⟩ := hz_20
                    refine rts _ rfl (opD_load_one ag141_u12b lz (loc_getN rfl rfl) (flat_at0 rfl (nat_ix hx_21) rfl)) ?_
                    refine rts _ rfl (opD_move (ls rfl (ls rfl (ls rfl (os rfl (os rfl (os rfl (os rfl (os rfl (os rfl oz)))))))))) ?_
                    replace hz_20 := ixb_some hz_20
                    obtain ⟨x_22, hx_22, hbx_22, hz_20⟩ := hz_20
                    refine rts _ rfl (opD_indexAddr_sl (i := t_17.2.1.toNat) Go.Proofs.Tryd.underlying141 sz137_u12b (ls rfl lz) lz hbx_22.2.2 hbx_22.2.1) ?_
                    refine rts _ rfl (opD_load_el_aggX (qs := [_, _, _, _, _]) ag137_u12b sz137_u12b lz hx_22 (Nat.le_of_ble_eq_true rfl) rfl) ?_
                    refine rts _ rfl (allocN rfl zt137_u12b (by first | exact List.length_nil | (simp only [List.length_cons, List.length_nil, Nat.zero_add, Nat.reduceAdd] <;> rfl)) (by simp only [na, nb, nc, nd, nf, ng, nh, ni, nj, nk] <;> rfl)) ?_
                    refine rts _ rfl (storeAN rfl sz137_u12b lz (ls rfl lz) (ones_cons (one_pl rfl) (ones_cons (one_pl rfl) (ones_cons (one_pl rfl) (ones_cons (one_pl rfl) (ones_cons (one_pl rfl) ones_nil))))) rfl rfl (Nat.le_of_ble_eq_true rfl) (List.cons_ne_nil _ _) (bnd_cons (pl_bnd _ _ _) (bnd_cons (pl_bnd _ _ _) (bnd_cons (pl_bnd _ _ _) (bnd_cons (pl_bnd _ _ _) (bnd_cons (pl_bnd _ _ _) bnd_nil))))) (by simp only [na, nb, nc, nd, nf, ng, nh, ni, nj, nk] <;> rfl) (by simp only [na, nb, nc, nd, nf, ng, nh, ni, nj, nk] <;> rfl)) ?_
                    refine .nil ?_
                    refine aw_keep [(1, _), (5, _), (7, _), (9, _), (10, _), (11, _), (12, _), (13, _)] ⟨lg (lx (ls rfl (ls rfl (ls rfl (ls rfl (ls rfl (ls rfl (ls rfl oz)))))))), lg (lx (ls rfl (ls rfl (ls rfl (ls rfl (ls rfl (ls rfl (ls rfl (os rfl oz))))))))), lg (lx (ls rfl (ls rfl (ls rfl (ls rfl (ls rfl (ls rfl (ls rfl (os rfl (os rfl oz)))))))))), lg (lx (ls rfl (ls rfl (ls rfl (ls rfl (ls rfl (ls rfl (ls rfl (os rfl (os rfl (os rfl oz))))))))))), lg (lx (ls rfl (ls rfl (ls rfl (ls rfl (ls rfl (ls rfl (ls rfl (os rfl (os rfl (os rfl (os rfl oz)))))))))))), lg (lx (ls rfl (ls rfl (ls rfl (ls rfl (ls rfl (ls rfl (ls rfl (os rfl (os rfl (os rfl (os rfl (os rfl oz))))))))))))), lg (lx (ls rfl (ls rfl (ls rfl (ls rfl (ls rfl (ls rfl (ls rfl (os rfl (os rfl (os rfl (os rfl (os rfl (os rfl oz)))))))))))))), lg (lx lz), trivial⟩ ?_
                    refine aw_seq ?_
                    refine aw_region (by decide) ?_
                    refine rts _ rfl (opD_move (os rfl oz)) ?_
                    refine rts _ rfl (opD_move (ls rfl (os rfl (os rfl (os rfl oz))))) ?_
                    refine rts _ rfl (opD_conv_int Go.Proofs.Tryd.underlying3 Go.Proofs.Tryd.underlying22 lz rfl) ?_
                    refine rts _ rfl (opD_fieldAddr fo137_1_u12b (ls rfl (ls rfl (ls rfl (os rfl (os rfl (os rfl (os rfl (os rfl (os rfl (os rfl oz))))))))))) ?_
                    refine rts _ rfl (opD_load_one ag22_u12b lz (loc_getN rfl rfl) rfl) ?_
                    replace hz_20 := bnd_some hz_20
                    obtain ⟨x_23, hx_23, hz_20⟩ := hz_20
                    refine rts _ rfl (callT (T := TBx) rfl 0 ht75_u12b (fun s g1 g2 gT h12 h1 h2 hT => ct_get (p0 := ⟨t_17.2.2, t_12.2.2⟩) hx_23 h1 h2 hT) rfl rfl rfl ⟨le_of_eq (ls rfl (ls rfl (ls rfl (ls rfl lz)))), le_of_eq (ls rfl (ls rfl lz)), le_of_eq lz, trivial⟩) ?_
                    refine rts _ rfl (opD_move lz) ?_
                    refine rts _ rfl (opD_extract lz rfl) ?_
                    refine rts _ rfl (opD_extract (ls rfl lz) rfl) ?_
                    refine rts _ rfl (allocN rfl zt137_u12b (by first | exact List.length_nil | (simp only [List.length_cons, List.length_nil, Nat.zero_add, Nat.reduceAdd] <;> rfl)) (by simp only [na, nb, nc, nd, nf, ng, nh, ni, nj, nk] <;> rfl)) ?_
                    refine rts _ rfl (storeAN rfl sz137_u12b lz (ls rfl (ls rfl lz)) (ones_cons (one_pl rfl) (ones_cons (one_pl rfl) (ones_cons (one_pl rfl) (ones_cons (one_pl rfl) (ones_cons (one_pl rfl) ones_nil))))) rfl rfl (Nat.le_of_ble_eq_true rfl) (List.cons_ne_nil _ _) (bnd_cons (pl_bnd _ _ _) (bnd_cons (pl_bnd _ _ _) (bnd_cons (pl_bnd _ _ _) (bnd_cons (pl_bnd _ _ _) (bnd_cons (pl_bnd _ _ _) bnd_nil))))) (by simp only [na, nb, nc, nd, nf, ng, nh, ni, nj, nk] <;> rfl) (by simp only [na, nb, nc, nd, nf, ng, nh, ni, nj, nk] <;> rfl)) ?_
                    refine rts _ rfl (opD_assign (lx (ls rfl lz))) ?_
                    refine .nil ?_
                    refine aw_keep [(1, _), (5, _), (7, _), (9, _), (10, _), (11, _), (12, _), (13, _), (14, _), (15, _)] ⟨lg (ls rfl (lx (ls rfl (ls rfl (ls rfl (ls rfl (ls rfl (ls rfl (ls rfl (ls rfl (ls rfl (ls rfl oz)))))))))))), lg (ls rfl (lx (ls rfl (ls rfl (ls rfl (ls rfl (ls rfl (ls rfl (ls rfl (ls rfl (ls rfl (ls rfl (os rfl oz))))))))))))), lg (ls rfl (lx (ls rfl (ls rfl (ls rfl (ls rfl (ls rfl (ls rfl (ls rfl (ls rfl (ls rfl (ls rfl (os rfl (os rfl oz)))))))))))))), lg (ls rfl (lx (ls rfl (ls rfl (ls rfl (ls rfl (ls rfl (ls rfl (ls rfl (ls rfl (ls rfl (ls rfl (os rfl (os rfl (os rfl oz))))))))))))))), lg (ls rfl (lx (ls rfl (ls rfl (ls rfl (ls rfl (ls rfl (ls rfl (ls rfl (ls rfl (ls rfl (ls rfl (os rfl (os rfl (os rfl (os rfl oz)))))))))))))))), lg (ls rfl (lx (ls rfl (ls rfl (ls rfl (ls rfl (ls rfl (ls rfl (ls rfl (ls rfl (ls rfl (ls rfl (os rfl (os rfl (os rfl (os rfl (os rfl oz))))))))))))))))), lg (ls rfl (lx (ls rfl (ls rfl (ls rfl (ls rfl (ls rfl (ls rfl (ls rfl (ls rfl (ls rfl (ls rfl (os rfl (os rfl (os rfl (os rfl (os rfl (os rfl oz)))))))))))))))))), lg (ls rfl (lx (ls rfl (ls rfl (ls rfl (ls rfl (ls rfl (ls rfl (ls rfl (ls rfl (ls rfl (ls rfl (os rfl (os rfl (os rfl (os rfl (os rfl (os rfl (os rfl oz))))))))))))))))))), lg (ls rfl (lx lz)), lg lz, trivial⟩ ?_
                    refine aw_seq ?_
                    refine aw_seq ?_
                    refine aw_region (by decide) ?_
                    refine rts _ rfl (opD_fieldAddr fo137_2_u12b (os rfl (os rfl (os rfl (os rfl (os rfl (os rfl (os rfl oz)))))))) ?_
                    refine rts _ rfl (opD_load_one ag22_u12b lz (loc_getN rfl rfl) rfl) ?_
                    refine rts _ rfl (opD_move (ls rfl (ls rfl oz))) ?_
                    refine rts _ rfl (opD_eql (ls rfl lz) lz) ?_
                    refine .nil ?_
                    refine aw_keep [(1, _), (5, _), (7, _), (9, _), (10, _), (11, _), (12, _), (13, _), (14, _), (15, _), (89, _)] ⟨lg (ls rfl (ls rfl (ls rfl (ls rfl oz)))), lg (ls rfl (ls rfl (ls rfl (ls rfl (os rfl oz))))), lg (ls rfl (ls rfl (ls rfl (ls rfl (os rfl (os rfl oz)))))), lg (ls rfl (ls rfl (ls rfl (ls rfl (os rfl (os rfl (os rfl oz))))))), lg (ls rfl (ls rfl (ls rfl (ls rfl (os rfl (os rfl (os rfl (os rfl oz)))))))), lg (ls rfl (ls rfl (ls rfl (ls rfl (os rfl (os rfl (os rfl (os rfl (os rfl oz))))))))), lg (ls rfl (ls rfl (ls rfl (ls rfl (os rfl (os rfl (os rfl (os rfl (os rfl (os rfl oz)))))))))), lg (ls rfl (ls rfl (ls rfl (ls rfl (os rfl (os rfl (os rfl (os rfl (os rfl (os rfl (os rfl oz))))))))))), lg (ls rfl (ls rfl (ls rfl (ls rfl (os rfl (os rfl (os rfl (os rfl (os rfl (os rfl (os rfl (os rfl oz)))))))))))), lg (ls rfl (ls rfl (ls rfl (ls rfl (os rfl (os rfl (os rfl (os rfl (os rfl (os rfl (os rfl (os rfl (os rfl oz))))))))))))), lg lz, trivial⟩ ?_
                    refine aw_cond _ (os rfl (os rfl (os rfl (os rfl (os rfl (os rfl (os rfl (os rfl (os rfl (os rfl oz)))))))))) (fun hc => ?_) (fun hc => ?_)
                    · skip
                      replace hz_20 := ifb_t hz_20 hc
                      clear hc
                      refine aw_seq ?_
                      refine aw_seq ?_
                      refine aw_region (by decide) ?_
                      refine rts _ rfl (opD_move (os rfl (os rfl (os rfl (os rfl (os rfl (os rfl (os rfl (os rfl (os rfl oz)))))))))) ?_
                      replace hz_20 := bnd_some hz_20
                      obtain ⟨x_24, hx_24, hz_20⟩ := hz_20
                      refine rts _ rfl (opD_call ht76_u12b (c_num34 hx_24 hst) ⟨le_of_eq lz, trivial⟩) ?_
                      refine rts _ rfl (opD_neq lz (ev_const _ _)) ?_
                      refine rts _ rfl (opD_move lz) ?_
                      refine rt_cases 93 (eg lz) (fun hc => ?_) (fun hc => ?_)
                      · skip
                        replace hz_20 := ifb_t hz_20 hc
                        clear hc
                        refine rtk ⟨_, rfl, .inl ⟨_, eg lz, rfl⟩⟩ ?_
                        refine rtk ⟨_, rfl, .inl ⟨_, eg (ls rfl lz), rfl⟩⟩ ?_
                        refine rtk ⟨_, rfl, .inl ⟨_, eg (ls rfl (ls rfl lz)), rfl⟩⟩ ?_
                        refine rtk ⟨_, rfl, .inl ⟨_, eg (ls rfl (ls rfl (ls rfl lz))), rfl⟩⟩ ?_
                        refine rtk ⟨_, rfl, .inl ⟨_, eg (ls rfl (ls rfl (ls rfl (ls rfl lz)))), rfl⟩⟩ ?_
                        refine rtk ⟨_, rfl, .inl ⟨_, eg (ls rfl (ls rfl (ls rfl (ls rfl (ls rfl lz))))), rfl⟩⟩ ?_
                        refine rtk ⟨_, rfl, .inl ⟨_, eg (ls rfl (ls rfl (ls rfl (ls rfl (ls rfl (ls rfl lz)))))), rfl⟩⟩ ?_
                        refine rtk ⟨_, rfl, .inl ⟨_, eg (ls rfl (ls rfl (ls rfl (ls rfl (ls rfl (ls rfl (ls rfl lz))))))), rfl⟩⟩ ?_
                        refine rts _ rfl (opD_pickT (ls rfl (ls rfl (ls rfl (ls rfl (ls rfl (ls rfl (ls rfl (ls rfl lz)))))))) (ev_const _ _)) ?_
                        refine .nil ?_
                        refine aw_keep [(1, _), (5, _), (7, _), (9, _), (10, _), (11, _), (12, _), (102, _)] ⟨lg (ls rfl (ls rfl (ls rfl (ls rfl (ls rfl (ls rfl (ls rfl (ls rfl (ls rfl (ls rfl (ls rfl (ls rfl (ls rfl (ls rfl oz)))))))))))))), lg (ls rfl (ls rfl (ls rfl (ls rfl (ls rfl (ls rfl (ls rfl (ls rfl (ls rfl (ls rfl (ls rfl (ls rfl (ls rfl (ls rfl (os rfl oz))))))))))))))), lg (ls rfl (ls rfl (ls rfl (ls rfl (ls rfl (ls rfl (ls rfl (ls rfl (ls rfl (ls rfl (ls rfl (ls rfl (ls rfl (ls rfl (os rfl (os rfl oz)))))))))))))))), lg (ls rfl (ls rfl (ls rfl (ls rfl (ls rfl (ls rfl (ls rfl (ls rfl (ls rfl (ls rfl (ls rfl (ls rfl (ls rfl (ls rfl (os rfl (os rfl (os rfl oz))))))))))))))))), lg (ls rfl (ls rfl (ls rfl (ls rfl (ls rfl (ls rfl (ls rfl (ls rfl (ls rfl (ls rfl (ls rfl (ls rfl (ls rfl (ls rfl (os rfl (os rfl (os rfl (os rfl oz)))))))))))))))))), lg (ls rfl (ls rfl (ls rfl (ls rfl (ls rfl (ls rfl (ls rfl (ls rfl (ls rfl (ls rfl (ls rfl (ls rfl (ls rfl (ls rfl (os rfl (os rfl (os rfl (os rfl (os rfl oz))))))))))))))))))), lg (ls rfl (ls rfl (ls rfl (ls rfl (ls rfl (ls rfl (ls rfl (ls rfl (ls rfl (ls rfl (ls rfl (ls rfl (ls rfl (ls rfl (os rfl (os rfl (os rfl (os rfl (os rfl (os rfl oz)))))))))))))))))))), lg lz, trivial⟩ ?_
                        refine aw_cond _ (os rfl (os rfl (os rfl (os rfl (os rfl (os rfl (os rfl oz))))))) (fun hc => ?_) (fun hc => ?_)
                        · skip
                          refine aw_seq ?_
                          refine aw_region (by decide) ?_
                          refine rts _ rfl (opD_assign (ev_const _ _)) ?_
                          refine .nil ?_
                          refine aw_keep [(4, _)] ⟨lg lz, trivial⟩ ?_
                          refine aw_ret ?_
                          obtain rfl := some_of hz_20
                          replace hz_18 := ocs_l hz_18
                          obtain rfl := some_of hz_18
                          replace hz_16 := ocs_r hz_16
                          obtain rfl := some_of hz_16
                          replace hz_14 := ocs_l hz_14
                          obtain rfl := some_of hz_14
                          replace hz_13 := ocs_l hz_13
                          obtain rfl := some_of hz_13
                          replace hz_11 := ocs_r hz_11
                          obtain rfl := some_of hz_11
                          replace h0 := ocs_l h0
                          refine wk_no ?_
                          refine wk_no ?_
                          refine wk_no ?_
                          refine wk_no ?_
                          refine wk_no ?_
                          refine wk_no ?_
                          obtain rfl := some_of h0
                          exact done_ext (.inr rfl) ((res_one rfl (it_tmp oz)).le (Pd.le_refl _)) (pl_bnd _ _ _)
                        · skip
                          cases hc
                      · skip
                        replace hz_20 := ifb_f hz_20 hc
                        clear hc
                        refine rts _ ⟨_, rfl, .inl ⟨_, eg lz, rfl⟩⟩ (opD_move (ls rfl (ls rfl (ls rfl (ls rfl (ls rfl (os rfl oz))))))) ?_
                        refine rts _ ⟨_, rfl, .inl ⟨_, eg (ls rfl lz), rfl⟩⟩ (opD_move (ls rfl (ls rfl (ls rfl (ls rfl (ls rfl (ls rfl (os rfl (os rfl (os rfl oz)))))))))) ?_
                        refine rts _ ⟨_, rfl, .inl ⟨_, eg (ls rfl (ls rfl lz)), rfl⟩⟩ (opD_conv_int Go.Proofs.Tryd.underlying3 Go.Proofs.Tryd.underlying22 lz rfl) ?_
                        refine rts _ ⟨_, rfl, .inl ⟨_, eg (ls rfl (ls rfl (ls rfl lz))), rfl⟩⟩ (opD_fieldAddr fo137_1_u12b (ls rfl (ls rfl (ls rfl (ls rfl (ls rfl (ls rfl (ls rfl (ls rfl (os rfl (os rfl (os rfl (os rfl (os rfl (os rfl (os rfl oz)))))))))))))))) ?_
                        refine rts _ ⟨_, rfl, .inl ⟨_, eg (ls rfl (ls rfl (ls rfl (ls rfl lz)))), rfl⟩⟩ (opD_load_one ag22_u12b lz (loc_getN rfl rfl) rfl) ?_
                        replace hz_20 := bnd_some hz_20
                        obtain ⟨x_25, hx_25, hz_20⟩ := hz_20
                        refine rts _ ⟨_, rfl, .inl ⟨_, eg (ls rfl (ls rfl (ls rfl (ls rfl (ls rfl lz))))), rfl⟩⟩ (callTU (T := TBx) rfl 0 ht77_u12b (fun s g1 g2 gT h12 h1 h2 hT => ct_drop (p0 := ⟨t_17.2.2, t_12.2.2⟩) hx_25 h1 h2 hT) rfl rfl rfl ⟨le_of_eq (ls rfl (ls rfl (ls rfl (ls rfl lz)))), le_of_eq (ls rfl (ls rfl lz)), le_of_eq lz, trivial⟩ (by simp only [na, nb, nc, nd, nf, ng, nh, ni, nj, nk] <;> rfl)) ?_
                        replace hz_20 := bnd_some hz_20
                        obtain ⟨x_26, hx_26, hz_20⟩ := hz_20
                        refine rts _ ⟨_, rfl, .inl ⟨_, eg (ls rfl (ls rfl (ls rfl (ls rfl (ls rfl (ls rfl lz)))))), rfl⟩⟩ (opD_call ht76_u12b (c_num34 hx_26 hst) ⟨le_of_eq lz, trivial⟩) ?_
                        refine rts _ ⟨_, rfl, .inl ⟨_, eg (ls rfl (ls rfl (ls rfl (ls rfl (ls rfl (ls rfl (ls rfl lz))))))), rfl⟩⟩ (opD_neq lz (ev_const _ _)) ?_
                        refine rts _ rfl (opD_pickF (ls rfl (ls rfl (ls rfl (ls rfl (ls rfl (ls rfl (ls rfl (ls rfl lz)))))))) lz) ?_
                        refine .nil ?_
                        refine aw_keep [(1, _), (5, _), (7, _), (9, _), (10, _), (11, _), (12, _), (102, _)] ⟨lg (ls rfl (ls rfl (ls rfl (ls rfl (ls rfl (ls rfl (ls rfl (ls rfl (ls rfl (ls rfl (ls rfl (ls rfl (ls rfl (ls rfl oz)))))))))))))), lg (ls rfl (ls rfl (ls rfl (ls rfl (ls rfl (ls rfl (ls rfl (ls rfl (ls rfl (ls rfl (ls rfl (ls rfl (ls rfl (ls rfl (os rfl oz))))))))))))))), lg (ls rfl (ls rfl (ls rfl (ls rfl (ls rfl (ls rfl (ls rfl (ls rfl (ls rfl (ls rfl (ls rfl (ls rfl (ls rfl (ls rfl (os rfl (os rfl oz)))))))))))))))), lg (ls rfl (ls rfl (ls rfl (ls rfl (ls rfl (ls rfl (ls rfl (ls rfl (ls rfl (ls rfl (ls rfl (ls rfl (ls rfl (ls rfl (os rfl (os rfl (os rfl oz))))))))))))))))), lg (ls rfl (ls rfl (ls rfl (ls rfl (ls rfl (ls rfl (ls rfl (ls rfl (ls rfl (ls rfl (ls rfl (ls rfl (ls rfl (ls rfl (os rfl (os rfl (os rfl (os rfl oz)))))))))))))))))), lg (ls rfl (ls rfl (ls rfl (ls rfl (ls rfl (ls rfl (ls rfl (ls rfl (ls rfl (ls rfl (ls rfl (ls rfl (ls rfl (ls rfl (os rfl (os rfl (os rfl (os rfl (os rfl oz))))))))))))))))))), lg (ls rfl (ls rfl (ls rfl (ls rfl (ls rfl (ls rfl (ls rfl (ls rfl (ls rfl (ls rfl (ls rfl (ls rfl (ls rfl (ls rfl (os rfl (os rfl (os rfl (os rfl (os rfl (os rfl oz)))))))))))))))))))), lg lz, trivial⟩ ?_
                        refine aw_cond _ (os rfl (os rfl (os rfl (os rfl (os rfl (os rfl (os rfl oz))))))) (fun hc => ?_) (fun hc => ?_)
                        · skip
                          replace hz_20 := ifb_t hz_20 hc
                          clear hc
                          refine aw_seq ?_
                          refine aw_region (by decide) ?_
                          refine rts _ rfl (opD_assign (ev_const _ _)) ?_
                          refine .nil ?_
                          refine aw_keep [(4, _)] ⟨lg lz, trivial⟩ ?_
                          refine aw_ret ?_
                          obtain rfl := some_of hz_20
                          replace hz_18 := ocs_l hz_18
                          obtain rfl := some_of hz_18
                          replace hz_16 := ocs_r hz_16
                          obtain rfl := some_of hz_16
                          replace hz_14 := ocs_l hz_14
                          obtain rfl := some_of hz_14
                          replace hz_13 := ocs_l hz_13
                          obtain rfl := some_of hz_13
                          replace hz_11 := ocs_r hz_11
                          obtain rfl := some_of hz_11
                          replace h0 := ocs_l h0
                          refine wk_no ?_
                          refine wk_no ?_
                          refine wk_no ?_
                          refine wk_no ?_
                          refine wk_no ?_
                          refine wk_no ?_
                          obtain rfl := some_of h0
                          exact done_ext (.inr rfl) ((res_one rfl (it_tmp oz)).le (Pd.le_refl _)) (pl_bnd _ _ _)
                        · skip
                          replace hz_20 := ifb_f hz_20 hc
                          clear hc
                          refine aw_skip ?_
                          refine aw_keep [(1, _), (5, _), (7, _), (9, _), (10, _), (11, _), (12, _)] ⟨lg oz, lg (os rfl oz), lg (os rfl (os rfl oz)), lg (os rfl (os rfl (os rfl oz))), lg (os rfl (os rfl (os rfl (os rfl oz)))), lg (os rfl (os rfl (os rfl (os rfl (os rfl oz))))), lg (os rfl (os rfl (os rfl (os rfl (os rfl (os rfl oz)))))), trivial⟩ ?_
                          refine aw_exit ?_
                          refine wk_yesN rfl (l := [(1, pl (.int .u64 p1)), (5, ptr (s.boxes.length + 2) 0), (7, ptr (s.boxes.length + 3) 0), (9, pl (.int .i64 t_12.1)), (10, sl kItm none none x_15), (11, pl (.int .i64 t_17.1)), (12, pl (.int .i64 t_17.2.1))]) (bs' := [⟨HOT, [mp K1 x_25.2]⟩, ⟨HOT, [mp K2 t_12.2.2]⟩, ⟨201, [mref (s.boxes.length + 0), mref (s.boxes.length + 1)]⟩, ⟨160, (flat (kR kItm) vz_6)⟩]) ⟨le_of_eq (eg oz), le_of_eq (eg (os rfl oz)), le_of_eq (eg (os rfl (os rfl oz))), le_of_eq (eg (os rfl (os rfl (os rfl oz)))), le_of_eq (eg (os rfl (os rfl (os rfl (os rfl oz))))), le_of_eq (eg (os rfl (os rfl (os rfl (os rfl (os rfl oz)))))), le_of_eq (eg (os rfl (os rfl (os rfl (os rfl (os rfl (os rfl oz))))))), trivial⟩ (bnd_cons (pl_bnd _ _ _) (bnd_cons (ptr_bnd _ (by first | omega | (simp only [List.length_append, List.length_cons, List.length_nil]; omega))) (bnd_cons (ptr_bnd _ (by first | omega | (simp only [List.length_append, List.length_cons, List.length_nil]; omega))) (bnd_cons (pl_bnd _ _ _) (bnd_cons (sl_b kb_Itm) (bnd_cons (pl_bnd _ _ _) (bnd_cons (pl_bnd _ _ _) bnd_nil))))))) (Nat.le_of_ble_eq_true rfl) (by simp only [na, nb, nc, nd, nf, ng, nh, ni, nj, nk] <;> rfl) (bxle_same (bxle_same (bxle_same (bxle_same bxle_nil)))) rfl (by simp only [na, nb, nc, nd, nf, ng, nh, ni, nj, nk] <;> rfl) (bl_cons (bnd_cons (mp_bnd _ _ _ _) bnd_nil) (bl_cons (bnd_cons (mp_bnd _ _ _ _) bnd_nil) (bl_cons (bnd_cons (mref_bnd _ (by first | omega | (simp only [List.length_append, List.length_cons, List.length_nil]; omega))) (bnd_cons (mref_bnd _ (by first | omega | (simp only [List.length_append, List.length_cons, List.length_nil]; omega))) bnd_nil)) (bl_cons (flatKB (kb_R kb_Itm)) bl_nil)))) ?_
                          exact ⟨(t_17.1, x_25.2), ⟨le_of_eq (eg oz), le_of_eq (eg (os rfl oz)), le_of_eq (eg (os rfl (os rfl oz))), le_of_eq (eg (os rfl (os rfl (os rfl oz)))), le_of_eq (eg (os rfl (os rfl (os rfl (os rfl oz))))), le_of_eq (eg (os rfl (os rfl (os rfl (os rfl (os rfl oz)))))), le_of_eq (eg (os rfl (os rfl (os rfl (os rfl (os rfl (os rfl oz))))))), trivial⟩, rfl, some_of hz_20⟩
                    · skip
                      replace hz_20 := ifb_f hz_20 hc
                      clear hc
                      refine aw_skip ?_
                      refine aw_keep [(1, _), (5, _), (7, _), (9, _), (10, _), (11, _), (12, _), (13, _), (14, _), (15, _)] ⟨lg oz, lg (os rfl oz), lg (os rfl (os rfl oz)), lg (os rfl (os rfl (os rfl oz))), lg (os rfl (os rfl (os rfl (os rfl oz)))), lg (os rfl (os rfl (os rfl (os rfl (os rfl oz))))), lg (os rfl (os rfl (os rfl (os rfl (os rfl (os rfl oz)))))), lg (os rfl (os rfl (os rfl (os rfl (os rfl (os rfl (os rfl oz))))))), lg (os rfl (os rfl (os rfl (os rfl (os rfl (os rfl (os rfl (os rfl oz)))))))), lg (os rfl (os rfl (os rfl (os rfl (os rfl (os rfl (os rfl (os rfl (os rfl oz))))))))), trivial⟩ ?_
                      refine aw_seq ?_
                      refine aw_seq ?_
                      refine aw_flat mixed_u12b (by decide +kernel) ?_
                      refine zts _ rfl (opD_move (os rfl (os rfl (os rfl (os rfl (os rfl (os rfl (os rfl (os rfl (os rfl oz)))))))))) ?_
                      refine zts _ rfl (opD_bin lz (ev_const _ _) (fun w => errV_guard _ w _) (fun w => errV_beq _ w)) ?_
                      refine zts _ rfl (opD_move lz) ?_
                      refine ztg _ rfl lz (fun hg27_3_1977 => opD_load_aggX (qs := [_, _, _, _, _]) ag137_u12b sz137_u12b (ls rfl (ls rfl (ls rfl (os rfl (os rfl (os rfl (os rfl (os rfl (os rfl (os rfl (os rfl oz))))))))))) (loc_getN rfl rfl) (Nat.le_of_ble_eq_true rfl) rfl) ?_
                      refine ztg _ rfl (ls rfl lz) (fun hg27_4_1978 => opD_load_aggX (qs := [_, _, _, _, _]) ag137_u12b sz137_u12b (ls rfl (ls rfl (ls rfl (ls rfl (os rfl (os rfl (os rfl (os rfl (os rfl (os rfl (os rfl oz))))))))))) (loc_getN rfl rfl) (Nat.le_of_ble_eq_true rfl) rfl) ?_
                      refine ztg _ rfl (ls rfl (ls rfl lz)) (fun hg27_5_1979 => opD_binA [.int .u64 x_23.1.Who, .int .u64 x_23.1.No, .int .u64 x_23.1.Space, .int .u64 x_23.1.Gen, .int .u64 x_23.1.Txn] [.int .u64 x_22.Who, .int .u64 x_22.No, .int .u64 x_22.Space, .int .u64 x_22.Gen, .int .u64 x_22.Txn] ((ls rfl lz).trans (pif_pos hg27_5_1979)) (lz.trans (pif_pos hg27_5_1979)) (fun w => (eq_Itm_g _ _ _ _ _ w)) (fun w => (eq_Itm _ _ _ _ _ _ _ _ _ _ w).2)) ?_
                      refine zts _ rfl (opD_or (ls rfl (ls rfl (ls rfl lz))) lz) ?_
                      refine zts _ rfl (opD_move lz) ?_
                      refine ztg _ rfl lz (fun hg27_8_1980 => opD_move (ls rfl (ls rfl (ls rfl (ls rfl (ls rfl (ls rfl (ls rfl (ls rfl (os rfl (os rfl (os rfl (os rfl (os rfl oz)))))))))))))) ?_
                      refine ztg _ rfl (ls rfl lz) (fun hg27_9_1981 => opD_move (ls rfl (ls rfl (ls rfl (ls rfl (ls rfl (ls rfl (ls rfl (ls rfl (ls rfl (os rfl (os rfl (os rfl (os rfl oz)))))))))))))) ?_
                      refine ztg _ rfl (ls rfl (ls rfl lz)) (fun hg27_10_1982 => opD_len_sl Go.Proofs.Tryd.underlying141 (lz.trans (pif_pos hg27_10_1982))) ?_
                      refine ztg _ rfl (ls rfl (ls rfl (ls rfl lz))) (fun hg27_11_1983 => opD_geq ((ls rfl (ls rfl lz)).trans (pif_pos hg27_11_1983)) (lz.trans (pif_pos hg27_11_1983))) ?_
                      refine zts _ rfl (opD_or (ls rfl (ls rfl (ls rfl (ls rfl lz)))) lz) ?_
                      refine zts _ rfl (opD_move lz) ?_
                      refine ztg _ rfl lz (fun hg27_14_1984 => opD_move (ls rfl (ls rfl (ls rfl (ls rfl (ls rfl (ls rfl (ls rfl (ls rfl (ls rfl (ls rfl (ls rfl (ls rfl (ls rfl (ls rfl (os rfl (os rfl (os rfl (os rfl oz))))))))))))))))))) ?_
                      refine ztg _ rfl (ls rfl lz) (fun hg27_15_1985 => opD_move (ls rfl (ls rfl (ls rfl (ls rfl (ls rfl (ls rfl (ls rfl (ls rfl (ls rfl (ls rfl (ls rfl (ls rfl (ls rfl (ls rfl (ls rfl (os rfl (os rfl (os rfl (os rfl (os rfl oz))))))))))))))))))))) ?_
                      replace hz_20 := grd_some hz_20
                      obtain ⟨hg_1987, hz_20⟩ := hz_20
                      refine ztg _ rfl (ls rfl (ls rfl lz)) (fun hg27_16_1986 => opD_indexAddr_sl (i := t_17.1.toNat) Go.Proofs.Tryd.underlying141 sz137_u12b ((ls rfl lz).trans (pif_pos hg27_16_1986)) (lz.trans (pif_pos hg27_16_1986)) (hg_1987 hg27_16_1986).eq (hg_1987 hg27_16_1986).2) ?_
                      refine ztg _ rfl (ls rfl (ls rfl (ls rfl lz))) (fun hg27_17_1988 => opD_load_el_aggX (qs := [_, _, _, _, _]) ag137_u12b sz137_u12b (lz.trans (pif_pos hg27_17_1988)) (at_getD default (hg_1987 hg27_17_1988).2) (Nat.le_of_ble_eq_true rfl) rfl) ?_
                      refine ztg _ rfl (ls rfl (ls rfl (ls rfl (ls rfl lz)))) (fun hg27_18_1989 => opD_load_aggX (qs := [_, _, _, _, _]) ag137_u12b sz137_u12b (ls rfl (ls rfl (ls rfl (ls rfl (ls rfl (ls rfl (ls rfl (ls rfl (ls rfl (ls rfl (ls rfl (ls rfl (ls rfl (ls rfl (ls rfl (ls rfl (ls rfl (ls rfl (os rfl (os rfl (os rfl (os rfl (os rfl (os rfl (os rfl oz))))))))))))))))))))))))) (loc_getN rfl rfl) (Nat.le_of_ble_eq_true rfl) rfl) ?_
                      refine ztg _ rfl (ls rfl (ls rfl (ls rfl (ls rfl (ls rfl lz))))) (fun hg27_19_1990 => opD_binA [.int .u64 ((x_15.getD t_17.1.toNat default).Who), .int .u64 ((x_15.getD t_17.1.toNat default).No), .int .u64 ((x_15.getD t_17.1.toNat default).Space), .int .u64 ((x_15.getD t_17.1.toNat default).Gen), .int .u64 ((x_15.getD t_17.1.toNat default).Txn)] [.int .u64 x_22.Who, .int .u64 x_22.No, .int .u64 x_22.Space, .int .u64 x_22.Gen, .int .u64 x_22.Txn] ((ls rfl lz).trans (pif_pos hg27_19_1990)) (lz.trans (pif_pos hg27_19_1990)) (fun w => (eq_Itm_g _ _ _ _ _ w)) (fun w => (eq_Itm _ _ _ _ _ _ _ _ _ _ w).2)) ?_
                      refine zts _ rfl (opD_or (ls rfl (ls rfl (ls rfl (ls rfl (ls rfl (ls rfl lz)))))) lz) ?_
                      refine .nil ?_
                      refine aw_keep [(1, _), (5, _), (7, _), (9, _), (10, _), (11, _), (12, _), (123, _)] ⟨lg (ls rfl (ls rfl (ls rfl (ls rfl (ls rfl (ls rfl (ls rfl (ls rfl (ls rfl (ls rfl (ls rfl (ls rfl (ls rfl (ls rfl (ls rfl (ls rfl (ls rfl (ls rfl (ls rfl (ls rfl (ls rfl oz))))))))))))))))))))), lg (ls rfl (ls rfl (ls rfl (ls rfl (ls rfl (ls rfl (ls rfl (ls rfl (ls rfl (ls rfl (ls rfl (ls rfl (ls rfl (ls rfl (ls rfl (ls rfl (ls rfl (ls rfl (ls rfl (ls rfl (ls rfl (os rfl oz)))))))))))))))))))))), lg (ls rfl (ls rfl (ls rfl (ls rfl (ls rfl (ls rfl (ls rfl (ls rfl (ls rfl (ls rfl (ls rfl (ls rfl (ls rfl (ls rfl (ls rfl (ls rfl (ls rfl (ls rfl (ls rfl (ls rfl (ls rfl (os rfl (os rfl oz))))))))))))))))))))))), lg (ls rfl (ls rfl (ls rfl (ls rfl (ls rfl (ls rfl (ls rfl (ls rfl (ls rfl (ls rfl (ls rfl (ls rfl (ls rfl (ls rfl (ls rfl (ls rfl (ls rfl (ls rfl (ls rfl (ls rfl (ls rfl (os rfl (os rfl (os rfl oz)))))))))))))))))))))))), lg (ls rfl (ls rfl (ls rfl (ls rfl (ls rfl (ls rfl (ls rfl (ls rfl (ls rfl (ls rfl (ls rfl (ls rfl (ls rfl (ls rfl (ls rfl (ls rfl (ls rfl (ls rfl (ls rfl (ls rfl (ls rfl (os rfl (os rfl (os rfl (os rfl oz))))))))))))))))))))))))), lg (ls rfl (ls rfl (ls rfl (ls rfl (ls rfl (ls rfl (ls rfl (ls rfl (ls rfl (ls rfl (ls rfl (ls rfl (ls rfl (ls rfl (ls rfl (ls rfl (ls rfl (ls rfl (ls rfl (ls rfl (ls rfl (os rfl (os rfl (os rfl (os rfl (os rfl oz)))))))))))))))))))))))))), lg (ls rfl (ls rfl (ls rfl (ls rfl (ls rfl (ls rfl (ls rfl (ls rfl (ls rfl (ls rfl (ls rfl (ls rfl (ls rfl (ls rfl (ls rfl (ls rfl (ls rfl (ls rfl (ls rfl (ls rfl (ls rfl (os rfl (os rfl (os rfl (os rfl (os rfl (os rfl oz))))))))))))))))))))))))))), lg lz, trivial⟩ ?_
                      refine aw_cond _ (os rfl (os rfl (os rfl (os rfl (os rfl (os rfl (os rfl oz))))))) (fun hc => ?_) (fun hc => ?_)
                      · skip
                        replace hz_20 := ifb_t hz_20 hc
                        clear hc
                        refine aw_seq ?_
                        refine aw_region (by decide) ?_
                        refine rts _ rfl (opD_assign (ev_const _ _)) ?_
                        refine .nil ?_
                        refine aw_keep [(4, _)] ⟨lg lz, trivial⟩ ?_
                        refine aw_ret ?_
                        obtain rfl := some_of hz_20
                        replace hz_18 := ocs_l hz_18
                        obtain rfl := some_of hz_18
                        replace hz_16 := ocs_r hz_16
                        obtain rfl := some_of hz_16
                        replace hz_14 := ocs_l hz_14
                        obtain rfl := some_of hz_14
                        replace hz_13 := ocs_l hz_13
                        obtain rfl := some_of hz_13
                        replace hz_11 := ocs_r hz_11
                        obtain rfl := some_of hz_11
                        replace h0 := ocs_l h0
                        refine wk_no ?_
                        refine wk_no ?_
                        refine wk_no ?_
                        refine wk_no ?_
                        refine wk_no ?_
                        refine wk_no ?_
                        obtain rfl := some_of h0
                        exact done_ext (.inr rfl) ((res_one rfl (it_tmp oz)).le (Pd.le_refl _)) (pl_bnd _ _ _)
                      · skip
                        replace hz_20 := ifb_f hz_20 hc
                        clear hc
                        refine aw_skip ?_
                        refine aw_keep [(1, _), (5, _), (7, _), (9, _), (10, _), (11, _), (12, _)] ⟨lg oz, lg (os rfl oz), lg (os rfl (os rfl oz)), lg (os rfl (os rfl (os rfl oz))), lg (os rfl (os rfl (os rfl (os rfl oz)))), lg (os rfl (os rfl (os rfl (os rfl (os rfl oz))))), lg (os rfl (os rfl (os rfl (os rfl (os rfl (os rfl oz)))))), trivial⟩ ?_
                        refine aw_region (by decide) ?_
                        refine rts _ rfl (opD_move (os rfl (os rfl (os rfl (os rfl (os rfl oz)))))) ?_
                        refine rts _ rfl (opD_add lz (ev_const _ _) rfl) ?_
                        refine rts _ rfl (opD_assign lz) ?_
                        refine .nil ?_
                        refine wk_yesN rfl (l := [(1, pl (.int .u64 p1)), (5, ptr (s.boxes.length + 2) 0), (7, ptr (s.boxes.length + 3) 0), (9, pl (.int .i64 t_12.1)), (10, sl kItm none none x_15), (11, pl (.int .i64 (IntKind.i64.wrap (t_17.1 + 1)))), (12, pl (.int .i64 t_17.2.1))]) (bs' := [⟨HOT, [mp K1 t_17.2.2]⟩, ⟨HOT, [mp K2 t_12.2.2]⟩, ⟨201, [mref (s.boxes.length + 0), mref (s.boxes.length + 1)]⟩, ⟨160, (flat (kR kItm) vz_6)⟩]) ⟨le_of_eq (eg (ls rfl (ls rfl (ls rfl oz)))), le_of_eq (eg (ls rfl (ls rfl (ls rfl (os rfl oz))))), le_of_eq (eg (ls rfl (ls rfl (ls rfl (os rfl (os rfl oz)))))), le_of_eq (eg (ls rfl (ls rfl (ls rfl (os rfl (os rfl (os rfl oz))))))), le_of_eq (eg (ls rfl (ls rfl (ls rfl (os rfl (os rfl (os rfl (os rfl oz)))))))), le_of_eq (eg lz), le_of_eq (eg (ls rfl (ls rfl (ls rfl (os rfl (os rfl (os rfl (os rfl (os rfl (os rfl oz)))))))))), trivial⟩ (bnd_cons (pl_bnd _ _ _) (bnd_cons (ptr_bnd _ (by first | omega | (simp only [List.length_append, List.length_cons, List.length_nil]; omega))) (bnd_cons (ptr_bnd _ (by first | omega | (simp only [List.length_append, List.length_cons, List.length_nil]; omega))) (bnd_cons (pl_bnd _ _ _) (bnd_cons (sl_b kb_Itm) (bnd_cons (pl_bnd _ _ _) (bnd_cons (pl_bnd _ _ _) bnd_nil))))))) (Nat.le_of_ble_eq_true rfl) (by simp only [na, nb, nc, nd, nf, ng, nh, ni, nj, nk] <;> rfl) (bxle_same (bxle_same (bxle_same (bxle_same bxle_nil)))) rfl (by simp only [na, nb, nc, nd, nf, ng, nh, ni, nj, nk] <;> rfl) (bl_cons (bnd_cons (mp_bnd _ _ _ _) bnd_nil) (bl_cons (bnd_cons (mp_bnd _ _ _ _) bnd_nil) (bl_cons (bnd_cons (mref_bnd _ (by first | omega | (simp only [List.length_append, List.length_cons, List.length_nil]; omega))) (bnd_cons (mref_bnd _ (by first | omega | (simp only [List.length_append, List.length_cons, List.length_nil]; omega))) bnd_nil)) (bl_cons (flatKB (kb_R kb_Itm)) bl_nil)))) ?_
                        exact ⟨(IntKind.i64.wrap (t_17.1 + 1), t_17.2.2), ⟨le_of_eq (eg oz), le_of_eq (eg (os rfl oz)), le_of_eq (eg (os rfl (os rfl oz))), le_of_eq (eg (os rfl (os rfl (os rfl oz)))), le_of_eq (eg (os rfl (os rfl (os rfl (os rfl oz))))), le_of_eq (eg (os rfl (os rfl (os rfl (os rfl (os rfl oz)))))), le_of_eq (eg (os rfl (os rfl (os rfl (os rfl (os rfl (os rfl oz))))))), trivial⟩, rfl, some_of hz_20⟩
                  · rintro e st ⟨vz_20, hH, rfl, rfl⟩
                    refine aw_keep _ hH ?_
                    replace hz_18 := ocs_r hz_18
                    refine aw_keep [(1, _), (5, _), (7, _), (9, _), (10, _), (11, _), (12, _)] ⟨lg oz, lg (os rfl oz), lg (os rfl (os rfl oz)), lg (os rfl (os rfl (os rfl oz))), lg (os rfl (os rfl (os rfl (os rfl oz)))), lg (os rfl (os rfl (os rfl (os rfl (os rfl oz))))), lg (os rfl (os rfl (os rfl (os rfl (os rfl (os rfl oz)))))), trivial⟩ ?_
                    refine aw_region (by decide) ?_
                    refine rts _ rfl (opD_move (os rfl (os rfl (os rfl (os rfl (os rfl (os rfl oz))))))) ?_
                    refine rts _ rfl (opD_add lz (ev_const _ _) rfl) ?_
                    refine rts _ rfl (opD_assign lz) ?_
                    refine .nil ?_
                    obtain rfl := some_of hz_18
                    replace hz_16 := ocs_l hz_16
                    refine wk_yesN rfl (l := [(1, pl (.int .u64 p1)), (5, ptr (s.boxes.length + 2) 0), (7, ptr (s.boxes.length + 3) 0), (9, pl (.int .i64 t_12.1)), (10, sl kItm none none x_15), (11, pl (.int .i64 vz_20.1)), (12, pl (.int .i64 (IntKind.i64.wrap (t_17.2.1 + 1))))]) (bs' := [⟨HOT, [mp K1 vz_20.2]⟩, ⟨HOT, [mp K2 t_12.2.2]⟩, ⟨201, [mref (s.boxes.length + 0), mref (s.boxes.length + 1)]⟩, ⟨160, (flat (kR kItm) vz_6)⟩]) ⟨le_of_eq (eg (ls rfl (ls rfl (ls rfl oz)))), le_of_eq (eg (ls rfl (ls rfl (ls rfl (os rfl oz))))), le_of_eq (eg (ls rfl (ls rfl (ls rfl (os rfl (os rfl oz)))))), le_of_eq (eg (ls rfl (ls rfl (ls rfl (os rfl (os rfl (os rfl oz))))))), le_of_eq (eg (ls rfl (ls rfl (ls rfl (os rfl (os rfl (os rfl (os rfl oz)))))))), le_of_eq (eg (ls rfl (ls rfl (ls rfl (os rfl (os rfl (os rfl (os rfl (os rfl oz))))))))), le_of_eq (eg lz), trivial⟩ (bnd_cons (pl_bnd _ _ _) (bnd_cons (ptr_bnd _ (by first | omega | (simp only [List.length_append, List.length_cons, List.length_nil]; omega))) (bnd_cons (ptr_bnd _ (by first | omega | (simp only [List.length_append, List.length_cons, List.length_nil]; omega))) (bnd_cons (pl_bnd _ _ _) (bnd_cons (sl_b kb_Itm) (bnd_cons (pl_bnd _ _ _) (bnd_cons (pl_bnd _ _ _) bnd_nil))))))) (Nat.le_of_ble_eq_true rfl) (by simp only [na, nb, nc, nd, nf, ng, nh, ni, nj, nk] <;> rfl) (bxle_same (bxle_same (bxle_same (bxle_same bxle_nil)))) rfl (by simp only [na, nb, nc, nd, nf, ng, nh, ni, nj, nk] <;> rfl) (bl_cons (bnd_cons (mp_bnd _ _ _ _) bnd_nil) (bl_cons (bnd_cons (mp_bnd _ _ _ _) bnd_nil) (bl_cons (bnd_cons (mref_bnd _ (by first | omega | (simp only [List.length_append, List.length_cons, List.length_nil]; omega))) (bnd_cons (mref_bnd _ (by first | omega | (simp only [List.length_append, List.length_cons, List.length_nil]; omega))) bnd_nil)) (bl_cons (flatKB (kb_R kb_Itm)) bl_nil)))) ?_
                    exact ⟨m_z_18, Nat.lt_succ_self _, (vz_20.1, IntKind.i64.wrap (t_17.2.1 + 1), vz_20.2), ⟨le_of_eq (eg oz), le_of_eq (eg (os rfl oz)), le_of_eq (eg (os rfl (os rfl oz))), le_of_eq (eg (os rfl (os rfl (os rfl oz)))), le_of_eq (eg (os rfl (os rfl (os rfl (os rfl oz))))), le_of_eq (eg (os rfl (os rfl (os rfl (os rfl (os rfl oz)))))), le_of_eq (eg (os rfl (os rfl (os rfl (os rfl (os rfl (os rfl oz))))))), trivial⟩, rfl, hz_16⟩
                · skip
                  replace hz_18 := ifb_f hz_18 hc
                  clear hc
                  refine aw_exit ?_
                  obtain rfl := some_of hz_18
                  replace hz_16 := ocs_r hz_16
                  refine wk_no ?_
                  refine wk_yesN rfl (l := [(1, pl (.int .u64 p1)), (5, ptr (s.boxes.length + 2) 0), (7, ptr (s.boxes.length + 3) 0), (9, pl (.int .i64 t_12.1)), (10, sl kItm none none x_15), (11, pl (.int .i64 t_17.1))]) (bs' := [⟨HOT, [mp K1 t_17.2.2]⟩, ⟨HOT, [mp K2 t_12.2.2]⟩, ⟨201, [mref (s.boxes.length + 0), mref (s.boxes.length + 1)]⟩, ⟨160, (flat (kR kItm) vz_6)⟩]) ⟨le_of_eq (eg oz), le_of_eq (eg (os rfl oz)), le_of_eq (eg (os rfl (os rfl oz))), le_of_eq (eg (os rfl (os rfl (os rfl oz)))), le_of_eq (eg (os rfl (os rfl (os rfl (os rfl oz))))), le_of_eq (eg (os rfl (os rfl (os rfl (os rfl (os rfl oz)))))), trivial⟩ (bnd_cons (pl_bnd _ _ _) (bnd_cons (ptr_bnd _ (by first | omega | (simp only [List.length_append, List.length_cons, List.length_nil]; omega))) (bnd_cons (ptr_bnd _ (by first | omega | (simp only [List.length_append, List.length_cons, List.length_nil]; omega))) (bnd_cons (pl_bnd _ _ _) (bnd_cons (sl_b kb_Itm) (bnd_cons (pl_bnd _ _ _) bnd_nil)))))) (Nat.le_of_ble_eq_true rfl) (by simp only [na, nb, nc, nd, nf, ng, nh, ni, nj, nk] <;> rfl) (bxle_same (bxle_same (bxle_same (bxle_same bxle_nil)))) rfl (by simp only [na, nb, nc, nd, nf, ng, nh, ni, nj, nk] <;> rfl) (bl_cons (bnd_cons (mp_bnd _ _ _ _) bnd_nil) (bl_cons (bnd_cons (mp_bnd _ _ _ _) bnd_nil) (bl_cons (bnd_cons (mref_bnd _ (by first | omega | (simp only [List.length_append, List.length_cons, List.length_nil]; omega))) (bnd_cons (mref_bnd _ (by first | omega | (simp only [List.length_append, List.length_cons, List.length_nil]; omega))) bnd_nil)) (bl_cons (flatKB (kb_R kb_Itm)) bl_nil)))) ?_
                  exact ⟨(t_17.1, t_17.2.2), ⟨le_of_eq (eg oz), le_of_eq (eg (os rfl oz)), le_of_eq (eg (os rfl (os rfl oz))), le_of_eq (eg (os rfl (os rfl (os rfl oz)))), le_of_eq (eg (os rfl (os rfl (os rfl (os rfl oz))))), le_of_eq (eg (os rfl (os rfl (os rfl (os rfl (os rfl oz)))))), trivial⟩, rfl, some_of hz_16⟩
              · rintro e st ⟨vz_16, hH, rfl, rfl⟩
                refine aw_keep _ hH ?_
                replace hz_14 := ocs_r hz_14
                refine aw_keep [(1, _), (5, _), (7, _), (9, _), (10, _), (11, _)] ⟨lg oz, lg (os rfl oz), lg (os rfl (os rfl oz)), lg (os rfl (os rfl (os rfl oz))), lg (os rfl (os rfl (os rfl (os rfl oz)))), lg (os rfl (os rfl (os rfl (os rfl (os rfl oz))))), trivial⟩ ?_
                refine aw_seq ?_
                refine aw_seq ?_
                refine aw_region (by decide) ?_
                refine rts _ rfl (opD_move (os rfl (os rfl (os rfl (os rfl (os rfl oz)))))) ?_
                refine rts _ rfl (opD_move (ls rfl (os rfl (os rfl (os rfl (os rfl oz)))))) ?_
                refine rts _ rfl (opD_len_sl Go.Proofs.Tryd.underlying141 lz) ?_
                refine rts _ rfl (opD_neq (ls rfl (ls rfl lz)) lz) ?_
                refine .nil ?_
                refine aw_keep [(1, _), (5, _), (7, _), (9, _), (10, _), (11, _), (129, _)] ⟨lg (ls rfl (ls rfl (ls rfl (ls rfl oz)))), lg (ls rfl (ls rfl (ls rfl (ls rfl (os rfl oz))))), lg (ls rfl (ls rfl (ls rfl (ls rfl (os rfl (os rfl oz)))))), lg (ls rfl (ls rfl (ls rfl (ls rfl (os rfl (os rfl (os rfl oz))))))), lg (ls rfl (ls rfl (ls rfl (ls rfl (os rfl (os rfl (os rfl (os rfl oz)))))))), lg (ls rfl (ls rfl (ls rfl (ls rfl (os rfl (os rfl (os rfl (os rfl (os rfl oz))))))))), lg lz, trivial⟩ ?_
                refine aw_cond _ (os rfl (os rfl (os rfl (os rfl (os rfl (os rfl oz)))))) (fun hc => ?_) (fun hc => ?_)
                · skip
                  replace hz_14 := ifb_t hz_14 hc
                  clear hc
                  refine aw_seq ?_
                  refine aw_region (by decide) ?_
                  refine rts _ rfl (opD_assign (ev_const _ _)) ?_
                  refine .nil ?_
                  refine aw_keep [(4, _)] ⟨lg lz, trivial⟩ ?_
                  refine aw_ret ?_
                  obtain rfl := some_of hz_14
                  replace hz_13 := ocs_l hz_13
                  obtain rfl := some_of hz_13
                  replace hz_11 := ocs_r hz_11
                  obtain rfl := some_of hz_11
                  replace h0 := ocs_l h0
                  refine wk_no ?_
                  refine wk_no ?_
                  refine wk_no ?_
                  obtain rfl := some_of h0
                  exact done_ext (.inr rfl) ((res_one rfl (it_tmp oz)).le (Pd.le_refl _)) (pl_bnd _ _ _)
                · skip
                  replace hz_14 := ifb_f hz_14 hc
                  clear hc
                  refine aw_skip ?_
                  refine aw_keep [(1, _), (5, _), (7, _), (9, _), (10, _), (11, _)] ⟨lg oz, lg (os rfl oz), lg (os rfl (os rfl oz)), lg (os rfl (os rfl (os rfl oz))), lg (os rfl (os rfl (os rfl (os rfl oz)))), lg (os rfl (os rfl (os rfl (os rfl (os rfl oz))))), trivial⟩ ?_
                  refine aw_seq ?_
                  refine aw_region (by decide) ?_
                  refine rts _ rfl (opD_move (os rfl (os rfl (os rfl (os rfl (os rfl oz)))))) ?_
                  refine rts _ rfl (opD_gtr lz (ev_const _ _)) ?_
                  refine .nil ?_
                  refine aw_keep [(1, _), (5, _), (7, _), (9, _), (10, _), (131, _)] ⟨lg (ls rfl (ls rfl oz)), lg (ls rfl (ls rfl (os rfl oz))), lg (ls rfl (ls rfl (os rfl (os rfl oz)))), lg (ls rfl (ls rfl (os rfl (os rfl (os rfl oz))))), lg (ls rfl (ls rfl (os rfl (os rfl (os rfl (os rfl oz)))))), lg lz, trivial⟩ ?_
                  refine aw_cond _ (os rfl (os rfl (os rfl (os rfl (os rfl oz))))) (fun hc => ?_) (fun hc => ?_)
                  · skip
                    replace hz_14 := ifb_t hz_14 hc
                    clear hc
                    refine aw_seq ?_
                    refine aw_region (by decide) ?_
                    refine rts _ rfl (opD_move (os rfl oz)) ?_
                    refine rts _ rfl (opD_move (ls rfl (os rfl (os rfl (os rfl oz))))) ?_
                    refine rts _ rfl (opD_conv_int Go.Proofs.Tryd.underlying3 Go.Proofs.Tryd.underlying22 lz rfl) ?_
                    refine rts _ rfl (opD_move (ls rfl (ls rfl (ls rfl (os rfl (os rfl (os rfl (os rfl oz)))))))) ?_
                    replace hz_14 := ixb_some hz_14
                    obtain ⟨x_27, hx_27, hbx_27, hz_14⟩ := hz_14
                    refine rts _ rfl (opD_indexAddr_sl (i := (0 : Int).toNat) Go.Proofs.Tryd.underlying141 sz137_u12b lz (ev_const _ _) hbx_27.2.2 hbx_27.2.1) ?_
                    refine rts _ rfl (opD_fieldAddr_el fo137_1_u12b lz) ?_
                    refine rts _ rfl (opD_load_el_one ag22_u12b lz hx_27 rfl) ?_
                    replace hz_14 := bnd_some hz_14
                    obtain ⟨x_28, hx_28, hz_14⟩ := hz_14
                    refine rts _ rfl (callTU (T := TBx) rfl 0 ht77_u12b (fun s g1 g2 gT h12 h1 h2 hT => ct_drop (p0 := ⟨vz_16.2, t_12.2.2⟩) hx_28 h1 h2 hT) rfl rfl rfl ⟨le_of_eq (ls rfl (ls rfl (ls rfl (ls rfl (ls rfl (ls rfl lz)))))), le_of_eq (ls rfl (ls rfl (ls rfl (ls rfl lz)))), le_of_eq lz, trivial⟩ (by simp only [na, nb, nc, nd, nf, ng, nh, ni, nj, nk] <;> rfl)) ?_
                    refine rts _ rfl (opD_assign lz) ?_
                    refine .nil ?_
                    refine aw_keep [(1, _), (5, _), (7, _), (9, _), (10, _), (16, _)] ⟨lg (ls rfl (ls rfl (ls rfl (ls rfl (ls rfl (ls rfl (ls rfl (ls rfl (ls rfl oz))))))))), lg (ls rfl (ls rfl (ls rfl (ls rfl (ls rfl (ls rfl (ls rfl (ls rfl (ls rfl (os rfl oz)))))))))), lg (ls rfl (ls rfl (ls rfl (ls rfl (ls rfl (ls rfl (ls rfl (ls rfl (ls rfl (os rfl (os rfl oz))))))))))), lg (ls rfl (ls rfl (ls rfl (ls rfl (ls rfl (ls rfl (ls rfl (ls rfl (ls rfl (os rfl (os rfl (os rfl oz)))))))))))), lg (ls rfl (ls rfl (ls rfl (ls rfl (ls rfl (ls rfl (ls rfl (ls rfl (ls rfl (os rfl (os rfl (os rfl (os rfl oz))))))))))))), lg lz, trivial⟩ ?_
                    refine aw_seq ?_
                    refine aw_region (by decide) ?_
                    refine rts _ rfl (opD_move (os rfl oz)) ?_
                    refine rts _ rfl (opD_move (ls rfl (os rfl (os rfl (os rfl oz))))) ?_
                    refine rts _ rfl (opD_conv_int Go.Proofs.Tryd.underlying3 Go.Proofs.Tryd.underlying22 lz rfl) ?_
                    refine rts _ rfl (opD_move (ls rfl (ls rfl (ls rfl (os rfl (os rfl (os rfl (os rfl oz)))))))) ?_
                    replace hz_14 := ixb_some hz_14
                    obtain ⟨x_29, hx_29, hbx_29, hz_14⟩ := hz_14
                    refine rts _ rfl (opD_indexAddr_sl (i := (0 : Int).toNat) Go.Proofs.Tryd.underlying141 sz137_u12b lz (ev_const _ _) hbx_29.2.2 hbx_29.2.1) ?_
                    refine rts _ rfl (opD_fieldAddr_el fo137_1_u12b lz) ?_
                    refine rts _ rfl (opD_load_el_one ag22_u12b lz hx_29 rfl) ?_
                    replace hz_14 := bnd_some hz_14
                    obtain ⟨x_30, hx_30, hz_14⟩ := hz_14
                    refine rts _ rfl (callT (T := TBx) rfl 0 ht75_u12b (fun s g1 g2 gT h12 h1 h2 hT => ct_get (p0 := ⟨x_28.2, t_12.2.2⟩) hx_30 h1 h2 hT) rfl rfl rfl ⟨le_of_eq (ls rfl (ls rfl (ls rfl (ls rfl (ls rfl (ls rfl lz)))))), le_of_eq (ls rfl (ls rfl (ls rfl (ls rfl lz)))), le_of_eq lz, trivial⟩) ?_
                    refine rts _ rfl (opD_move lz) ?_
                    refine rts _ rfl (opD_extract lz rfl) ?_
                    refine rts _ rfl (opD_extract (ls rfl lz) rfl) ?_
                    refine rts _ rfl (allocN rfl zt137_u12b (by first | exact List.length_nil | (simp only [List.length_cons, List.length_nil, Nat.zero_add, Nat.reduceAdd] <;> rfl)) (by simp only [na, nb, nc, nd, nf, ng, nh, ni, nj, nk] <;> rfl)) ?_
                    refine rts _ rfl (storeAN rfl sz137_u12b lz (ls rfl (ls rfl lz)) (ones_cons (one_pl rfl) (ones_cons (one_pl rfl) (ones_cons (one_pl rfl) (ones_cons (one_pl rfl) (ones_cons (one_pl rfl) ones_nil))))) rfl rfl (Nat.le_of_ble_eq_true rfl) (List.cons_ne_nil _ _) (bnd_cons (pl_bnd _ _ _) (bnd_cons (pl_bnd _ _ _) (bnd_cons (pl_bnd _ _ _) (bnd_cons (pl_bnd _ _ _) (bnd_cons (pl_bnd _ _ _) bnd_nil))))) (by simp only [na, nb, nc, nd, nf, ng, nh, ni, nj, nk] <;> rfl) (by simp only [na, nb, nc, nd, nf, ng, nh, ni, nj, nk] <;> rfl)) ?_
                    refine rts _ rfl (opD_assign (lx (ls rfl lz))) ?_
                    refine .nil ?_
                    refine aw_keep [(1, _), (5, _), (7, _), (9, _), (10, _), (16, _), (18, _)] ⟨lg (ls rfl (lx (ls rfl (ls rfl (ls rfl (ls rfl (ls rfl (ls rfl (ls rfl (ls rfl (ls rfl (ls rfl (ls rfl (ls rfl oz)))))))))))))), lg (ls rfl (lx (ls rfl (ls rfl (ls rfl (ls rfl (ls rfl (ls rfl (ls rfl (ls rfl (ls rfl (ls rfl (ls rfl (ls rfl (os rfl oz))))))))))))))), lg (ls rfl (lx (ls rfl (ls rfl (ls rfl (ls rfl (ls rfl (ls rfl (ls rfl (ls rfl (ls rfl (ls rfl (ls rfl (ls rfl (os rfl (os rfl oz)))))))))))))))), lg (ls rfl (lx (ls rfl (ls rfl (ls rfl (ls rfl (ls rfl (ls rfl (ls rfl (ls rfl (ls rfl (ls rfl (ls rfl (ls rfl (os rfl (os rfl (os rfl oz))))))))))))))))), lg (ls rfl (lx (ls rfl (ls rfl (ls rfl (ls rfl (ls rfl (ls rfl (ls rfl (ls rfl (ls rfl (ls rfl (ls rfl (ls rfl (os rfl (os rfl (os rfl (os rfl oz)))))))))))))))))), lg (ls rfl (lx (ls rfl (ls rfl (ls rfl (ls rfl (ls rfl (ls rfl (ls rfl (ls rfl (ls rfl (ls rfl (ls rfl (ls rfl (os rfl (os rfl (os rfl (os rfl (os rfl oz))))))))))))))))))), lg lz, trivial⟩ ?_
                    refine aw_seq ?_
                    refine aw_region (by decide) ?_
                    refine rts _ rfl (opD_move (os rfl oz)) ?_
                    refine rts _ rfl (opD_move (ls rfl (os rfl (os rfl (os rfl oz))))) ?_
                    refine rts _ rfl (opD_conv_int Go.Proofs.Tryd.underlying3 Go.Proofs.Tryd.underlying22 lz rfl) ?_
                    refine rts _ rfl (opD_build_struct (rs := [_, _, _, _, _]) Go.Proofs.Tryd.underlying137 pt137_u12b zt137_u12b (parts_cons (cells1 lz (one_pl rfl)) parts_nil) rfl) ?_
                    replace hz_14 := bnd_some hz_14
                    obtain ⟨x_31, hx_31, hz_14⟩ := hz_14
                    refine rts _ rfl (callTU (T := TBx) rfl 0 ht74_u12b (fun s g1 g2 gT h12 h1 h2 hT => ct_give hx_31 h12 h1 h2 hT) rfl rfl rfl ⟨le_of_eq (ls rfl (ls rfl (ls rfl lz))), (le_of_eq lz).trans (agg_le ⟨(Pd.le_refl _), (Pd.le_refl _), (Pd.le_refl _), (Pd.le_refl _), (Pd.le_refl _), trivial⟩), trivial⟩ (by simp only [na, nb, nc, nd, nf, ng, nh, ni, nj, nk] <;> rfl)) ?_
                    refine rts _ rfl (opD_move lz) ?_
                    refine rts _ rfl (opD_extract lz rfl) ?_
                    refine rts _ rfl (opD_extract (ls rfl lz) rfl) ?_
                    refine rts _ rfl (opD_assign (ls rfl lz)) ?_
                    refine rts _ rfl (opD_assign (ls rfl lz)) ?_
                    refine .nil ?_
                    refine aw_keep [(1, _), (5, _), (7, _), (9, _), (10, _), (16, _), (18, _), (19, _), (20, _)] ⟨lg (ls rfl (ls rfl (ls rfl (ls rfl (ls rfl (ls rfl (ls rfl (ls rfl (ls rfl (ls rfl oz)))))))))), lg (ls rfl (ls rfl (ls rfl (ls rfl (ls rfl (ls rfl (ls rfl (ls rfl (ls rfl (ls rfl (os rfl oz))))))))))), lg (ls rfl (ls rfl (ls rfl (ls rfl (ls rfl (ls rfl (ls rfl (ls rfl (ls rfl (ls rfl (os rfl (os rfl oz)))))))))))), lg (ls rfl (ls rfl (ls rfl (ls rfl (ls rfl (ls rfl (ls rfl (ls rfl (ls rfl (ls rfl (os rfl (os rfl (os rfl oz))))))))))))), lg (ls rfl (ls rfl (ls rfl (ls rfl (ls rfl (ls rfl (ls rfl (ls rfl (ls rfl (ls rfl (os rfl (os rfl (os rfl (os rfl oz)))))))))))))), lg (ls rfl (ls rfl (ls rfl (ls rfl (ls rfl (ls rfl (ls rfl (ls rfl (ls rfl (ls rfl (os rfl (os rfl (os rfl (os rfl (os rfl oz))))))))))))))), lg (ls rfl (ls rfl (ls rfl (ls rfl (ls rfl (ls rfl (ls rfl (ls rfl (ls rfl (ls rfl (os rfl (os rfl (os rfl (os rfl (os rfl (os rfl oz)))))))))))))))), lg (ls rfl lz), lg lz, trivial⟩ ?_
                    refine aw_seq ?_
                    refine aw_region (by decide) ?_
                    refine rts _ rfl (opD_move (os rfl (os rfl (os rfl (os rfl (os rfl oz)))))) ?_
                    refine rts _ rfl (opD_bin lz (ev_const _ _) (fun w => errV_guard _ w _) (fun w => errV_beq _ w)) ?_
                    refine rts _ rfl (opD_move lz) ?_
                    refine rtg _ rfl lz (fun hg36_3_1991 => opD_move (ls rfl (ls rfl (ls rfl (os rfl (os rfl (os rfl (os rfl (os rfl (os rfl oz)))))))))) ?_
                    replace hz_14 := bnd_some hz_14
                    obtain ⟨x_32, hx_32, hz_14⟩ := hz_14
                    refine rtg _ rfl (ls rfl lz) (fun hg36_4_1992 => opD_call ht76_u12b (c_num34 (gif_some hx_32 hg36_4_1992) hst) ⟨le_of_eq (lz.trans (pif_pos hg36_4_1992)), trivial⟩) ?_
                    refine rtg _ rfl (ls rfl (ls rfl lz)) (fun hg36_5_1993 => opD_neq (lz.trans (pif_pos hg36_5_1993)) (ev_const _ _)) ?_
                    refine rts _ rfl (opD_or (ls rfl (ls rfl (ls rfl lz))) lz) ?_
                    refine rts _ rfl (opD_move lz) ?_
                    refine rtg _ rfl lz (fun hg36_8_1994 => opD_move (ls rfl (ls rfl (ls rfl (ls rfl (ls rfl (ls rfl (ls rfl (ls rfl (os rfl (os rfl (os rfl (os rfl (os rfl (os rfl (os rfl (os rfl oz))))))))))))))))) ?_
                    refine rtg _ rfl (ls rfl lz) (fun hg36_9_1995 => opD_bin (lz.trans (pif_pos hg36_9_1995)) (ev_const _ _) (fun w => errV_guard _ w _) (fun w => errV_beq _ w)) ?_
                    refine rts _ rfl (opD_or (ls rfl (ls rfl lz)) lz) ?_
                    refine rts _ rfl (opD_move lz) ?_
                    refine rtg _ rfl lz (fun hg36_12_1996 => opD_move (ls rfl (ls rfl (ls rfl (ls rfl (ls rfl (ls rfl (ls rfl (ls rfl (ls rfl (ls rfl (ls rfl (ls rfl (os rfl (os rfl (os rfl (os rfl (os rfl (os rfl (os rfl oz)))))))))))))))))))) ?_
                    refine rtg _ rfl (ls rfl lz) (fun hg36_13_1997 => opD_move (ls rfl (ls rfl (ls rfl (ls rfl (ls rfl (ls rfl (ls rfl (ls rfl (ls rfl (ls rfl (ls rfl (ls rfl (ls rfl (os rfl (os rfl (os rfl (os rfl oz)))))))))))))))))) ?_
                    replace hz_14 := grd_some hz_14
                    obtain ⟨hg_1999, hz_14⟩ := hz_14
                    refine rtg _ rfl (ls rfl (ls rfl lz)) (fun hg36_14_1998 => opD_indexAddr_sl (i := (0 : Int).toNat) Go.Proofs.Tryd.underlying141 sz137_u12b (lz.trans (pif_pos hg36_14_1998)) (ev_const _ _) (hg_1999 hg36_14_1998).eq (hg_1999 hg36_14_1998).2) ?_
                    refine rtg _ rfl (ls rfl (ls rfl (ls rfl lz))) (fun hg36_15_2000 => opD_fieldAddr_el fo137_1_u12b (lz.trans (pif_pos hg36_15_2000))) ?_
                    refine rtg _ rfl (ls rfl (ls rfl (ls rfl (ls rfl lz)))) (fun hg36_16_2001 => opD_load_el_one ag22_u12b (lz.trans (pif_pos hg36_16_2001)) (at_getD default (hg_1999 hg36_16_2001).2) rfl) ?_
                    refine rtg _ rfl (ls rfl (ls rfl (ls rfl (ls rfl (ls rfl lz))))) (fun hg36_17_2002 => opD_eql ((ls rfl (ls rfl (ls rfl (ls rfl lz)))).trans (pif_pos hg36_17_2002)) (lz.trans (pif_pos hg36_17_2002))) ?_
                    refine rts _ rfl (opD_or (ls rfl (ls rfl (ls rfl (ls rfl (ls rfl (ls rfl lz)))))) lz) ?_
                    refine .nil ?_
                    refine aw_keep [(1, _), (5, _), (7, _), (9, _), (177, _)] ⟨lg (ls rfl (ls rfl (ls rfl (ls rfl (ls rfl (ls rfl (ls rfl (ls rfl (ls rfl (ls rfl (ls rfl (ls rfl (ls rfl (ls rfl (ls rfl (ls rfl (ls rfl (ls rfl (ls rfl oz))))))))))))))))))), lg (ls rfl (ls rfl (ls rfl (ls rfl (ls rfl (ls rfl (ls rfl (ls rfl (ls rfl (ls rfl (ls rfl (ls rfl (ls rfl (ls rfl (ls rfl (ls rfl (ls rfl (ls rfl (ls rfl (os rfl oz)))))))))))))))))))), lg (ls rfl (ls rfl (ls rfl (ls rfl (ls rfl (ls rfl (ls rfl (ls rfl (ls rfl (ls rfl (ls rfl (ls rfl (ls rfl (ls rfl (ls rfl (ls rfl (ls rfl (ls rfl (ls rfl (os rfl (os rfl oz))))))))))))))))))))), lg (ls rfl (ls rfl (ls rfl (ls rfl (ls rfl (ls rfl (ls rfl (ls rfl (ls rfl (ls rfl (ls rfl (ls rfl (ls rfl (ls rfl (ls rfl (ls rfl (ls rfl (ls rfl (ls rfl (os rfl (os rfl (os rfl oz)))))))))))))))))))))), lg lz, trivial⟩ ?_
                    refine aw_cond _ (os rfl (os rfl (os rfl (os rfl oz)))) (fun hc => ?_) (fun hc => ?_)
                    · skip
                      replace hz_14 := ifb_t hz_14 hc
                      clear hc
                      refine aw_seq ?_
                      refine aw_region (by decide) ?_
                      refine rts _ rfl (opD_assign (ev_const _ _)) ?_
                      refine .nil ?_
                      refine aw_keep [(4, _)] ⟨lg lz, trivial⟩ ?_
                      refine aw_ret ?_
                      obtain rfl := some_of hz_14
                      replace hz_13 := ocs_l hz_13
                      obtain rfl := some_of hz_13
                      replace hz_11 := ocs_r hz_11
                      obtain rfl := some_of hz_11
                      replace h0 := ocs_l h0
                      refine wk_no ?_
                      refine wk_no ?_
                      refine wk_no ?_
                      obtain rfl := some_of h0
                      exact done_ext (.inr rfl) ((res_one rfl (it_tmp oz)).le (Pd.le_refl _)) (pl_bnd _ _ _)
                    · skip
                      replace hz_14 := ifb_f hz_14 hc
                      clear hc
                      refine aw_skip ?_
                      refine wk_yesN rfl (l := [(1, pl (.int .u64 p1)), (5, ptr (s.boxes.length + 2) 0), (7, ptr (s.boxes.length + 3) 0), (9, pl (.int .i64 t_12.1))]) (bs' := [⟨HOT, [mp K1 x_31.2.2.H]⟩, ⟨HOT, [mp K2 x_31.2.2.N]⟩, ⟨201, [mref (s.boxes.length + 0), mref (s.boxes.length + 1)]⟩, ⟨160, (flat (kR kItm) vz_6)⟩]) ⟨le_of_eq (eg oz), le_of_eq (eg (os rfl oz)), le_of_eq (eg (os rfl (os rfl oz))), le_of_eq (eg (os rfl (os rfl (os rfl oz)))), trivial⟩ (bnd_cons (pl_bnd _ _ _) (bnd_cons (ptr_bnd _ (by first | omega | (simp only [List.length_append, List.length_cons, List.length_nil]; omega))) (bnd_cons (ptr_bnd _ (by first | omega | (simp only [List.length_append, List.length_cons, List.length_nil]; omega))) (bnd_cons (pl_bnd _ _ _) bnd_nil)))) (Nat.le_of_ble_eq_true rfl) (by simp only [na, nb, nc, nd, nf, ng, nh, ni, nj, nk] <;> rfl) (bxle_same (bxle_same (bxle_same (bxle_same bxle_nil)))) rfl (by simp only [na, nb, nc, nd, nf, ng, nh, ni, nj, nk] <;> rfl) (bl_cons (bnd_cons (mp_bnd _ _ _ _) bnd_nil) (bl_cons (bnd_cons (mp_bnd _ _ _ _) bnd_nil) (bl_cons (bnd_cons (mref_bnd _ (by first | omega | (simp only [List.length_append, List.length_cons, List.length_nil]; omega))) (bnd_cons (mref_bnd _ (by first | omega | (simp only [List.length_append, List.length_cons, List.length_nil]; omega))) bnd_nil)) (bl_cons (flatKB (kb_R kb_Itm)) bl_nil)))) ?_
                      exact ⟨(x_31.2.2.H, x_31.2.2.N), ⟨le_of_eq (eg oz), le_of_eq (eg (os rfl oz)), le_of_eq (eg (os rfl (os rfl oz))), le_of_eq (eg (os rfl (os rfl (os rfl oz)))), trivial⟩, rfl, some_of hz_14⟩
                  · skip
                    replace hz_14 := ifb_f hz_14 hc
                    clear hc
                    refine aw_skip ?_
                    refine wk_yesN rfl (l := [(1, pl (.int .u64 p1)), (5, ptr (s.boxes.length + 2) 0), (7, ptr (s.boxes.length + 3) 0), (9, pl (.int .i64 t_12.1))]) (bs' := [⟨HOT, [mp K1 vz_16.2]⟩, ⟨HOT, [mp K2 t_12.2.2]⟩, ⟨201, [mref (s.boxes.length + 0), mref (s.boxes.length + 1)]⟩, ⟨160, (flat (kR kItm) vz_6)⟩]) ⟨le_of_eq (eg oz), le_of_eq (eg (os rfl oz)), le_of_eq (eg (os rfl (os rfl oz))), le_of_eq (eg (os rfl (os rfl (os rfl oz)))), trivial⟩ (bnd_cons (pl_bnd _ _ _) (bnd_cons (ptr_bnd _ (by first | omega | (simp only [List.length_append, List.length_cons, List.length_nil]; omega))) (bnd_cons (ptr_bnd _ (by first | omega | (simp only [List.length_append, List.length_cons, List.length_nil]; omega))) (bnd_cons (pl_bnd _ _ _) bnd_nil)))) (Nat.le_of_ble_eq_true rfl) (by simp only [na, nb, nc, nd, nf, ng, nh, ni, nj, nk] <;> rfl) (bxle_same (bxle_same (bxle_same (bxle_same bxle_nil)))) rfl (by simp only [na, nb, nc, nd, nf, ng, nh, ni, nj, nk] <;> rfl) (bl_cons (bnd_cons (mp_bnd _ _ _ _) bnd_nil) (bl_cons (bnd_cons (mp_bnd _ _ _ _) bnd_nil) (bl_cons (bnd_cons (mref_bnd _ (by first | omega | (simp only [List.length_append, List.length_cons, List.length_nil]; omega))) (bnd_cons (mref_bnd _ (by first | omega | (simp only [List.length_append, List.length_cons, List.length_nil]; omega))) bnd_nil)) (bl_cons (flatKB (kb_R kb_Itm)) bl_nil)))) ?_
                    exact ⟨(vz_16.2, t_12.2.2), ⟨le_of_eq (eg oz), le_of_eq (eg (os rfl oz)), le_of_eq (eg (os rfl (os rfl oz))), le_of_eq (eg (os rfl (os rfl (os rfl oz)))), trivial⟩, rfl, some_of hz_14⟩
            · rintro e st ⟨vz_14, hH, rfl, rfl⟩
              refine aw_keep _ hH ?_
              replace hz_13 := ocs_r hz_13
              refine aw_keep [(1, _), (5, _), (7, _), (9, _)] ⟨lg oz, lg (os rfl oz), lg (os rfl (os rfl oz)), lg (os rfl (os rfl (os rfl oz))), trivial⟩ ?_
              refine aw_region (by decide) ?_
              refine rts _ rfl (opD_move (os rfl (os rfl (os rfl oz)))) ?_
              refine rts _ rfl (opD_add lz (ev_const _ _) rfl) ?_
              refine rts _ rfl (opD_assign lz) ?_
              refine .nil ?_
              obtain rfl := some_of hz_13
              replace hz_11 := ocs_l hz_11
              refine wk_yesN rfl (l := [(1, pl (.int .u64 p1)), (5, ptr (s.boxes.length + 2) 0), (7, ptr (s.boxes.length + 3) 0), (9, pl (.int .i64 (IntKind.i64.wrap (t_12.1 + 1))))]) (bs' := [⟨HOT, [mp K1 vz_14.1]⟩, ⟨HOT, [mp K2 vz_14.2]⟩, ⟨201, [mref (s.boxes.length + 0), mref (s.boxes.length + 1)]⟩, ⟨160, (flat (kR kItm) vz_6)⟩]) ⟨le_of_eq (eg (ls rfl (ls rfl (ls rfl oz)))), le_of_eq (eg (ls rfl (ls rfl (ls rfl (os rfl oz))))), le_of_eq (eg (ls rfl (ls rfl (ls rfl (os rfl (os rfl oz)))))), le_of_eq (eg lz), trivial⟩ (bnd_cons (pl_bnd _ _ _) (bnd_cons (ptr_bnd _ (by first | omega | (simp only [List.length_append, List.length_cons, List.length_nil]; omega))) (bnd_cons (ptr_bnd _ (by first | omega | (simp only [List.length_append, List.length_cons, List.length_nil]; omega))) (bnd_cons (pl_bnd _ _ _) bnd_nil)))) (Nat.le_of_ble_eq_true rfl) (by simp only [na, nb, nc, nd, nf, ng, nh, ni, nj, nk] <;> rfl) (bxle_same (bxle_same (bxle_same (bxle_same bxle_nil)))) rfl (by simp only [na, nb, nc, nd, nf, ng, nh, ni, nj, nk] <;> rfl) (bl_cons (bnd_cons (mp_bnd _ _ _ _) bnd_nil) (bl_cons (bnd_cons (mp_bnd _ _ _ _) bnd_nil) (bl_cons (bnd_cons (mref_bnd _ (by first | omega | (simp only [List.length_append, List.length_cons, List.length_nil]; omega))) (bnd_cons (mref_bnd _ (by first | omega | (simp only [List.length_append, List.length_cons, List.length_nil]; omega))) bnd_nil)) (bl_cons (flatKB (kb_R kb_Itm)) bl_nil)))) ?_
              exact ⟨m_z_13, Nat.lt_succ_self _, (IntKind.i64.wrap (t_12.1 + 1), vz_14.1, vz_14.2), ⟨le_of_eq (eg oz), le_of_eq (eg (os rfl oz)), le_of_eq (eg (os rfl (os rfl oz))), le_of_eq (eg (os rfl (os rfl (os rfl oz)))), trivial⟩, rfl, hz_11⟩
          · skip
            replace hz_13 := ifb_f hz_13 hc
            clear hc
            refine aw_exit ?_
            obtain rfl := some_of hz_13
            replace hz_11 := ocs_r hz_11
            refine wk_no ?_
            refine wk_yesN rfl (l := []) (bs' := [⟨HOT, [mp K1 t_12.2.1]⟩, ⟨HOT, [mp K2 t_12.2.2]⟩, ⟨201, [mref (s.boxes.length + 0), mref (s.boxes.length + 1)]⟩, ⟨160, (flat (kR kItm) vz_6)⟩]) trivial bnd_nil (Nat.le_of_ble_eq_true rfl) (by simp only [na, nb, nc, nd, nf, ng, nh, ni, nj, nk] <;> rfl) (bxle_same (bxle_same (bxle_same (bxle_same bxle_nil)))) rfl (by simp only [na, nb, nc, nd, nf, ng, nh, ni, nj, nk] <;> rfl) (bl_cons (bnd_cons (mp_bnd _ _ _ _) bnd_nil) (bl_cons (bnd_cons (mp_bnd _ _ _ _) bnd_nil) (bl_cons (bnd_cons (mref_bnd _ (by first | omega | (simp only [List.length_append, List.length_cons, List.length_nil]; omega))) (bnd_cons (mref_bnd _ (by first | omega | (simp only [List.length_append, List.length_cons, List.length_nil]; omega))) bnd_nil)) (bl_cons (flatKB (kb_R kb_Itm)) bl_nil)))) ?_
            exact ⟨(t_12.2.1, t_12.2.2), trivial, rfl, some_of hz_11⟩
        · rintro e st ⟨vz_11, hH, rfl, rfl⟩
          refine aw_keep _ hH ?_
          replace h0 := ocs_r h0
          refine aw_keep [] trivial ?_
          refine aw_seq ?_
          refine aw_region (by decide) ?_
          replace h0 := bnd_some h0
          obtain ⟨x_33, hx_33, h0⟩ := h0
          refine rts _ rfl (opD_call ht85_u12b (c_sure34 hx_33 hst) trivial) ?_
          refine rts _ rfl (opD_assign lz) ?_
          refine .nil ?_
          refine aw_keep [(4, _)] ⟨lg lz, trivial⟩ ?_
          refine aw_ret ?_
          obtain rfl := some_of h0
          exact done_ext (.inr rfl) ((res_one rfl (it_tmp oz)).le (Pd.le_refl _)) (pl_bnd _ _ _)
end Go.Proofs.YtmnhfpcbfdgbcaaDoor.Eng.A
