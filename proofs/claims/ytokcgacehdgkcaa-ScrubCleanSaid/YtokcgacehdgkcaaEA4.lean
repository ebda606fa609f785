/- EA4: what functions do, walked; used by the laws of this seat. -/
import Derived.Test.YtokcgacehdgkcaaEA3
import Derived.Test.YtokcgacehdgkcaaEXB
import Derived.Test.YtokcgacehdgkcaaEngX4
namespace Go.Proofs.Ytokcgacehdgkcaa.Eng.A
set_option linter.unusedVariables false
set_option linter.unusedSimpArgs false
open Go.RowKit Go.Proofs.Ytokcgacehdgkcaa.Plain Go.Proofs.Ytokcgacehdgkcaa.Eng Go.Proofs.Ytokcgacehdgkcaa.Eng.Pk Go.Proofs.Ytokcgacehdgkcaa.Eng.Rd

theorem sz5_UB : sizeT Go.Proofs.Try.prog 5 = some 1 := by kernel_rfl
theorem ag5_UB : aggT Go.Proofs.Try.prog 5 = some false := by kernel_rfl
theorem mixed_UB : Go.Proofs.Try.prog.follows .mixedOrders = true := by kernel_rfl
theorem sz26_UB : sizeT Go.Proofs.Try.prog 26 = some 1 := by kernel_rfl
theorem zt26_UB : zeroT Go.Proofs.Try.prog 26 = some [.slice none 0 0] := by kernel_rfl
theorem el5_UB : elT Go.Proofs.Try.prog 5 = some (1, 1) := by kernel_rfl
theorem ag24_UB : aggT Go.Proofs.Try.prog 24 = some true := by kernel_rfl
theorem sz24_UB : sizeT Go.Proofs.Try.prog 24 = some 16 := by kernel_rfl
theorem ht4_UB : hasText Go.Proofs.Try.prog 4 = true := by kernel_rfl
theorem ag26_UB : aggT Go.Proofs.Try.prog 26 = some false := by kernel_rfl
theorem ht5_UB : hasText Go.Proofs.Try.prog 5 = true := by kernel_rfl
theorem el26_UB : elT Go.Proofs.Try.prog 26 = some (1, 24) := by kernel_rfl
theorem ht6_UB : hasText Go.Proofs.Try.prog 6 = true := by kernel_rfl
theorem ht7_UB : hasText Go.Proofs.Try.prog 7 = true := by kernel_rfl
theorem ht8_UB : hasText Go.Proofs.Try.prog 8 = true := by kernel_rfl
theorem ht9_UB : hasText Go.Proofs.Try.prog 9 = true := by kernel_rfl
theorem sz3_UB : sizeT Go.Proofs.Try.prog 3 = some 1 := by kernel_rfl
theorem ag3_UB : aggT Go.Proofs.Try.prog 3 = some false := by kernel_rfl

def F_sCleanL_b0 (fl : Nat) (p0 : (List (List Int))) (p1 : (List Int)) (t_4 : (List (List Int)) × Int) : Option (((List (List Int)) × Int) ⊕ ((Bool) ⊕ ((List (List Int))))) :=
  ifb ((decide (t_4.2 < (p0.length : Int))) && (decide (t_4.2 < 40))) (grd (p1.length = 16) <| bnd (F_bhas p1 (IntKind.i64.wrap (t_4.2 + 2))) fun x_6 => bnd (ifb x_6 (ixb p0 t_4.2 fun x_8 => ixb p0 t_4.2 fun x_9 => grd (UpTo (if 504 < (x_9.length : Int) then 504 else (x_9.length : Int)) x_8.length) <| bnd (F_rseal fl 1 (x_8.take ((if 504 < (x_9.length : Int) then 504 else (x_9.length : Int)).toNat))) fun x_10 => ifb (decide (x_10.2 ≠ 0)) (some (.inl false)) (some (.inr x_10.1))) (some (.inr (List.replicate 512 (0 : Int))))) fun z_7 => ocs z_7 (fun qz_7_0 => some (.inr (.inl qz_7_0))) fun z_7_0 => grd (Fits 24 (t_4.1.length + ([z_7_0] : (List (List Int))).length)) <| some (.inl ((t_4.1 ++ ([z_7_0] : (List (List Int)))), IntKind.i64.wrap (t_4.2 + 1)))) (some (.inr (.inr t_4.1)))
def F_sCleanL (fl : Nat) (p0 : (List (List Int))) (p1 : (List Int)) (p2 : (List Int)) : Option (Bool) :=
  grd (Below 0 2) <| ixb p2 (((0 : Int).toNat : Nat) : Int) fun x_1 => grd (Below 1 2) <| ixb p2 (((1 : Int).toNat : Nat) : Int) fun x_2 => bnd (lp (F_sCleanL_b0 fl p0 p1) fl (([[], []] : (List (List Int))), 0)) fun z_3 => ocs z_3 (fun qz_3_0 => some qz_3_0) fun z_3_0 => grd (p1.length = 16) <| bnd (F_sslack fl z_3_0 p1) fun x_11 => grd (p1.length = 16) <| bnd (F_sclean fl z_3_0 p1) fun x_12 => grd (((!x_12) == false) = true → p1.length = 16) <| bnd (gif ((!x_12) == false) (F_sdirty fl z_3_0 p1)) fun x_13 => ifb (((!x_12) || (decide ((x_13.length : Int) ≠ 0))) || (decide (x_11.2 ≠ 0))) (some false) (grd ((if (IntKind.i64.wrap ((z_3_0.length : Int) - 2)) > 1 then IntKind.i64.wrap ((z_3_0.length : Int) - 2) else 1) ≠ 0) <| grd (((decide ((z_3_0.length : Int) ≤ (IntKind.i64.wrap (2 + ((IntKind.i64.wrap (x_1)).tmod (if (IntKind.i64.wrap ((z_3_0.length : Int) - 2)) > 1 then IntKind.i64.wrap ((z_3_0.length : Int) - 2) else 1)))))) == false) = true → p1.length = 16) <| bnd (gif ((decide ((z_3_0.length : Int) ≤ (IntKind.i64.wrap (2 + ((IntKind.i64.wrap (x_1)).tmod (if (IntKind.i64.wrap ((z_3_0.length : Int) - 2)) > 1 then IntKind.i64.wrap ((z_3_0.length : Int) - 2) else 1)))))) == false) (F_bhas p1 (IntKind.i64.wrap (2 + ((IntKind.i64.wrap (x_1)).tmod (if (IntKind.i64.wrap ((z_3_0.length : Int) - 2)) > 1 then IntKind.i64.wrap ((z_3_0.length : Int) - 2) else 1)))))) fun x_14 => ifb (((decide ((z_3_0.length : Int) ≤ (IntKind.i64.wrap (2 + ((IntKind.i64.wrap (x_1)).tmod (if (IntKind.i64.wrap ((z_3_0.length : Int) - 2)) > 1 then IntKind.i64.wrap ((z_3_0.length : Int) - 2) else 1)))))) || x_14) || (decide (x_2 = 0))) (bnd (F_sure22 fl) fun x_15 => some x_15) (ixb z_3_0 (IntKind.i64.wrap (2 + ((IntKind.i64.wrap (x_1)).tmod (if (IntKind.i64.wrap ((z_3_0.length : Int) - 2)) > 1 then IntKind.i64.wrap ((z_3_0.length : Int) - 2) else 1)))) fun x_16 => ixb x_16 (IntKind.i64.wrap (x_2)) fun x_17 => grd (p1.length = 16) <| bnd (F_sdirty fl (z_3_0.set ((IntKind.i64.wrap (2 + ((IntKind.i64.wrap (x_1)).tmod (if (IntKind.i64.wrap ((z_3_0.length : Int) - 2)) > 1 then IntKind.i64.wrap ((z_3_0.length : Int) - 2) else 1)))).toNat) (x_16.set ((IntKind.i64.wrap (x_2)).toNat) x_2)) p1) fun x_18 => grd (((decide ((x_18.length : Int) = 1)) == true) = true → Below 0 x_18.length) <| grd ((((decide ((x_18.length : Int) = 1)) && (decide ((x_18.getD (0 : Int).toNat default) = (IntKind.i64.wrap (2 + ((IntKind.i64.wrap (x_1)).tmod (if (IntKind.i64.wrap ((z_3_0.length : Int) - 2)) > 1 then IntKind.i64.wrap ((z_3_0.length : Int) - 2) else 1))))))) == true) = true → p1.length = 16) <| bnd (gif (((decide ((x_18.length : Int) = 1)) && (decide ((x_18.getD (0 : Int).toNat default) = (IntKind.i64.wrap (2 + ((IntKind.i64.wrap (x_1)).tmod (if (IntKind.i64.wrap ((z_3_0.length : Int) - 2)) > 1 then IntKind.i64.wrap ((z_3_0.length : Int) - 2) else 1))))))) == true) (F_sclean fl (z_3_0.set ((IntKind.i64.wrap (2 + ((IntKind.i64.wrap (x_1)).tmod (if (IntKind.i64.wrap ((z_3_0.length : Int) - 2)) > 1 then IntKind.i64.wrap ((z_3_0.length : Int) - 2) else 1)))).toNat) (x_16.set ((IntKind.i64.wrap (x_2)).toNat) x_2)) p1)) fun x_19 => bnd (gif ((((decide ((x_18.length : Int) = 1)) && (decide ((x_18.getD (0 : Int).toNat default) = (IntKind.i64.wrap (2 + ((IntKind.i64.wrap (x_1)).tmod (if (IntKind.i64.wrap ((z_3_0.length : Int) - 2)) > 1 then IntKind.i64.wrap ((z_3_0.length : Int) - 2) else 1))))))) && (!x_19)) == true) (F_sure22 fl)) fun x_20 => some ((((decide ((x_18.length : Int) = 1)) && (decide ((x_18.getD (0 : Int).toNat default) = (IntKind.i64.wrap (2 + ((IntKind.i64.wrap (x_1)).tmod (if (IntKind.i64.wrap ((z_3_0.length : Int) - 2)) > 1 then IntKind.i64.wrap ((z_3_0.length : Int) - 2) else 1))))))) && (!x_19)) && x_20)))

abbrev nxC (x n : Int) : Int := IntKind.i64.wrap (2 + ((IntKind.i64.wrap x).tmod (if (IntKind.i64.wrap (n - 2)) > 1 then IntKind.i64.wrap (n - 2) else 1)))
set_option maxRecDepth 100000 in
set_option maxHeartbeats 2000000 in
theorem c_sCleanA {fl : Nat} {p0 : (List (List Int))} {p1 : (List Int)} {p2 : (List Int)} {R : Bool} (hA : ∀ (w : List (List Int)) (x_1 : Int), p2[0]? = some x_1 → lp (F_sCleanL_b0 fl p0 p1) fl (([[], []] : (List (List Int))), 0) = some (.inr w) → (w.length : Int) ≤ nxC x_1 w.length ∨ F_bhas p1 (nxC x_1 w.length) = some true) (h0 : F_sCleanL fl p0 p1 p2 = some R) : Pure Go.Proofs.Try.prog 3 [sl (kR (kI .u8)) none none p0, agg (flat (kI .u64) p1), agg (flat (kI .u8) p2)] (pl (.bool R)) := by
  intro s
  unfold F_sCleanL at h0
  refine ac_of_aw s.boxes.length s.fr.length Go.Proofs.Try.func3 rfl (by simp [Go.Proofs.Try.ntmps3]) ?_
  refine aw_ext0 ?_
  refine aw_keep [(0, _), (1, _), (2, _)] ⟨lg ez, lg (es ez), lg (es (es ez)), trivial⟩ ?_
  refine aw_seq ?_
  refine aw_region (by decide) ?_
  refine rts _ rfl (boxFN (k := kI .u64) (l := p1) rfl (os rfl oz) rfl (kb_I _) (by first | exact List.length_nil | (simp only [List.length_cons, List.length_nil, Nat.zero_add, Nat.reduceAdd] <;> rfl)) (by simp only [na, nb, nc, nd, nf, ng, nh, ni, nj, nk] <;> rfl)) ?_
  refine rts _ rfl (boxFN (k := kI .u8) (l := p2) rfl (ls rfl (os rfl (os rfl oz))) rfl (kb_I _) (by first | exact List.length_nil | (simp only [List.length_cons, List.length_nil, Nat.zero_add, Nat.reduceAdd] <;> rfl)) (by simp only [na, nb, nc, nd, nf, ng, nh, ni, nj, nk] <;> rfl)) ?_
  refine rts _ rfl (opD_assign (ev_const _ _)) ?_
  refine .nil ?_
  refine aw_keep [(0, _), (4, _), (5, _)] ⟨lg (ls rfl (ls rfl (ls rfl oz))), lg (ls rfl (ls rfl lz)), lg (ls rfl lz), trivial⟩ ?_
  refine aw_seq ?_
  refine aw_flat mixed_UB (by decide +kernel) ?_
  replace h0 := grd_some h0
  obtain ⟨hg_3, h0⟩ := h0
  refine zts _ rfl (opD_indexAddr_arr (i := (0 : Int).toNat) Go.Proofs.Try.underlying25 sz5_UB (os rfl (os rfl oz)) (ev_const _ _) hg_3.eq hg_3.2) ?_
  replace h0 := ixb_some h0
  obtain ⟨x_1, hx_1, hbx_1, h0⟩ := h0
  refine zts _ rfl (opD_load_one ag5_UB lz (loc_getN rfl rfl) (flat_at0 rfl (nat_ix hx_1) rfl)) ?_
  replace h0 := grd_some h0
  obtain ⟨hg_4, h0⟩ := h0
  refine zts _ rfl (opD_indexAddr_arr (i := (1 : Int).toNat) Go.Proofs.Try.underlying25 sz5_UB (ls rfl (ls rfl (os rfl (os rfl oz)))) (ev_const _ _) hg_4.eq hg_4.2) ?_
  replace h0 := ixb_some h0
  obtain ⟨x_2, hx_2, hbx_2, h0⟩ := h0
  refine zts _ rfl (opD_load_one ag5_UB lz (loc_getN rfl rfl) (flat_at0 rfl (nat_ix hx_2) rfl)) ?_
  refine zts _ rfl (opD_assign (ls rfl (ls rfl lz))) ?_
  refine zts _ rfl (opD_assign (ls rfl lz)) ?_
  refine .nil ?_
  refine aw_keep [(0, _), (4, _), (7, _), (8, _)] ⟨lg (ls rfl (ls rfl (ls rfl (ls rfl (ls rfl (ls rfl oz)))))), lg (ls rfl (ls rfl (ls rfl (ls rfl (ls rfl (ls rfl (os rfl oz))))))), lg (ls rfl lz), lg lz, trivial⟩ ?_
  refine aw_seq ?_
  refine aw_region (by decide) ?_
  refine rts _ rfl (opD_buildOwn (k := kR (kI .u8)) ([[], []] : (List (List Int))) Go.Proofs.Try.underlying22 sz26_UB zt26_UB (by decide) rfl (parts_cons (cellsN (k := (kI .u8)) (ev_const _ _)) (parts_cons (cellsN (k := (kI .u8)) (ev_const _ _)) parts_nil)) rfl rfl (by first | exact List.length_nil | (simp only [List.length_cons, List.length_nil, Nat.zero_add, Nat.reduceAdd] <;> rfl)) (by simp only [na, nb, nc, nd, nf, ng, nh, ni, nj, nk] <;> rfl)) ?_
  refine rts _ rfl (opD_assign lz) ?_
  refine .nil ?_
  refine aw_keep [(0, _), (4, _), (7, _), (8, _), (9, _)] ⟨lg (ls rfl (ls rfl oz)), lg (ls rfl (ls rfl (os rfl oz))), lg (ls rfl (ls rfl (os rfl (os rfl oz)))), lg (ls rfl (ls rfl (os rfl (os rfl (os rfl oz))))), lg lz, trivial⟩ ?_
  refine aw_seq ?_
  refine aw_seq ?_
  refine aw_region (by decide) ?_
  refine rts _ rfl (opD_assign (ev_const _ _)) ?_
  refine .nil ?_
  refine aw_keep [(0, _), (4, _), (7, _), (8, _), (9, _), (10, _)] ⟨lg (ls rfl oz), lg (ls rfl (os rfl oz)), lg (ls rfl (os rfl (os rfl oz))), lg (ls rfl (os rfl (os rfl (os rfl oz)))), lg (ls rfl (os rfl (os rfl (os rfl (os rfl oz))))), lg lz, trivial⟩ ?_
  replace h0 := bnd_some h0
  obtain ⟨z_3, hz_3, h0⟩ := h0
  have hLOOP := hz_3
  refine aw_mid (fun e st => ∃ v : (List (List Int)), Holds e [(4, ptr (s.boxes.length + 0) 0), (7, pl (.int .u8 x_1)), (8, pl (.int .u8 x_2)), (9, sl (kR (kI .u8)) (some (s.fr.length + 0)) none v)] ∧ st = s.ext [⟨24, (flat (kI .u64) p1)⟩, ⟨25, (flat (kI .u8) p2)⟩] [⟨26, 1, v.length⟩] ∧ (.inr v) = z_3) ?_ ?_
  · skip
    refine aw_wkN rfl 2 1 rfl rfl ?_
    refine aw_block ?_
    refine aw_loop (fun n e st => ∃ v : (List (List Int)) × Int, Holds e [(0, sl (kR (kI .u8)) none none p0), (4, ptr (s.boxes.length + 0) 0), (7, pl (.int .u8 x_1)), (8, pl (.int .u8 x_2)), (9, sl (kR (kI .u8)) (some (s.fr.length + 0)) none v.1), (10, pl (.int .i64 v.2))] ∧ st = s.ext [⟨24, (flat (kI .u64) p1)⟩, ⟨25, (flat (kI .u8) p2)⟩] [⟨26, 1, v.1.length⟩] ∧ lp (F_sCleanL_b0 fl p0 p1) n v = some z_3) fl ⟨(([[], []] : (List (List Int))), 0), ⟨le_of_eq (eg oz), le_of_eq (eg (os rfl oz)), le_of_eq (eg (os rfl (os rfl oz))), le_of_eq (eg (os rfl (os rfl (os rfl oz)))), le_of_eq (eg (os rfl (os rfl (os rfl (os rfl oz))))), le_of_eq (eg (os rfl (os rfl (os rfl (os rfl (os rfl oz)))))), trivial⟩, rfl, hz_3⟩ ?_
    rintro n e st ⟨t_4, hH, rfl, hz_3⟩
    replace hz_3 := lp_some hz_3
    obtain ⟨m_z_5, z_5, rfl, hz_5, hz_3⟩ := hz_3
    unfold F_sCleanL_b0 at hz_5
    refine aw_keep _ hH ?_
    refine aw_wkN rfl 2 1 rfl rfl ?_
    refine aw_seq ?_
    refine aw_seq ?_
    refine aw_region (by decide) ?_
    refine rts _ rfl (opD_move (os rfl (os rfl (os rfl (os rfl (os rfl oz)))))) ?_
    refine rts _ rfl (opD_move (ls rfl oz)) ?_
    refine rts _ rfl (opD_len_sl Go.Proofs.Try.underlying22 lz) ?_
    refine rts _ rfl (opD_lss (ls rfl (ls rfl lz)) lz) ?_
    refine rts _ rfl (opD_move lz) ?_
    refine rtg _ rfl lz (fun hg4_5_29 => opD_move (ls rfl (ls rfl (ls rfl (ls rfl (ls rfl (os rfl (os rfl (os rfl (os rfl (os rfl oz))))))))))) ?_
    refine rtg _ rfl (ls rfl lz) (fun hg4_6_30 => opD_lss (lz.trans (pif_pos hg4_6_30)) (ev_const _ _)) ?_
    refine rts _ rfl (opD_and (ls rfl (ls rfl lz)) lz) ?_
    refine .nil ?_
    refine aw_keep [(0, _), (4, _), (7, _), (8, _), (9, _), (10, _), (30, _)] ⟨lg (ls rfl (ls rfl (ls rfl (ls rfl (ls rfl (ls rfl (ls rfl (ls rfl oz)))))))), lg (ls rfl (ls rfl (ls rfl (ls rfl (ls rfl (ls rfl (ls rfl (ls rfl (os rfl oz))))))))), lg (ls rfl (ls rfl (ls rfl (ls rfl (ls rfl (ls rfl (ls rfl (ls rfl (os rfl (os rfl oz)))))))))), lg (ls rfl (ls rfl (ls rfl (ls rfl (ls rfl (ls rfl (ls rfl (ls rfl (os rfl (os rfl (os rfl oz))))))))))), lg (ls rfl (ls rfl (ls rfl (ls rfl (ls rfl (ls rfl (ls rfl (ls rfl (os rfl (os rfl (os rfl (os rfl oz)))))))))))), lg (ls rfl (ls rfl (ls rfl (ls rfl (ls rfl (ls rfl (ls rfl (ls rfl (os rfl (os rfl (os rfl (os rfl (os rfl oz))))))))))))), lg lz, trivial⟩ ?_
    refine aw_cond _ (os rfl (os rfl (os rfl (os rfl (os rfl (os rfl oz)))))) (fun hc => ?_) (fun hc => ?_)
    · skip
      replace hz_5 := ifb_t hz_5 hc
      clear hc
      refine aw_skip ?_
      refine aw_keep [(0, _), (4, _), (7, _), (8, _), (9, _), (10, _)] ⟨lg oz, lg (os rfl oz), lg (os rfl (os rfl oz)), lg (os rfl (os rfl (os rfl oz))), lg (os rfl (os rfl (os rfl (os rfl oz)))), lg (os rfl (os rfl (os rfl (os rfl (os rfl oz))))), trivial⟩ ?_
      refine aw_seq ?_
      refine aw_block ?_
      refine aw_seq ?_
      refine aw_region (by decide) ?_
      refine rts _ rfl (opD_makeS (k := kI .u8) (x0 := 0) (n := 512) (z := .int .u8 0) Go.Proofs.Try.underlying26 el5_UB (by kernel_rfl) rfl rfl (ev_const _ _) (ev_const _ _) rfl rfl (by decide) (by decide)) ?_
      refine rts _ rfl (opD_assign lz) ?_
      refine .nil ?_
      refine aw_keep [(0, _), (4, _), (7, _), (8, _), (9, _), (10, _), (11, _)] ⟨lg (ls rfl (ls rfl oz)), lg (ls rfl (ls rfl (os rfl oz))), lg (ls rfl (ls rfl (os rfl (os rfl oz)))), lg (ls rfl (ls rfl (os rfl (os rfl (os rfl oz))))), lg (ls rfl (ls rfl (os rfl (os rfl (os rfl (os rfl oz)))))), lg (ls rfl (ls rfl (os rfl (os rfl (os rfl (os rfl (os rfl oz))))))), lg lz, trivial⟩ ?_
      refine aw_seq ?_
      refine aw_seq ?_
      refine aw_region (by decide) ?_
      replace hz_5 := grd_some hz_5
      obtain ⟨hg_31, hz_5⟩ := hz_5
      refine rts _ rfl (loadFN ag24_UB sz24_UB (os rfl oz) (loc_getN rfl rfl) rfl hg_31) ?_
      refine rts _ rfl (opD_move (ls rfl (os rfl (os rfl (os rfl (os rfl (os rfl oz))))))) ?_
      refine rts _ rfl (opD_add lz (ev_const _ _) rfl) ?_
      replace hz_5 := bnd_some hz_5
      obtain ⟨x_6, hx_6, hz_5⟩ := hz_5
      refine rts _ rfl (opD_pure ht4_UB (c_bhas hx_6) ⟨le_of_eq (ls rfl (ls rfl lz)), le_of_eq lz, trivial⟩) ?_
      refine .nil ?_
      refine aw_keep [(0, _), (4, _), (7, _), (8, _), (9, _), (10, _), (11, _), (37, _)] ⟨lg (ls rfl (ls rfl (ls rfl (ls rfl oz)))), lg (ls rfl (ls rfl (ls rfl (ls rfl (os rfl oz))))), lg (ls rfl (ls rfl (ls rfl (ls rfl (os rfl (os rfl oz)))))), lg (ls rfl (ls rfl (ls rfl (ls rfl (os rfl (os rfl (os rfl oz))))))), lg (ls rfl (ls rfl (ls rfl (ls rfl (os rfl (os rfl (os rfl (os rfl oz)))))))), lg (ls rfl (ls rfl (ls rfl (ls rfl (os rfl (os rfl (os rfl (os rfl (os rfl oz))))))))), lg (ls rfl (ls rfl (ls rfl (ls rfl (os rfl (os rfl (os rfl (os rfl (os rfl (os rfl oz)))))))))), lg lz, trivial⟩ ?_
      replace hz_5 := bnd_some hz_5
      obtain ⟨z_7, hz_7, hz_5⟩ := hz_5
      refine aw_mid (fun e st => ∃ v : (List Int), Holds e [(0, sl (kR (kI .u8)) none none p0), (4, ptr (s.boxes.length + 0) 0), (7, pl (.int .u8 x_1)), (8, pl (.int .u8 x_2)), (9, sl (kR (kI .u8)) (some (s.fr.length + 0)) none t_4.1), (10, pl (.int .i64 t_4.2)), (11, sl (kI .u8) none none v)] ∧ st = s.ext [⟨24, (flat (kI .u64) p1)⟩, ⟨25, (flat (kI .u8) p2)⟩] [⟨26, 1, t_4.1.length⟩] ∧ (.inr v) = z_7) ?_ ?_
      · skip
        refine aw_wkN rfl 2 1 rfl rfl ?_
        refine aw_cond _ (os rfl (os rfl (os rfl (os rfl (os rfl (os rfl (os rfl oz))))))) (fun hc => ?_) (fun hc => ?_)
        · skip
          replace hz_7 := ifb_t hz_7 hc
          clear hc
          refine aw_seq ?_
          refine aw_flat mixed_UB (by decide +kernel) ?_
          refine zts _ rfl (opD_move oz) ?_
          refine zts _ rfl (opD_move (ls rfl (os rfl (os rfl (os rfl (os rfl (os rfl oz))))))) ?_
          replace hz_7 := ixb_some hz_7
          obtain ⟨x_8, hx_8, hbx_8, hz_7⟩ := hz_7
          refine zts _ rfl (opD_indexAddr_sl (i := t_4.2.toNat) Go.Proofs.Try.underlying22 sz26_UB (ls rfl lz) lz hbx_8.2.2 hbx_8.2.1) ?_
          refine zts _ rfl (opD_load_el_one ag26_UB lz hx_8 rfl) ?_
          refine zts _ rfl (opD_move (ls rfl (ls rfl (ls rfl (ls rfl oz))))) ?_
          refine zts _ rfl (opD_move (ls rfl (ls rfl (ls rfl (ls rfl (ls rfl (os rfl (os rfl (os rfl (os rfl (os rfl oz))))))))))) ?_
          replace hz_7 := ixb_some hz_7
          obtain ⟨x_9, hx_9, hbx_9, hz_7⟩ := hz_7
          refine zts _ rfl (opD_indexAddr_sl (i := t_4.2.toNat) Go.Proofs.Try.underlying22 sz26_UB (ls rfl lz) lz hbx_9.2.2 hbx_9.2.1) ?_
          refine zts _ rfl (opD_load_el_one ag26_UB lz hx_9 rfl) ?_
          refine zts _ rfl (opD_len_sl Go.Proofs.Try.underlying26 lz) ?_
          refine zts _ rfl (opD_min lz (ev_const _ _) rfl) ?_
          replace hz_7 := grd_some hz_7
          obtain ⟨hg_35, hz_7⟩ := hz_7
          refine zts _ rfl (opD_slice_to ((if 504 < (x_9.length : Int) then 504 else (x_9.length : Int)).toNat) Go.Proofs.Try.underlying26 sz5_UB (ls rfl (ls rfl (ls rfl (ls rfl (ls rfl (ls rfl lz)))))) lz hg_35.eq hg_35.2) ?_
          replace hz_7 := bnd_some hz_7
          obtain ⟨x_10, hx_10, hz_7⟩ := hz_7
          refine zts _ rfl (opD_pure ht5_UB (c_rseal hx_10) ⟨le_of_eq (ev_const _ _), le_of_eq lz, trivial⟩) ?_
          refine zts _ rfl (opD_move lz) ?_
          refine zts _ rfl (opD_extract lz rfl) ?_
          refine zts _ rfl (opD_extract (ls rfl lz) rfl) ?_
          refine zts _ rfl (opD_assign (ls rfl lz)) ?_
          refine zts _ rfl (opD_assign (ls rfl lz)) ?_
          refine .nil ?_
          refine aw_keep [(0, _), (4, _), (7, _), (8, _), (9, _), (10, _), (12, _), (13, _)] ⟨lg (ls rfl (ls rfl (ls rfl (ls rfl (ls rfl (ls rfl (ls rfl (ls rfl (ls rfl (ls rfl (ls rfl (ls rfl (ls rfl (ls rfl (ls rfl (ls rfl (ls rfl oz))))))))))))))))), lg (ls rfl (ls rfl (ls rfl (ls rfl (ls rfl (ls rfl (ls rfl (ls rfl (ls rfl (ls rfl (ls rfl (ls rfl (ls rfl (ls rfl (ls rfl (ls rfl (ls rfl (os rfl oz)))))))))))))))))), lg (ls rfl (ls rfl (ls rfl (ls rfl (ls rfl (ls rfl (ls rfl (ls rfl (ls rfl (ls rfl (ls rfl (ls rfl (ls rfl (ls rfl (ls rfl (ls rfl (ls rfl (os rfl (os rfl oz))))))))))))))))))), lg (ls rfl (ls rfl (ls rfl (ls rfl (ls rfl (ls rfl (ls rfl (ls rfl (ls rfl (ls rfl (ls rfl (ls rfl (ls rfl (ls rfl (ls rfl (ls rfl (ls rfl (os rfl (os rfl (os rfl oz)))))))))))))))))))), lg (ls rfl (ls rfl (ls rfl (ls rfl (ls rfl (ls rfl (ls rfl (ls rfl (ls rfl (ls rfl (ls rfl (ls rfl (ls rfl (ls rfl (ls rfl (ls rfl (ls rfl (os rfl (os rfl (os rfl (os rfl oz))))))))))))))))))))), lg (ls rfl (ls rfl (ls rfl (ls rfl (ls rfl (ls rfl (ls rfl (ls rfl (ls rfl (ls rfl (ls rfl (ls rfl (ls rfl (ls rfl (ls rfl (ls rfl (ls rfl (os rfl (os rfl (os rfl (os rfl (os rfl oz)))))))))))))))))))))), lg (ls rfl lz), lg lz, trivial⟩ ?_
          refine aw_seq ?_
          refine aw_seq ?_
          refine aw_region (by decide) ?_
          refine rts _ rfl (opD_move (os rfl (os rfl (os rfl (os rfl (os rfl (os rfl (os rfl oz)))))))) ?_
          refine rts _ rfl (opD_neq lz (ev_const _ _)) ?_
          refine .nil ?_
          refine aw_keep [(0, _), (4, _), (7, _), (8, _), (9, _), (10, _), (12, _), (54, _)] ⟨lg (ls rfl (ls rfl oz)), lg (ls rfl (ls rfl (os rfl oz))), lg (ls rfl (ls rfl (os rfl (os rfl oz)))), lg (ls rfl (ls rfl (os rfl (os rfl (os rfl oz))))), lg (ls rfl (ls rfl (os rfl (os rfl (os rfl (os rfl oz)))))), lg (ls rfl (ls rfl (os rfl (os rfl (os rfl (os rfl (os rfl oz))))))), lg (ls rfl (ls rfl (os rfl (os rfl (os rfl (os rfl (os rfl (os rfl oz)))))))), lg lz, trivial⟩ ?_
          refine aw_cond _ (os rfl (os rfl (os rfl (os rfl (os rfl (os rfl (os rfl oz))))))) (fun hc => ?_) (fun hc => ?_)
          · skip
            replace hz_7 := ifb_t hz_7 hc
            clear hc
            refine aw_seq ?_
            refine aw_region (by decide) ?_
            refine rts _ rfl (opD_assign (ev_const _ _)) ?_
            refine .nil ?_
            refine aw_keep [(6, _)] ⟨lg lz, trivial⟩ ?_
            refine aw_ret ?_
            obtain rfl := some_of hz_7
            replace hz_5 := ocs_l hz_5
            obtain rfl := some_of hz_5
            replace hz_3 := ocs_r hz_3
            obtain rfl := some_of hz_3
            replace h0 := ocs_l h0
            refine wk_no ?_
            refine wk_no ?_
            refine wk_no ?_
            obtain rfl := some_of h0
            exact done_ext (.inr rfl) ((res_one rfl (it_tmp oz)).le (Pd.le_refl _)) (pl_bnd _ _ _)
          · skip
            replace hz_7 := ifb_f hz_7 hc
            clear hc
            refine aw_skip ?_
            refine aw_keep [(0, _), (4, _), (7, _), (8, _), (9, _), (10, _), (12, _)] ⟨lg oz, lg (os rfl oz), lg (os rfl (os rfl oz)), lg (os rfl (os rfl (os rfl oz))), lg (os rfl (os rfl (os rfl (os rfl oz)))), lg (os rfl (os rfl (os rfl (os rfl (os rfl oz))))), lg (os rfl (os rfl (os rfl (os rfl (os rfl (os rfl oz)))))), trivial⟩ ?_
            refine aw_region (by decide) ?_
            refine rts _ rfl (opD_move (os rfl (os rfl (os rfl (os rfl (os rfl (os rfl oz))))))) ?_
            refine rts _ rfl (opD_assign lz) ?_
            refine .nil ?_
            refine wk_yesN rfl (l := [(0, sl (kR (kI .u8)) none none p0), (4, ptr (s.boxes.length + 0) 0), (7, pl (.int .u8 x_1)), (8, pl (.int .u8 x_2)), (9, sl (kR (kI .u8)) (some (s.fr.length + 0)) none t_4.1), (10, pl (.int .i64 t_4.2)), (11, sl (kI .u8) none none x_10.1)]) (bs' := [⟨24, (flat (kI .u64) p1)⟩, ⟨25, (flat (kI .u8) p2)⟩]) ⟨le_of_eq (eg (ls rfl (ls rfl oz))), le_of_eq (eg (ls rfl (ls rfl (os rfl oz)))), le_of_eq (eg (ls rfl (ls rfl (os rfl (os rfl oz))))), le_of_eq (eg (ls rfl (ls rfl (os rfl (os rfl (os rfl oz)))))), le_of_eq (eg (ls rfl (ls rfl (os rfl (os rfl (os rfl (os rfl oz))))))), le_of_eq (eg (ls rfl (ls rfl (os rfl (os rfl (os rfl (os rfl (os rfl oz)))))))), le_of_eq (eg lz), trivial⟩ (bnd_cons (sl_b (kb_R (kb_I _))) (bnd_cons (ptr_bnd _ (by first | omega | (simp only [List.length_append, List.length_cons, List.length_nil]; omega))) (bnd_cons (pl_bnd _ _ _) (bnd_cons (pl_bnd _ _ _) (bnd_cons (sl_ob (kb_R (kb_I _)) (by first | omega | (simp only [List.length_append, List.length_cons, List.length_nil, ext_fr_length, upd_fr_length]; omega))) (bnd_cons (pl_bnd _ _ _) (bnd_cons (sl_b (kb_I _)) bnd_nil))))))) (Nat.le_of_ble_eq_true rfl) (by simp only [na, nb, nc, nd, nf, ng, nh, ni, nj, nk] <;> rfl) (bxle_same (bxle_same bxle_nil)) rfl (by simp only [na, nb, nc, nd, nf, ng, nh, ni, nj, nk] <;> rfl) (bl_cons (flatKB (kb_I _)) (bl_cons (flatKB (kb_I _)) bl_nil)) ?_
            exact ⟨x_10.1, ⟨le_of_eq (eg oz), le_of_eq (eg (os rfl oz)), le_of_eq (eg (os rfl (os rfl oz))), le_of_eq (eg (os rfl (os rfl (os rfl oz)))), le_of_eq (eg (os rfl (os rfl (os rfl (os rfl oz))))), le_of_eq (eg (os rfl (os rfl (os rfl (os rfl (os rfl oz)))))), le_of_eq (eg (os rfl (os rfl (os rfl (os rfl (os rfl (os rfl oz))))))), trivial⟩, rfl, some_of hz_7⟩
        · skip
          replace hz_7 := ifb_f hz_7 hc
          clear hc
          refine aw_skip ?_
          refine wk_yesN rfl (l := [(0, sl (kR (kI .u8)) none none p0), (4, ptr (s.boxes.length + 0) 0), (7, pl (.int .u8 x_1)), (8, pl (.int .u8 x_2)), (9, sl (kR (kI .u8)) (some (s.fr.length + 0)) none t_4.1), (10, pl (.int .i64 t_4.2)), (11, sl (kI .u8) none none (List.replicate 512 (0 : Int)))]) (bs' := [⟨24, (flat (kI .u64) p1)⟩, ⟨25, (flat (kI .u8) p2)⟩]) ⟨le_of_eq (eg oz), le_of_eq (eg (os rfl oz)), le_of_eq (eg (os rfl (os rfl oz))), le_of_eq (eg (os rfl (os rfl (os rfl oz)))), le_of_eq (eg (os rfl (os rfl (os rfl (os rfl oz))))), le_of_eq (eg (os rfl (os rfl (os rfl (os rfl (os rfl oz)))))), (le_of_eq (eg (os rfl (os rfl (os rfl (os rfl (os rfl (os rfl oz)))))))).trans (sl_nl _ none (some false) _), trivial⟩ (bnd_cons (sl_b (kb_R (kb_I _))) (bnd_cons (ptr_bnd _ (by first | omega | (simp only [List.length_append, List.length_cons, List.length_nil]; omega))) (bnd_cons (pl_bnd _ _ _) (bnd_cons (pl_bnd _ _ _) (bnd_cons (sl_ob (kb_R (kb_I _)) (by first | omega | (simp only [List.length_append, List.length_cons, List.length_nil, ext_fr_length, upd_fr_length]; omega))) (bnd_cons (pl_bnd _ _ _) (bnd_cons (sl_b (kb_I _)) bnd_nil))))))) (Nat.le_of_ble_eq_true rfl) (by simp only [na, nb, nc, nd, nf, ng, nh, ni, nj, nk] <;> rfl) (bxle_same (bxle_same bxle_nil)) rfl (by simp only [na, nb, nc, nd, nf, ng, nh, ni, nj, nk] <;> rfl) (bl_cons (flatKB (kb_I _)) (bl_cons (flatKB (kb_I _)) bl_nil)) ?_
          exact ⟨(List.replicate 512 (0 : Int)), ⟨le_of_eq (eg oz), le_of_eq (eg (os rfl oz)), le_of_eq (eg (os rfl (os rfl oz))), le_of_eq (eg (os rfl (os rfl (os rfl oz)))), le_of_eq (eg (os rfl (os rfl (os rfl (os rfl oz))))), le_of_eq (eg (os rfl (os rfl (os rfl (os rfl (os rfl oz)))))), le_of_eq (eg (os rfl (os rfl (os rfl (os rfl (os rfl (os rfl oz))))))), trivial⟩, rfl, some_of hz_7⟩
      · rintro e st ⟨vz_7, hH, rfl, rfl⟩
        refine aw_keep _ hH ?_
        replace hz_5 := ocs_r hz_5
        refine aw_keep [(0, _), (4, _), (7, _), (8, _), (9, _), (10, _), (11, _)] ⟨lg oz, lg (os rfl oz), lg (os rfl (os rfl oz)), lg (os rfl (os rfl (os rfl oz))), lg (os rfl (os rfl (os rfl (os rfl oz)))), lg (os rfl (os rfl (os rfl (os rfl (os rfl oz))))), lg (os rfl (os rfl (os rfl (os rfl (os rfl (os rfl oz)))))), trivial⟩ ?_
        refine aw_region (by decide) ?_
        refine rts _ rfl (opD_move (os rfl (os rfl (os rfl (os rfl oz))))) ?_
        refine rts _ rfl (opD_move (ls rfl (os rfl (os rfl (os rfl (os rfl (os rfl (os rfl oz)))))))) ?_
        refine rts _ rfl (opD_buildOwn (k := kR (kI .u8)) ([vz_7] : (List (List Int))) Go.Proofs.Try.underlying22 sz26_UB zt26_UB (by decide) rfl (parts_cons (cellsS lz) parts_nil) rfl rfl (by first | exact List.length_nil | (simp only [List.length_cons, List.length_nil, Nat.zero_add, Nat.reduceAdd] <;> rfl)) (by simp only [na, nb, nc, nd, nf, ng, nh, ni, nj, nk] <;> rfl)) ?_
        replace hz_5 := grd_some hz_5
        obtain ⟨hg_36, hz_5⟩ := hz_5
        refine rts _ rfl (opD_appendX Go.Proofs.Try.underlying22 el26_UB (ls rfl (ls rfl lz)) lz rfl hg_36.1 hg_36.2 rfl (by simp only [na, nb, nc, nd, nf, ng, nh, ni, nj, nk] <;> rfl)) ?_
        refine rts _ rfl (opD_assign lz) ?_
        refine .nil ?_
        refine aw_keep [(0, _), (4, _), (7, _), (8, _), (9, _), (10, _)] ⟨lg (ls rfl (ls rfl (ls rfl (ls rfl (ls rfl oz))))), lg (ls rfl (ls rfl (ls rfl (ls rfl (ls rfl (os rfl oz)))))), lg (ls rfl (ls rfl (ls rfl (ls rfl (ls rfl (os rfl (os rfl oz))))))), lg (ls rfl (ls rfl (ls rfl (ls rfl (ls rfl (os rfl (os rfl (os rfl oz)))))))), lg lz, lg (ls rfl (ls rfl (ls rfl (ls rfl (ls rfl (os rfl (os rfl (os rfl (os rfl (os rfl oz)))))))))), trivial⟩ ?_
        refine aw_region (by decide) ?_
        refine rts _ rfl (opD_move (os rfl (os rfl (os rfl (os rfl (os rfl oz)))))) ?_
        refine rts _ rfl (opD_add lz (ev_const _ _) rfl) ?_
        refine rts _ rfl (opD_assign lz) ?_
        refine .nil ?_
        obtain rfl := some_of hz_5
        replace hz_3 := ocs_l hz_3
        refine wk_yesN rfl (l := [(0, sl (kR (kI .u8)) none none p0), (4, ptr (s.boxes.length + 0) 0), (7, pl (.int .u8 x_1)), (8, pl (.int .u8 x_2)), (9, sl (kR (kI .u8)) (some (s.fr.length + 0)) none (t_4.1 ++ ([vz_7] : (List (List Int))))), (10, pl (.int .i64 (IntKind.i64.wrap (t_4.2 + 1))))]) (bs' := [⟨24, (flat (kI .u64) p1)⟩, ⟨25, (flat (kI .u8) p2)⟩]) ⟨le_of_eq (eg (ls rfl (ls rfl (ls rfl oz)))), le_of_eq (eg (ls rfl (ls rfl (ls rfl (os rfl oz))))), le_of_eq (eg (ls rfl (ls rfl (ls rfl (os rfl (os rfl oz)))))), le_of_eq (eg (ls rfl (ls rfl (ls rfl (os rfl (os rfl (os rfl oz))))))), le_of_eq (eg (ls rfl (ls rfl (ls rfl (os rfl (os rfl (os rfl (os rfl oz)))))))), le_of_eq (eg lz), trivial⟩ (bnd_cons (sl_b (kb_R (kb_I _))) (bnd_cons (ptr_bnd _ (by first | omega | (simp only [List.length_append, List.length_cons, List.length_nil]; omega))) (bnd_cons (pl_bnd _ _ _) (bnd_cons (pl_bnd _ _ _) (bnd_cons (sl_ob (kb_R (kb_I _)) (by first | omega | (simp only [List.length_append, List.length_cons, List.length_nil, ext_fr_length, upd_fr_length]; omega))) (bnd_cons (pl_bnd _ _ _) bnd_nil)))))) (Nat.le_of_ble_eq_true rfl) (by simp only [na, nb, nc, nd, nf, ng, nh, ni, nj, nk] <;> rfl) (bxle_same (bxle_same bxle_nil)) rfl (by simp only [na, nb, nc, nd, nf, ng, nh, ni, nj, nk] <;> rfl) (bl_cons (flatKB (kb_I _)) (bl_cons (flatKB (kb_I _)) bl_nil)) ?_
        exact ⟨m_z_5, Nat.lt_succ_self _, ((t_4.1 ++ ([vz_7] : (List (List Int)))), IntKind.i64.wrap (t_4.2 + 1)), ⟨le_of_eq (eg oz), le_of_eq (eg (os rfl oz)), le_of_eq (eg (os rfl (os rfl oz))), le_of_eq (eg (os rfl (os rfl (os rfl oz)))), le_of_eq (eg (os rfl (os rfl (os rfl (os rfl oz))))), le_of_eq (eg (os rfl (os rfl (os rfl (os rfl (os rfl oz)))))), trivial⟩, rfl, hz_3⟩
    · skip
      replace hz_5 := ifb_f hz_5 hc
      clear hc
      refine aw_exit ?_
      obtain rfl := some_of hz_5
      replace hz_3 := ocs_r hz_3
      refine wk_no ?_
      refine wk_yesN rfl (l := [(4, ptr (s.boxes.length + 0) 0), (7, pl (.int .u8 x_1)), (8, pl (.int .u8 x_2)), (9, sl (kR (kI .u8)) (some (s.fr.length + 0)) none t_4.1)]) (bs' := [⟨24, (flat (kI .u64) p1)⟩, ⟨25, (flat (kI .u8) p2)⟩]) ⟨le_of_eq (eg (os rfl oz)), le_of_eq (eg (os rfl (os rfl oz))), le_of_eq (eg (os rfl (os rfl (os rfl oz)))), le_of_eq (eg (os rfl (os rfl (os rfl (os rfl oz))))), trivial⟩ (bnd_cons (ptr_bnd _ (by first | omega | (simp only [List.length_append, List.length_cons, List.length_nil]; omega))) (bnd_cons (pl_bnd _ _ _) (bnd_cons (pl_bnd _ _ _) (bnd_cons (sl_ob (kb_R (kb_I _)) (by first | omega | (simp only [List.length_append, List.length_cons, List.length_nil, ext_fr_length, upd_fr_length]; omega))) bnd_nil)))) (Nat.le_of_ble_eq_true rfl) (by simp only [na, nb, nc, nd, nf, ng, nh, ni, nj, nk] <;> rfl) (bxle_same (bxle_same bxle_nil)) rfl (by simp only [na, nb, nc, nd, nf, ng, nh, ni, nj, nk] <;> rfl) (bl_cons (flatKB (kb_I _)) (bl_cons (flatKB (kb_I _)) bl_nil)) ?_
      exact ⟨t_4.1, ⟨le_of_eq (eg oz), le_of_eq (eg (os rfl oz)), le_of_eq (eg (os rfl (os rfl oz))), le_of_eq (eg (os rfl (os rfl (os rfl oz)))), trivial⟩, rfl, some_of hz_3⟩
  · rintro e st ⟨vz_3, hH, rfl, rfl⟩
    refine aw_keep _ hH ?_
    replace h0 := ocs_r h0
    refine aw_keep [(4, _), (7, _), (8, _), (9, _)] ⟨lg oz, lg (os rfl oz), lg (os rfl (os rfl oz)), lg (os rfl (os rfl (os rfl oz))), trivial⟩ ?_
    refine aw_seq ?_
    refine aw_region (by decide) ?_
    refine rts _ rfl (opD_move (os rfl (os rfl (os rfl oz)))) ?_
    replace h0 := grd_some h0
    obtain ⟨hg_37, h0⟩ := h0
    refine rts _ rfl (loadFN ag24_UB sz24_UB (ls rfl oz) (loc_getN rfl rfl) rfl hg_37) ?_
    replace h0 := bnd_some h0
    obtain ⟨x_11, hx_11, h0⟩ := h0
    refine rts _ rfl (opD_pure ht6_UB (c_sslack hx_11) ⟨(le_of_eq (ls rfl lz)).trans (sl_any _ _ _ _), le_of_eq lz, trivial⟩) ?_
    refine rts _ rfl (opD_move lz) ?_
    refine rts _ rfl (opD_extract lz rfl) ?_
    refine rts _ rfl (opD_extract (ls rfl lz) rfl) ?_
    refine rts _ rfl (opD_assign (ls rfl lz)) ?_
    refine rts _ rfl (opD_assign (ls rfl lz)) ?_
    refine .nil ?_
    refine aw_keep [(4, _), (7, _), (8, _), (9, _), (15, _)] ⟨lg (ls rfl (ls rfl (ls rfl (ls rfl (ls rfl (ls rfl (ls rfl (ls rfl oz)))))))), lg (ls rfl (ls rfl (ls rfl (ls rfl (ls rfl (ls rfl (ls rfl (ls rfl (os rfl oz))))))))), lg (ls rfl (ls rfl (ls rfl (ls rfl (ls rfl (ls rfl (ls rfl (ls rfl (os rfl (os rfl oz)))))))))), lg (ls rfl (ls rfl (ls rfl (ls rfl (ls rfl (ls rfl (ls rfl (ls rfl (os rfl (os rfl (os rfl oz))))))))))), lg lz, trivial⟩ ?_
    refine aw_seq ?_
    refine aw_seq ?_
    refine aw_region (by decide) ?_
    refine rts _ rfl (opD_move (os rfl (os rfl (os rfl oz)))) ?_
    replace h0 := grd_some h0
    obtain ⟨hg_38, h0⟩ := h0
    refine rts _ rfl (loadFN ag24_UB sz24_UB (ls rfl oz) (loc_getN rfl rfl) rfl hg_38) ?_
    replace h0 := bnd_some h0
    obtain ⟨x_12, hx_12, h0⟩ := h0
    refine rts _ rfl (opD_pure ht7_UB (c_sclean hx_12) ⟨(le_of_eq (ls rfl lz)).trans (sl_any _ _ _ _), le_of_eq lz, trivial⟩) ?_
    refine rts _ rfl (opD_not lz) ?_
    refine rts _ rfl (opD_move lz) ?_
    refine rtg _ rfl lz (fun hg14_5_39 => opD_move (ls rfl (ls rfl (ls rfl (ls rfl (ls rfl (os rfl (os rfl (os rfl oz))))))))) ?_
    replace h0 := grd_some h0
    obtain ⟨hg_41, h0⟩ := h0
    refine rtg _ rfl (ls rfl lz) (fun hg14_6_40 => loadFN ag24_UB sz24_UB (ls rfl (ls rfl (ls rfl (ls rfl (ls rfl (ls rfl oz)))))) (loc_getN rfl rfl) rfl (hg_41 hg14_6_40)) ?_
    replace h0 := bnd_some h0
    obtain ⟨x_13, hx_13, h0⟩ := h0
    refine rtg _ rfl (ls rfl (ls rfl lz)) (fun hg14_7_42 => opD_pure ht8_UB (c_sdirty (gif_some hx_13 hg14_7_42)) ⟨(le_of_eq ((ls rfl lz).trans (pif_pos hg14_7_42))).trans (sl_any _ _ _ _), le_of_eq (lz.trans (pif_pos hg14_7_42)), trivial⟩) ?_
    refine rtg _ rfl (ls rfl (ls rfl (ls rfl lz))) (fun hg14_8_43 => opD_len_sl Go.Proofs.Try.underlying33 (lz.trans (pif_pos hg14_8_43))) ?_
    refine rtg _ rfl (ls rfl (ls rfl (ls rfl (ls rfl lz)))) (fun hg14_9_44 => opD_neq (lz.trans (pif_pos hg14_9_44)) (ev_const _ _)) ?_
    refine rts _ rfl (opD_or (ls rfl (ls rfl (ls rfl (ls rfl (ls rfl lz))))) lz) ?_
    refine rts _ rfl (opD_move lz) ?_
    refine rtg _ rfl lz (fun hg14_12_45 => opD_move (ls rfl (ls rfl (ls rfl (ls rfl (ls rfl (ls rfl (ls rfl (ls rfl (ls rfl (ls rfl (ls rfl (ls rfl (os rfl (os rfl (os rfl (os rfl oz))))))))))))))))) ?_
    refine rtg _ rfl (ls rfl lz) (fun hg14_13_46 => opD_neq (lz.trans (pif_pos hg14_13_46)) (ev_const _ _)) ?_
    refine rts _ rfl (opD_or (ls rfl (ls rfl lz)) lz) ?_
    refine .nil ?_
    refine aw_keep [(4, _), (7, _), (8, _), (9, _), (80, _)] ⟨lg (ls rfl (ls rfl (ls rfl (ls rfl (ls rfl (ls rfl (ls rfl (ls rfl (ls rfl (ls rfl (ls rfl (ls rfl (ls rfl (ls rfl (ls rfl oz))))))))))))))), lg (ls rfl (ls rfl (ls rfl (ls rfl (ls rfl (ls rfl (ls rfl (ls rfl (ls rfl (ls rfl (ls rfl (ls rfl (ls rfl (ls rfl (ls rfl (os rfl oz)))))))))))))))), lg (ls rfl (ls rfl (ls rfl (ls rfl (ls rfl (ls rfl (ls rfl (ls rfl (ls rfl (ls rfl (ls rfl (ls rfl (ls rfl (ls rfl (ls rfl (os rfl (os rfl oz))))))))))))))))), lg (ls rfl (ls rfl (ls rfl (ls rfl (ls rfl (ls rfl (ls rfl (ls rfl (ls rfl (ls rfl (ls rfl (ls rfl (ls rfl (ls rfl (ls rfl (os rfl (os rfl (os rfl oz)))))))))))))))))), lg lz, trivial⟩ ?_
    refine aw_cond _ (os rfl (os rfl (os rfl (os rfl oz)))) (fun hc => ?_) (fun hc => ?_)
    · skip
      replace h0 := ifb_t h0 hc
      clear hc
      refine aw_seq ?_
      refine aw_region (by decide) ?_
      refine rts _ rfl (opD_assign (ev_const _ _)) ?_
      refine .nil ?_
      refine aw_keep [(6, _)] ⟨lg lz, trivial⟩ ?_
      refine aw_ret ?_
      obtain rfl := some_of h0
      exact done_ext (.inr rfl) ((res_one rfl (it_tmp oz)).le (Pd.le_refl _)) (pl_bnd _ _ _)
    · skip
      replace h0 := ifb_f h0 hc
      clear hc
      refine aw_skip ?_
      refine aw_keep [(4, _), (7, _), (8, _), (9, _)] ⟨lg oz, lg (os rfl oz), lg (os rfl (os rfl oz)), lg (os rfl (os rfl (os rfl oz))), trivial⟩ ?_
      refine aw_seq ?_
      refine aw_region (by decide) ?_
      refine rts _ rfl (opD_move (os rfl oz)) ?_
      refine rts _ rfl (opD_conv_int Go.Proofs.Try.underlying5 Go.Proofs.Try.underlying3 lz rfl) ?_
      refine rts _ rfl (opD_move (ls rfl (ls rfl (os rfl (os rfl (os rfl oz)))))) ?_
      refine rts _ rfl (opD_len_sl Go.Proofs.Try.underlying22 lz) ?_
      refine rts _ rfl (opD_sub lz (ev_const _ _) rfl) ?_
      refine rts _ rfl (opD_max (ev_const _ _) lz rfl) ?_
      replace h0 := grd_some h0
      obtain ⟨hg_47, h0⟩ := h0
      refine rts _ rfl (opD_rem (ls rfl (ls rfl (ls rfl (ls rfl lz)))) lz hg_47 rfl) ?_
      refine rts _ rfl (opD_add (ev_const _ _) lz rfl) ?_
      refine rts _ rfl (opD_assign lz) ?_
      refine .nil ?_
      refine aw_keep [(4, _), (8, _), (9, _), (16, _)] ⟨lg (ls rfl (ls rfl (ls rfl (ls rfl (ls rfl (ls rfl (ls rfl (ls rfl (ls rfl oz))))))))), lg (ls rfl (ls rfl (ls rfl (ls rfl (ls rfl (ls rfl (ls rfl (ls rfl (ls rfl (os rfl (os rfl oz))))))))))), lg (ls rfl (ls rfl (ls rfl (ls rfl (ls rfl (ls rfl (ls rfl (ls rfl (ls rfl (os rfl (os rfl (os rfl oz)))))))))))), lg lz, trivial⟩ ?_
      refine aw_seq ?_
      refine aw_seq ?_
      refine aw_region (by decide) ?_
      refine rts _ rfl (opD_move (os rfl (os rfl (os rfl oz)))) ?_
      refine rts _ rfl (opD_move (ls rfl (os rfl (os rfl oz)))) ?_
      refine rts _ rfl (opD_len_sl Go.Proofs.Try.underlying22 lz) ?_
      refine rts _ rfl (opD_geq (ls rfl (ls rfl lz)) lz) ?_
      refine rts _ rfl (opD_move lz) ?_
      replace h0 := grd_some h0
      obtain ⟨hg_49, h0⟩ := h0
      refine rtg _ rfl lz (fun hg17_5_48 => loadFN ag24_UB sz24_UB (ls rfl (ls rfl (ls rfl (ls rfl (ls rfl oz))))) (loc_getN rfl rfl) rfl (hg_49 hg17_5_48)) ?_
      refine rtg _ rfl (ls rfl lz) (fun hg17_6_50 => opD_move (ls rfl (ls rfl (ls rfl (ls rfl (ls rfl (ls rfl (os rfl (os rfl (os rfl oz)))))))))) ?_
      replace h0 := bnd_some h0
      obtain ⟨x_14, hx_14, h0⟩ := h0
      refine rtg _ rfl (ls rfl (ls rfl lz)) (fun hg17_7_51 => opD_pure ht4_UB (c_bhas (gif_some hx_14 hg17_7_51)) ⟨le_of_eq ((ls rfl lz).trans (pif_pos hg17_7_51)), le_of_eq (lz.trans (pif_pos hg17_7_51)), trivial⟩) ?_
      refine rts _ rfl (opD_or (ls rfl (ls rfl (ls rfl lz))) lz) ?_
      refine rts _ rfl (opD_move lz) ?_
      refine rtg _ rfl lz (fun hg17_10_52 => opD_move (ls rfl (ls rfl (ls rfl (ls rfl (ls rfl (ls rfl (ls rfl (ls rfl (ls rfl (ls rfl (os rfl oz)))))))))))) ?_
      refine rtg _ rfl (ls rfl lz) (fun hg17_11_53 => opD_eql (lz.trans (pif_pos hg17_11_53)) (ev_const _ _)) ?_
      refine rts _ rfl (opD_or (ls rfl (ls rfl lz)) lz) ?_
      refine .nil ?_
      refine aw_keep [(4, _), (8, _), (9, _), (16, _), (101, _)] ⟨lg (ls rfl (ls rfl (ls rfl (ls rfl (ls rfl (ls rfl (ls rfl (ls rfl (ls rfl (ls rfl (ls rfl (ls rfl (ls rfl oz))))))))))))), lg (ls rfl (ls rfl (ls rfl (ls rfl (ls rfl (ls rfl (ls rfl (ls rfl (ls rfl (ls rfl (ls rfl (ls rfl (ls rfl (os rfl oz)))))))))))))), lg (ls rfl (ls rfl (ls rfl (ls rfl (ls rfl (ls rfl (ls rfl (ls rfl (ls rfl (ls rfl (ls rfl (ls rfl (ls rfl (os rfl (os rfl oz))))))))))))))), lg (ls rfl (ls rfl (ls rfl (ls rfl (ls rfl (ls rfl (ls rfl (ls rfl (ls rfl (ls rfl (ls rfl (ls rfl (ls rfl (os rfl (os rfl (os rfl oz)))))))))))))))), lg lz, trivial⟩ ?_
      refine aw_cond _ (os rfl (os rfl (os rfl (os rfl oz)))) (fun hc => ?_) (fun hc => ?_)
      · skip
        replace h0 := ifb_t h0 hc
        clear hc
        refine aw_seq ?_
        refine aw_region (by decide) ?_
        replace h0 := bnd_some h0
        obtain ⟨x_15, hx_15, h0⟩ := h0
        refine rts _ rfl (opD_pure ht9_UB (c_sure22 hx_15) trivial) ?_
        refine rts _ rfl (opD_assign lz) ?_
        refine .nil ?_
        refine aw_keep [(6, _)] ⟨lg lz, trivial⟩ ?_
        refine aw_ret ?_
        obtain rfl := some_of h0
        exact done_ext (.inr rfl) ((res_one rfl (it_tmp oz)).le (Pd.le_refl _)) (pl_bnd _ _ _)
      · exfalso
        have hc1 := Bool.or_eq_false_iff.1 hc
        have hc2 := Bool.or_eq_false_iff.1 hc1.1
        have hc3 := of_decide_eq_false hc2.1
        rcases hA vz_3 x_1 hx_1 hLOOP with hh | hh
        · exact hc3 hh
        · have hc4 : x_14 = true := by
            have q := gif_some hx_14 (by rw [hc2.1]; rfl)
            rw [show F_bhas p1 _ = some true from hh] at q
            exact (Option.some.inj q).symm
          rw [hc4] at hc2
          exact absurd hc2.2 (by decide)

end Go.Proofs.Ytokcgacehdgkcaa.Eng.A
