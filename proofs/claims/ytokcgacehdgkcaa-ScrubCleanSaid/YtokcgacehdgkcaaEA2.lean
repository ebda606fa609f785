/- EA2: what functions do, walked; used by the laws of this seat. -/
import Derived.Test.YtokcgacehdgkcaaEA1
namespace Go.Proofs.Ytokcgacehdgkcaa.Eng.A
set_option linter.unusedVariables false
set_option linter.unusedSimpArgs false
open Go.RowKit Go.Proofs.Ytokcgacehdgkcaa.Plain Go.Proofs.Ytokcgacehdgkcaa.Eng Go.Proofs.Ytokcgacehdgkcaa.Eng.Pk Go.Proofs.Ytokcgacehdgkcaa.Eng.Rd

theorem ht10_UA : hasText Go.Proofs.Try.prog 10 = true := by kernel_rfl
theorem sz23_UA : sizeT Go.Proofs.Try.prog 23 = some 1 := by kernel_rfl
theorem ag23_UA : aggT Go.Proofs.Try.prog 23 = some false := by kernel_rfl
theorem ht11_UA : hasText Go.Proofs.Try.prog 11 = true := by kernel_rfl
theorem mixed_UA : Go.Proofs.Try.prog.follows .mixedOrders = true := by kernel_rfl
theorem ag37_UA : aggT Go.Proofs.Try.prog 37 = some true := by kernel_rfl
theorem sz37_UA : sizeT Go.Proofs.Try.prog 37 = some 16 := by kernel_rfl
theorem sz5_UA : sizeT Go.Proofs.Try.prog 5 = some 1 := by kernel_rfl
theorem ag5_UA : aggT Go.Proofs.Try.prog 5 = some false := by kernel_rfl
theorem ht21_UA : hasText Go.Proofs.Try.prog 21 = true := by kernel_rfl
theorem ht24_UA : hasText Go.Proofs.Try.prog 24 = true := by kernel_rfl
theorem ht20_UA : hasText Go.Proofs.Try.prog 20 = true := by kernel_rfl
theorem cc50_UA : Go.Proofs.Try.prog.concrete 50 = true := by kernel_rfl
theorem sz41_UA : sizeT Go.Proofs.Try.prog 41 = some 1 := by kernel_rfl
theorem zt58_UA : zeroT Go.Proofs.Try.prog 58 = some [.int .u32 0, .int .u32 0, .int .u32 0, .int .u32 0, .int .u32 0, .int .u32 0, .int .u32 0, .int .u32 0, .int .u32 0, .int .u32 0, .int .u32 0, .int .u32 0, .int .u32 0, .int .u32 0, .int .u32 0, .int .u32 0] := by kernel_rfl
theorem sz58_UA : sizeT Go.Proofs.Try.prog 58 = some 16 := by kernel_rfl
theorem ag41_UA : aggT Go.Proofs.Try.prog 41 = some false := by kernel_rfl
theorem ht26_UA : hasText Go.Proofs.Try.prog 26 = true := by kernel_rfl
theorem ht25_UA : hasText Go.Proofs.Try.prog 25 = true := by kernel_rfl
theorem ht22_UA : hasText Go.Proofs.Try.prog 22 = true := by kernel_rfl
theorem ht23_UA : hasText Go.Proofs.Try.prog 23 = true := by kernel_rfl
theorem ht17_UA : hasText Go.Proofs.Try.prog 17 = true := by kernel_rfl
theorem ht18_UA : hasText Go.Proofs.Try.prog 18 = true := by kernel_rfl
theorem ht15_UA : hasText Go.Proofs.Try.prog 15 = true := by kernel_rfl
theorem ht19_UA : hasText Go.Proofs.Try.prog 19 = true := by kernel_rfl
theorem ht4_UA : hasText Go.Proofs.Try.prog 4 = true := by kernel_rfl
theorem sz26_UA : sizeT Go.Proofs.Try.prog 26 = some 1 := by kernel_rfl
theorem ag26_UA : aggT Go.Proofs.Try.prog 26 = some false := by kernel_rfl
theorem sz3_UA : sizeT Go.Proofs.Try.prog 3 = some 1 := by kernel_rfl
theorem zt3_UA : zeroT Go.Proofs.Try.prog 3 = some [.int .i64 0] := by kernel_rfl
theorem el3_UA : elT Go.Proofs.Try.prog 3 = some (1, 8) := by kernel_rfl
theorem ht14_UA : hasText Go.Proofs.Try.prog 14 = true := by kernel_rfl
theorem ht8_UA : hasText Go.Proofs.Try.prog 8 = true := by kernel_rfl
theorem ht13_UA : hasText Go.Proofs.Try.prog 13 = true := by kernel_rfl


def oClone {α : Type} (b : Nat) (l : List α) : Option (List α) := grd (Fits b l.length ∧ l.length ≤ 140737488355328) (some l)
theorem c_oCloneB {p0 R : List Int} (h0 : oClone 1 p0 = some R) : Own1 Go.Proofs.Try.prog 19 [sl (kI .u8) none none p0] (kI .u8) 5 none R := by
  obtain ⟨h1, h0⟩ := grd_some h0; obtain rfl := some_of h0; exact clone_b h1.1.1 h1.2

def F_bmay (p0 : Int) : Option (Bool) :=
  some ((decide (0 ≤ p0)) && (decide (p0 < 1024)))
set_option maxRecDepth 100000 in
set_option maxHeartbeats 2000000 in
theorem c_bmay {p0 : Int} {R : Bool} (h0 : F_bmay p0 = some R) : Pure Go.Proofs.Try.prog 10 [pl (.int .i64 p0)] (pl (.bool R)) := by
  intro s
  unfold F_bmay at h0
  refine ac_of_aw s.boxes.length s.fr.length Go.Proofs.Try.func10 rfl (by simp [Go.Proofs.Try.ntmps10]) ?_
  refine aw_ext0 ?_
  refine aw_keep [(0, _)] ⟨lg ez, trivial⟩ ?_
  refine aw_seq ?_
  refine aw_region (by decide) ?_
  refine rts _ rfl (opD_assign (ev_const _ _)) ?_
  refine .nil ?_
  refine aw_keep [(0, _)] ⟨lg (ls rfl oz), trivial⟩ ?_
  refine aw_seq ?_
  refine aw_region (by decide) ?_
  refine rts _ rfl (opD_move oz) ?_
  refine rts _ rfl (opD_geq lz (ev_const _ _)) ?_
  refine rts _ rfl (opD_move lz) ?_
  refine rtg _ rfl lz (fun hg1_3_1 => opD_move (ls rfl (ls rfl (ls rfl oz)))) ?_
  refine rtg _ rfl (ls rfl lz) (fun hg1_4_2 => opD_lss (lz.trans (pif_pos hg1_4_2)) (ev_const _ _)) ?_
  refine rts _ rfl (opD_and (ls rfl (ls rfl lz)) lz) ?_
  refine rts _ rfl (opD_assign lz) ?_
  refine .nil ?_
  refine aw_keep [(2, _)] ⟨lg lz, trivial⟩ ?_
  refine aw_ret ?_
  obtain rfl := some_of h0
  exact done_ext (.inr rfl) ((res_one rfl (it_tmp oz)).le (Pd.le_refl _)) (pl_bnd _ _ _)

def F_bbit (p0 : Int) : Option (Int) :=
  grd (UpTo (bits BinOp.and .u64 (IntKind.u64.wrap (p0)) 63) 64) <| some (IntKind.u64.wrap (1 * 2 ^ (bits BinOp.and .u64 (IntKind.u64.wrap (p0)) 63).toNat))
set_option maxRecDepth 100000 in
set_option maxHeartbeats 2000000 in
theorem c_bbit {p0 : Int} {R : Int} (h0 : F_bbit p0 = some R) : Pure Go.Proofs.Try.prog 11 [pl (.int .i64 p0)] (pl (.int .u64 R)) := by
  intro s
  unfold F_bbit at h0
  refine ac_of_aw s.boxes.length s.fr.length Go.Proofs.Try.func11 rfl (by simp [Go.Proofs.Try.ntmps11]) ?_
  refine aw_ext0 ?_
  refine aw_keep [(0, _)] ⟨lg ez, trivial⟩ ?_
  refine aw_seq ?_
  refine aw_region (by decide) ?_
  refine rts _ rfl (opD_assign (ev_const _ _)) ?_
  refine .nil ?_
  refine aw_keep [(0, _)] ⟨lg (ls rfl oz), trivial⟩ ?_
  refine aw_seq ?_
  refine aw_region (by decide) ?_
  refine rts _ rfl (opD_move oz) ?_
  refine rts _ rfl (opD_conv_int Go.Proofs.Try.underlying3 Go.Proofs.Try.underlying39 lz rfl) ?_
  refine rts _ rfl (opD_bits (.inl rfl) lz (ev_const _ _) rfl) ?_
  replace h0 := grd_some h0
  obtain ⟨hg_1, h0⟩ := h0
  refine rts _ rfl (opD_shl (ev_const _ _) lz hg_1.1 (by have := hg_1.1; have := hg_1.2; simp only [IntKind.bits]; omega) rfl) ?_
  refine rts _ rfl (opD_assign lz) ?_
  refine .nil ?_
  refine aw_keep [(2, _)] ⟨lg lz, trivial⟩ ?_
  refine aw_ret ?_
  obtain rfl := some_of h0
  exact done_ext (.inr rfl) ((res_one rfl (it_tmp oz)).le (Pd.le_refl _)) (pl_bnd _ _ _)

def F_bhas (p0 : (List Int)) (p1 : Int) : Option (Bool) :=
  bnd (F_bmay p1) fun x_1 => grd ((x_1 == true) = true → Below (p1 / 2 ^ (6 : Int).toNat) 16) <| grd ((x_1 == true) = true → Below (((p1 / 2 ^ (6 : Int).toNat).toNat : Nat) : Int) p0.length) <| bnd (gif (x_1 == true) (F_bbit p1)) fun x_3 => some (x_1 && (decide ((bits BinOp.and .u64 (p0.getD ((p1 / 2 ^ (6 : Int).toNat).toNat) default) x_3) ≠ 0)))
set_option maxRecDepth 100000 in
set_option maxHeartbeats 2000000 in
theorem c_bhas {p0 : (List Int)} {p1 : Int} {R : Bool} (h0 : F_bhas p0 p1 = some R) : Pure Go.Proofs.Try.prog 4 [agg (flat (kI .u64) p0), pl (.int .i64 p1)] (pl (.bool R)) := by
  intro s
  unfold F_bhas at h0
  refine ac_of_aw s.boxes.length s.fr.length Go.Proofs.Try.func4 rfl (by simp [Go.Proofs.Try.ntmps4]) ?_
  refine aw_ext0 ?_
  refine aw_keep [(0, _), (1, _)] ⟨lg ez, lg (es ez), trivial⟩ ?_
  refine aw_seq ?_
  refine aw_region (by decide) ?_
  refine rts _ rfl (boxFN (k := kI .u64) (l := p0) rfl oz rfl (kb_I _) (by first | exact List.length_nil | (simp only [List.length_cons, List.length_nil, Nat.zero_add, Nat.reduceAdd] <;> rfl)) (by simp only [na, nb, nc, nd, nf, ng, nh, ni, nj, nk] <;> rfl)) ?_
  refine rts _ rfl (opD_assign (ev_const _ _)) ?_
  refine .nil ?_
  refine aw_keep [(1, _), (2, _)] ⟨lg (ls rfl (ls rfl (os rfl oz))), lg (ls rfl lz), trivial⟩ ?_
  refine aw_seq ?_
  refine aw_flat mixed_UA (by decide +kernel) ?_
  refine zts _ rfl (opD_move oz) ?_
  replace h0 := bnd_some h0
  obtain ⟨x_1, hx_1, h0⟩ := h0
  refine zts _ rfl (opD_pure ht10_UA (c_bmay hx_1) ⟨le_of_eq lz, trivial⟩) ?_
  refine zts _ rfl (opD_move lz) ?_
  refine ztg _ rfl lz (fun hg1_3_11 => opD_move (ls rfl (ls rfl (ls rfl oz)))) ?_
  refine ztg _ rfl (ls rfl lz) (fun hg1_4_12 => opD_shr (lz.trans (pif_pos hg1_4_12)) (ev_const _ _) (by decide) (by decide) rfl) ?_
  replace h0 := grd_some h0
  obtain ⟨hg_14, h0⟩ := h0
  refine ztg _ rfl (ls rfl (ls rfl lz)) (fun hg1_5_13 => opD_indexAddr_arr (i := (p1 / 2 ^ (6 : Int).toNat).toNat) Go.Proofs.Try.underlying37 sz23_UA (ls rfl (ls rfl (ls rfl (ls rfl (ls rfl (os rfl oz)))))) (lz.trans (pif_pos hg1_5_13)) (hg_14 hg1_5_13).eq (hg_14 hg1_5_13).2) ?_
  replace h0 := grd_some h0
  obtain ⟨hg_16, h0⟩ := h0
  refine ztg _ rfl (ls rfl (ls rfl (ls rfl lz))) (fun hg1_6_15 => opD_load_one ag23_UA (lz.trans (pif_pos hg1_6_15)) (loc_getN rfl rfl) (flat_at0 rfl (at_getD default (nat_lt (hg_16 hg1_6_15))) rfl)) ?_
  refine ztg _ rfl (ls rfl (ls rfl (ls rfl (ls rfl lz)))) (fun hg1_7_17 => opD_move (ls rfl (ls rfl (ls rfl (ls rfl (ls rfl (ls rfl (ls rfl oz)))))))) ?_
  replace h0 := bnd_some h0
  obtain ⟨x_3, hx_3, h0⟩ := h0
  refine ztg _ rfl (ls rfl (ls rfl (ls rfl (ls rfl (ls rfl lz))))) (fun hg1_8_18 => opD_pure ht11_UA (c_bbit (gif_some hx_3 hg1_8_18)) ⟨le_of_eq (lz.trans (pif_pos hg1_8_18)), trivial⟩) ?_
  refine ztg _ rfl (ls rfl (ls rfl (ls rfl (ls rfl (ls rfl (ls rfl lz)))))) (fun hg1_9_19 => opD_bits (.inl rfl) ((ls rfl (ls rfl lz)).trans (pif_pos hg1_9_19)) (lz.trans (pif_pos hg1_9_19)) rfl) ?_
  refine ztg _ rfl (ls rfl (ls rfl (ls rfl (ls rfl (ls rfl (ls rfl (ls rfl lz))))))) (fun hg1_10_20 => opD_neq (lz.trans (pif_pos hg1_10_20)) (ev_const _ _)) ?_
  refine zts _ rfl (opD_and (ls rfl (ls rfl (ls rfl (ls rfl (ls rfl (ls rfl (ls rfl (ls rfl lz)))))))) lz) ?_
  refine zts _ rfl (opD_assign lz) ?_
  refine .nil ?_
  refine aw_keep [(4, _)] ⟨lg lz, trivial⟩ ?_
  refine aw_ret ?_
  obtain rfl := some_of h0
  exact done_ext (.inr rfl) ((res_one rfl (it_tmp oz)).le (Pd.le_refl _)) (pl_bnd _ _ _)

def F_bbelow_b0 (p0 : Int) (t_2 : Int × (List Int)) : Option ((Int × (List Int)) ⊕ (((List Int)))) :=
  ifb (decide (t_2.1 < 16)) (bnd (ifb (decide (64 ≤ (IntKind.i64.wrap ((if (if 1024 < p0 then 1024 else p0) > 0 then (if 1024 < p0 then 1024 else p0) else 0) - (IntKind.i64.wrap (t_2.1 * 2 ^ (6 : Int).toNat)))))) (grd (Below t_2.1 16) <| grd (Below ((t_2.1.toNat : Nat) : Int) t_2.2.length) <| some (t_2.2.set t_2.1.toNat 18446744073709551615)) (ifb (decide (0 < (IntKind.i64.wrap ((if (if 1024 < p0 then 1024 else p0) > 0 then (if 1024 < p0 then 1024 else p0) else 0) - (IntKind.i64.wrap (t_2.1 * 2 ^ (6 : Int).toNat)))))) (grd (UpTo (IntKind.u64.wrap (IntKind.i64.wrap ((if (if 1024 < p0 then 1024 else p0) > 0 then (if 1024 < p0 then 1024 else p0) else 0) - (IntKind.i64.wrap (t_2.1 * 2 ^ (6 : Int).toNat))))) 64) <| grd (Below t_2.1 16) <| grd (Below ((t_2.1.toNat : Nat) : Int) t_2.2.length) <| some (t_2.2.set t_2.1.toNat (IntKind.u64.wrap ((IntKind.u64.wrap (1 * 2 ^ (IntKind.u64.wrap (IntKind.i64.wrap ((if (if 1024 < p0 then 1024 else p0) > 0 then (if 1024 < p0 then 1024 else p0) else 0) - (IntKind.i64.wrap (t_2.1 * 2 ^ (6 : Int).toNat))))).toNat)) - 1)))) (some t_2.2))) fun z_4 => some (.inl (IntKind.i64.wrap (t_2.1 + 1), z_4))) (some (.inr t_2.2))
def F_bbelow (fl : Nat) (p0 : Int) : Option ((List Int)) :=
  bnd (lp (F_bbelow_b0 p0) fl (0, (List.replicate 16 (0 : Int)))) fun z_1 => grd (z_1.length = 16) <| grd ((List.replicate 16 (0 : Int)).length = 16) <| grd (z_1.length = 16) <| grd (z_1.length = 16) <| some z_1
set_option maxRecDepth 100000 in
set_option maxHeartbeats 2000000 in
theorem c_bbelow {fl : Nat} {p0 : Int} {R : (List Int)} (h0 : F_bbelow fl p0 = some R) : Pure Go.Proofs.Try.prog 16 [pl (.int .i64 p0)] (agg (flat (kI .u64) R)) := by
  intro s
  unfold F_bbelow at h0
  refine ac_of_aw s.boxes.length s.fr.length Go.Proofs.Try.func16 rfl (by simp [Go.Proofs.Try.ntmps16]) ?_
  refine aw_ext0 ?_
  refine aw_keep [(0, _)] ⟨lg ez, trivial⟩ ?_
  refine aw_seq ?_
  refine aw_region (by decide) ?_
  refine rts _ rfl (allocFN (k := kI .u64) (x0 := 0) (z := .int .u64 0) (m := 16) rfl (by kernel_rfl) rfl (by first | exact List.length_nil | (simp only [List.length_cons, List.length_nil, Nat.zero_add, Nat.reduceAdd] <;> rfl)) (by simp only [na, nb, nc, nd, nf, ng, nh, ni, nj, nk] <;> rfl)) ?_
  refine .nil ?_
  refine aw_keep [(0, _), (2, _)] ⟨lg (ls rfl oz), lg lz, trivial⟩ ?_
  refine aw_seq ?_
  refine aw_region (by decide) ?_
  refine rts _ rfl (allocFN (k := kI .u64) (x0 := 0) (z := .int .u64 0) (m := 16) rfl (by kernel_rfl) rfl (by first | exact List.length_nil | (simp only [List.length_cons, List.length_nil, Nat.zero_add, Nat.reduceAdd] <;> rfl)) (by simp only [na, nb, nc, nd, nf, ng, nh, ni, nj, nk] <;> rfl)) ?_
  refine .nil ?_
  refine aw_keep [(0, _), (2, _), (3, _)] ⟨lg (ls rfl oz), lg (ls rfl (os rfl oz)), lg lz, trivial⟩ ?_
  refine aw_seq ?_
  refine aw_region (by decide) ?_
  refine rts _ rfl (opD_move oz) ?_
  refine rts _ rfl (opD_min lz (ev_const _ _) rfl) ?_
  refine rts _ rfl (opD_max (ev_const _ _) lz rfl) ?_
  refine rts _ rfl (opD_assign lz) ?_
  refine .nil ?_
  refine aw_keep [(0, _), (2, _), (3, _)] ⟨lg lz, lg (ls rfl (ls rfl (ls rfl (ls rfl (os rfl oz))))), lg (ls rfl (ls rfl (ls rfl (ls rfl (os rfl (os rfl oz)))))), trivial⟩ ?_
  refine aw_seq ?_
  refine aw_seq ?_
  refine aw_region (by decide) ?_
  refine rts _ rfl (opD_move (ev_const _ _)) ?_
  refine .nil ?_
  refine aw_keep [(0, _), (2, _), (3, _), (9, _)] ⟨lg (ls rfl oz), lg (ls rfl (os rfl oz)), lg (ls rfl (os rfl (os rfl oz))), lg lz, trivial⟩ ?_
  replace h0 := bnd_some h0
  obtain ⟨z_1, hz_1, h0⟩ := h0
  refine aw_mid (fun e st => ∃ v : (List Int), Holds e [(2, ptr (s.boxes.length + 0) 0), (3, ptr (s.boxes.length + 1) 0)] ∧ st = s.ext [⟨37, (flat (kI .u64) (List.replicate 16 (0 : Int)))⟩, ⟨37, (flat (kI .u64) v)⟩] [] ∧ v = z_1) ?_ ?_
  · skip
    refine aw_wkN rfl 2 0 rfl rfl ?_
    refine aw_block ?_
    refine aw_loop (fun n e st => ∃ v : Int × (List Int), Holds e [(0, pl (.int .i64 (if (if 1024 < p0 then 1024 else p0) > 0 then (if 1024 < p0 then 1024 else p0) else 0))), (2, ptr (s.boxes.length + 0) 0), (3, ptr (s.boxes.length + 1) 0), (9, pl (.int .i64 v.1))] ∧ st = s.ext [⟨37, (flat (kI .u64) (List.replicate 16 (0 : Int)))⟩, ⟨37, (flat (kI .u64) v.2)⟩] [] ∧ lp (F_bbelow_b0 p0) n v = some z_1) fl ⟨(0, (List.replicate 16 (0 : Int))), ⟨le_of_eq (eg oz), le_of_eq (eg (os rfl oz)), le_of_eq (eg (os rfl (os rfl oz))), le_of_eq (eg (os rfl (os rfl (os rfl oz)))), trivial⟩, rfl, hz_1⟩ ?_
    rintro n e st ⟨t_2, hH, rfl, hz_1⟩
    replace hz_1 := lp_some hz_1
    obtain ⟨m_z_3, z_3, rfl, hz_3, hz_1⟩ := hz_1
    unfold F_bbelow_b0 at hz_3
    refine aw_keep _ hH ?_
    refine aw_wkN rfl 2 0 rfl rfl ?_
    refine aw_seq ?_
    refine aw_region (by decide) ?_
    refine rts _ rfl (opD_lss (os rfl (os rfl (os rfl oz))) (ev_const _ _)) ?_
    refine .nil ?_
    refine aw_keep [(0, _), (2, _), (3, _), (9, _), (10, _)] ⟨lg (ls rfl oz), lg (ls rfl (os rfl oz)), lg (ls rfl (os rfl (os rfl oz))), lg (ls rfl (os rfl (os rfl (os rfl oz)))), lg lz, trivial⟩ ?_
    refine aw_seq ?_
    refine aw_cond _ (os rfl (os rfl (os rfl (os rfl oz)))) (fun hc => ?_) (fun hc => ?_)
    · skip
      replace hz_3 := ifb_t hz_3 hc
      clear hc
      refine aw_skip ?_
      refine aw_keep [(0, _), (2, _), (3, _), (9, _)] ⟨lg oz, lg (os rfl oz), lg (os rfl (os rfl oz)), lg (os rfl (os rfl (os rfl oz))), trivial⟩ ?_
      refine aw_seq ?_
      replace hz_3 := bnd_some hz_3
      obtain ⟨z_4, hz_4, hz_3⟩ := hz_3
      refine aw_mid (fun e st => ∃ v : (List Int), Holds e [(0, pl (.int .i64 (if (if 1024 < p0 then 1024 else p0) > 0 then (if 1024 < p0 then 1024 else p0) else 0))), (2, ptr (s.boxes.length + 0) 0), (3, ptr (s.boxes.length + 1) 0), (9, pl (.int .i64 t_2.1))] ∧ st = s.ext [⟨37, (flat (kI .u64) (List.replicate 16 (0 : Int)))⟩, ⟨37, (flat (kI .u64) v)⟩] [] ∧ v = z_4) ?_ ?_
      · skip
        refine aw_wkN rfl 2 0 rfl rfl ?_
        refine aw_block ?_
        refine aw_seq ?_
        refine aw_region (by decide) ?_
        refine rts _ rfl (opD_move (os rfl (os rfl (os rfl oz)))) ?_
        refine rts _ rfl (opD_assign lz) ?_
        refine .nil ?_
        refine aw_keep [(0, _), (2, _), (3, _), (4, _), (9, _)] ⟨lg (ls rfl (ls rfl oz)), lg (ls rfl (ls rfl (os rfl oz))), lg (ls rfl (ls rfl (os rfl (os rfl oz)))), lg lz, lg (ls rfl (ls rfl (os rfl (os rfl (os rfl oz))))), trivial⟩ ?_
        refine aw_seq ?_
        refine aw_region (by decide) ?_
        refine rts _ rfl (opD_move oz) ?_
        refine rts _ rfl (opD_move (ls rfl (os rfl (os rfl (os rfl oz))))) ?_
        refine rts _ rfl (opD_shl lz (ev_const _ _) (by decide) (by decide) rfl) ?_
        refine rts _ rfl (opD_sub (ls rfl (ls rfl lz)) lz rfl) ?_
        refine rts _ rfl (opD_assign lz) ?_
        refine .nil ?_
        refine aw_keep [(0, _), (2, _), (3, _), (4, _), (5, _), (9, _)] ⟨lg (ls rfl (ls rfl (ls rfl (ls rfl (ls rfl oz))))), lg (ls rfl (ls rfl (ls rfl (ls rfl (ls rfl (os rfl oz)))))), lg (ls rfl (ls rfl (ls rfl (ls rfl (ls rfl (os rfl (os rfl oz))))))), lg (ls rfl (ls rfl (ls rfl (ls rfl (ls rfl (os rfl (os rfl (os rfl oz)))))))), lg lz, lg (ls rfl (ls rfl (ls rfl (ls rfl (ls rfl (os rfl (os rfl (os rfl (os rfl oz))))))))), trivial⟩ ?_
        refine aw_block ?_
        refine aw_seq ?_
        refine aw_region (by decide) ?_
        refine rts _ rfl (opD_move (os rfl (os rfl (os rfl (os rfl oz))))) ?_
        refine rts _ rfl (opD_geq lz (ev_const _ _)) ?_
        refine rts _ rfl (opD_assign lz) ?_
        refine .nil ?_
        refine aw_keep [(0, _), (2, _), (3, _), (4, _), (5, _), (9, _), (16, _)] ⟨lg (ls rfl (ls rfl (ls rfl oz))), lg (ls rfl (ls rfl (ls rfl (os rfl oz)))), lg (ls rfl (ls rfl (ls rfl (os rfl (os rfl oz))))), lg (ls rfl (ls rfl (ls rfl (os rfl (os rfl (os rfl oz)))))), lg (ls rfl (ls rfl (ls rfl (os rfl (os rfl (os rfl (os rfl oz))))))), lg (ls rfl (ls rfl (ls rfl (os rfl (os rfl (os rfl (os rfl (os rfl oz)))))))), lg lz, trivial⟩ ?_
        refine aw_cond _ (os rfl (os rfl (os rfl (os rfl (os rfl (os rfl oz)))))) (fun hc => ?_) (fun hc => ?_)
        · skip
          replace hz_4 := ifb_t hz_4 hc
          clear hc
          refine aw_region (by decide) ?_
          refine rts _ rfl (opD_move (os rfl (os rfl (os rfl oz)))) ?_
          replace hz_4 := grd_some hz_4
          obtain ⟨hg_36, hz_4⟩ := hz_4
          refine rts _ rfl (opD_indexAddr_arr (i := t_2.1.toNat) Go.Proofs.Try.underlying37 sz23_UA (ls rfl (os rfl (os rfl oz))) lz hg_36.eq hg_36.2) ?_
          replace hz_4 := grd_some hz_4
          obtain ⟨hg_37, hz_4⟩ := hz_4
          refine rts _ rfl (storeFN (k := kI .u64) (z := 18446744073709551615) rfl sz23_UA lz (le_of_eq (ev_const _ _)) (one_pl rfl) rfl rfl (nat_lt hg_37) rfl (kb_I _) (by simp only [na, nb, nc, nd, nf, ng, nh, ni, nj, nk] <;> rfl)) ?_
          refine .nil ?_
          refine wk_yesN rfl (l := [(0, pl (.int .i64 (if (if 1024 < p0 then 1024 else p0) > 0 then (if 1024 < p0 then 1024 else p0) else 0))), (2, ptr (s.boxes.length + 0) 0), (3, ptr (s.boxes.length + 1) 0), (9, pl (.int .i64 t_2.1))]) (bs' := [⟨37, (flat (kI .u64) (List.replicate 16 (0 : Int)))⟩, ⟨37, (flat (kI .u64) (t_2.2.set t_2.1.toNat 18446744073709551615))⟩]) ⟨le_of_eq (eg (lx (ls rfl (ls rfl oz)))), le_of_eq (eg (lx (ls rfl (ls rfl (os rfl oz))))), le_of_eq (eg (lx (ls rfl (ls rfl (os rfl (os rfl oz)))))), le_of_eq (eg (lx (ls rfl (ls rfl (os rfl (os rfl (os rfl (os rfl (os rfl oz))))))))), trivial⟩ (bnd_cons (pl_bnd _ _ _) (bnd_cons (ptr_bnd _ (by first | omega | (simp only [List.length_append, List.length_cons, List.length_nil]; omega))) (bnd_cons (ptr_bnd _ (by first | omega | (simp only [List.length_append, List.length_cons, List.length_nil]; omega))) (bnd_cons (pl_bnd _ _ _) bnd_nil)))) (Nat.le_of_ble_eq_true rfl) (by simp only [na, nb, nc, nd, nf, ng, nh, ni, nj, nk] <;> rfl) (bxle_same (bxle_same bxle_nil)) rfl (by simp only [na, nb, nc, nd, nf, ng, nh, ni, nj, nk] <;> rfl) (bl_cons (flatKB (kb_I _)) (bl_cons (flatKB (kb_I _)) bl_nil)) ?_
          exact ⟨(t_2.2.set t_2.1.toNat 18446744073709551615), ⟨le_of_eq (eg oz), le_of_eq (eg (os rfl oz)), le_of_eq (eg (os rfl (os rfl oz))), le_of_eq (eg (os rfl (os rfl (os rfl oz)))), trivial⟩, rfl, some_of hz_4⟩
        · skip
          replace hz_4 := ifb_f hz_4 hc
          clear hc
          refine aw_seq ?_
          refine aw_region (by decide) ?_
          refine rts _ rfl (opD_move (os rfl (os rfl (os rfl (os rfl oz))))) ?_
          refine rts _ rfl (opD_gtr lz (ev_const _ _)) ?_
          refine rts _ rfl (opD_assign lz) ?_
          refine .nil ?_
          refine aw_keep [(0, _), (2, _), (3, _), (4, _), (5, _), (9, _), (21, _)] ⟨lg (ls rfl (ls rfl (ls rfl oz))), lg (ls rfl (ls rfl (ls rfl (os rfl oz)))), lg (ls rfl (ls rfl (ls rfl (os rfl (os rfl oz))))), lg (ls rfl (ls rfl (ls rfl (os rfl (os rfl (os rfl oz)))))), lg (ls rfl (ls rfl (ls rfl (os rfl (os rfl (os rfl (os rfl oz))))))), lg (ls rfl (ls rfl (ls rfl (os rfl (os rfl (os rfl (os rfl (os rfl oz)))))))), lg lz, trivial⟩ ?_
          refine aw_cond _ (os rfl (os rfl (os rfl (os rfl (os rfl (os rfl oz)))))) (fun hc => ?_) (fun hc => ?_)
          · skip
            replace hz_4 := ifb_t hz_4 hc
            clear hc
            refine aw_region (by decide) ?_
            refine rts _ rfl (opD_move (os rfl (os rfl (os rfl oz)))) ?_
            refine rts _ rfl (opD_move (ls rfl (os rfl (os rfl (os rfl (os rfl oz)))))) ?_
            refine rts _ rfl (opD_conv_int Go.Proofs.Try.underlying3 Go.Proofs.Try.underlying39 lz rfl) ?_
            replace hz_4 := grd_some hz_4
            obtain ⟨hg_38, hz_4⟩ := hz_4
            refine rts _ rfl (opD_shl (ev_const _ _) lz hg_38.1 (by have := hg_38.1; have := hg_38.2; simp only [IntKind.bits]; omega) rfl) ?_
            refine rts _ rfl (opD_sub lz (ev_const _ _) rfl) ?_
            replace hz_4 := grd_some hz_4
            obtain ⟨hg_39, hz_4⟩ := hz_4
            refine rts _ rfl (opD_indexAddr_arr (i := t_2.1.toNat) Go.Proofs.Try.underlying37 sz23_UA (ls rfl (ls rfl (ls rfl (ls rfl (ls rfl (os rfl (os rfl oz))))))) (ls rfl (ls rfl (ls rfl (ls rfl lz)))) hg_39.eq hg_39.2) ?_
            replace hz_4 := grd_some hz_4
            obtain ⟨hg_40, hz_4⟩ := hz_4
            refine rts _ rfl (storeFN (k := kI .u64) (z := (IntKind.u64.wrap ((IntKind.u64.wrap (1 * 2 ^ (IntKind.u64.wrap (IntKind.i64.wrap ((if (if 1024 < p0 then 1024 else p0) > 0 then (if 1024 < p0 then 1024 else p0) else 0) - (IntKind.i64.wrap (t_2.1 * 2 ^ (6 : Int).toNat))))).toNat)) - 1))) rfl sz23_UA lz (le_of_eq (ls rfl lz)) (one_pl rfl) rfl rfl (nat_lt hg_40) rfl (kb_I _) (by simp only [na, nb, nc, nd, nf, ng, nh, ni, nj, nk] <;> rfl)) ?_
            refine .nil ?_
            refine wk_yesN rfl (l := [(0, pl (.int .i64 (if (if 1024 < p0 then 1024 else p0) > 0 then (if 1024 < p0 then 1024 else p0) else 0))), (2, ptr (s.boxes.length + 0) 0), (3, ptr (s.boxes.length + 1) 0), (9, pl (.int .i64 t_2.1))]) (bs' := [⟨37, (flat (kI .u64) (List.replicate 16 (0 : Int)))⟩, ⟨37, (flat (kI .u64) (t_2.2.set t_2.1.toNat (IntKind.u64.wrap ((IntKind.u64.wrap (1 * 2 ^ (IntKind.u64.wrap (IntKind.i64.wrap ((if (if 1024 < p0 then 1024 else p0) > 0 then (if 1024 < p0 then 1024 else p0) else 0) - (IntKind.i64.wrap (t_2.1 * 2 ^ (6 : Int).toNat))))).toNat)) - 1))))⟩]) ⟨le_of_eq (eg (lx (ls rfl (ls rfl (ls rfl (ls rfl (ls rfl (ls rfl oz)))))))), le_of_eq (eg (lx (ls rfl (ls rfl (ls rfl (ls rfl (ls rfl (ls rfl (os rfl oz))))))))), le_of_eq (eg (lx (ls rfl (ls rfl (ls rfl (ls rfl (ls rfl (ls rfl (os rfl (os rfl oz)))))))))), le_of_eq (eg (lx (ls rfl (ls rfl (ls rfl (ls rfl (ls rfl (ls rfl (os rfl (os rfl (os rfl (os rfl (os rfl oz))))))))))))), trivial⟩ (bnd_cons (pl_bnd _ _ _) (bnd_cons (ptr_bnd _ (by first | omega | (simp only [List.length_append, List.length_cons, List.length_nil]; omega))) (bnd_cons (ptr_bnd _ (by first | omega | (simp only [List.length_append, List.length_cons, List.length_nil]; omega))) (bnd_cons (pl_bnd _ _ _) bnd_nil)))) (Nat.le_of_ble_eq_true rfl) (by simp only [na, nb, nc, nd, nf, ng, nh, ni, nj, nk] <;> rfl) (bxle_same (bxle_same bxle_nil)) rfl (by simp only [na, nb, nc, nd, nf, ng, nh, ni, nj, nk] <;> rfl) (bl_cons (flatKB (kb_I _)) (bl_cons (flatKB (kb_I _)) bl_nil)) ?_
            exact ⟨(t_2.2.set t_2.1.toNat (IntKind.u64.wrap ((IntKind.u64.wrap (1 * 2 ^ (IntKind.u64.wrap (IntKind.i64.wrap ((if (if 1024 < p0 then 1024 else p0) > 0 then (if 1024 < p0 then 1024 else p0) else 0) - (IntKind.i64.wrap (t_2.1 * 2 ^ (6 : Int).toNat))))).toNat)) - 1))), ⟨le_of_eq (eg oz), le_of_eq (eg (os rfl oz)), le_of_eq (eg (os rfl (os rfl oz))), le_of_eq (eg (os rfl (os rfl (os rfl oz)))), trivial⟩, rfl, some_of hz_4⟩
          · skip
            replace hz_4 := ifb_f hz_4 hc
            clear hc
            refine aw_skip ?_
            refine wk_yesN rfl (l := [(0, pl (.int .i64 (if (if 1024 < p0 then 1024 else p0) > 0 then (if 1024 < p0 then 1024 else p0) else 0))), (2, ptr (s.boxes.length + 0) 0), (3, ptr (s.boxes.length + 1) 0), (9, pl (.int .i64 t_2.1))]) (bs' := [⟨37, (flat (kI .u64) (List.replicate 16 (0 : Int)))⟩, ⟨37, (flat (kI .u64) t_2.2)⟩]) ⟨le_of_eq (eg oz), le_of_eq (eg (os rfl oz)), le_of_eq (eg (os rfl (os rfl oz))), le_of_eq (eg (os rfl (os rfl (os rfl (os rfl (os rfl oz)))))), trivial⟩ (bnd_cons (pl_bnd _ _ _) (bnd_cons (ptr_bnd _ (by first | omega | (simp only [List.length_append, List.length_cons, List.length_nil]; omega))) (bnd_cons (ptr_bnd _ (by first | omega | (simp only [List.length_append, List.length_cons, List.length_nil]; omega))) (bnd_cons (pl_bnd _ _ _) bnd_nil)))) (Nat.le_of_ble_eq_true rfl) (by simp only [na, nb, nc, nd, nf, ng, nh, ni, nj, nk] <;> rfl) (bxle_same (bxle_same bxle_nil)) rfl (by simp only [na, nb, nc, nd, nf, ng, nh, ni, nj, nk] <;> rfl) (bl_cons (flatKB (kb_I _)) (bl_cons (flatKB (kb_I _)) bl_nil)) ?_
            exact ⟨t_2.2, ⟨le_of_eq (eg oz), le_of_eq (eg (os rfl oz)), le_of_eq (eg (os rfl (os rfl oz))), le_of_eq (eg (os rfl (os rfl (os rfl oz)))), trivial⟩, rfl, some_of hz_4⟩
      · rintro e st ⟨vz_4, hH, rfl, rfl⟩
        refine aw_keep _ hH ?_
        refine aw_keep [(0, _), (2, _), (3, _), (9, _)] ⟨lg oz, lg (os rfl oz), lg (os rfl (os rfl oz)), lg (os rfl (os rfl (os rfl oz))), trivial⟩ ?_
        refine aw_region (by decide) ?_
        refine rts _ rfl (opD_add (os rfl (os rfl (os rfl oz))) (ev_const _ _) rfl) ?_
        refine rts _ rfl (opD_move lz) ?_
        refine .nil ?_
        obtain rfl := some_of hz_3
        replace hz_1 := ocs_l hz_1
        refine wk_yesN rfl (l := [(0, pl (.int .i64 (if (if 1024 < p0 then 1024 else p0) > 0 then (if 1024 < p0 then 1024 else p0) else 0))), (2, ptr (s.boxes.length + 0) 0), (3, ptr (s.boxes.length + 1) 0), (9, pl (.int .i64 (IntKind.i64.wrap (t_2.1 + 1))))]) (bs' := [⟨37, (flat (kI .u64) (List.replicate 16 (0 : Int)))⟩, ⟨37, (flat (kI .u64) vz_4)⟩]) ⟨le_of_eq (eg (ls rfl (ls rfl oz))), le_of_eq (eg (ls rfl (ls rfl (os rfl oz)))), le_of_eq (eg (ls rfl (ls rfl (os rfl (os rfl oz))))), le_of_eq (eg lz), trivial⟩ (bnd_cons (pl_bnd _ _ _) (bnd_cons (ptr_bnd _ (by first | omega | (simp only [List.length_append, List.length_cons, List.length_nil]; omega))) (bnd_cons (ptr_bnd _ (by first | omega | (simp only [List.length_append, List.length_cons, List.length_nil]; omega))) (bnd_cons (pl_bnd _ _ _) bnd_nil)))) (Nat.le_of_ble_eq_true rfl) (by simp only [na, nb, nc, nd, nf, ng, nh, ni, nj, nk] <;> rfl) (bxle_same (bxle_same bxle_nil)) rfl (by simp only [na, nb, nc, nd, nf, ng, nh, ni, nj, nk] <;> rfl) (bl_cons (flatKB (kb_I _)) (bl_cons (flatKB (kb_I _)) bl_nil)) ?_
        exact ⟨m_z_3, Nat.lt_succ_self _, (IntKind.i64.wrap (t_2.1 + 1), vz_4), ⟨le_of_eq (eg oz), le_of_eq (eg (os rfl oz)), le_of_eq (eg (os rfl (os rfl oz))), le_of_eq (eg (os rfl (os rfl (os rfl oz)))), trivial⟩, rfl, hz_1⟩
    · skip
      replace hz_3 := ifb_f hz_3 hc
      clear hc
      refine aw_exit ?_
      obtain rfl := some_of hz_3
      replace hz_1 := ocs_r hz_1
      refine wk_no ?_
      refine wk_yesN rfl (l := [(2, ptr (s.boxes.length + 0) 0), (3, ptr (s.boxes.length + 1) 0)]) (bs' := [⟨37, (flat (kI .u64) (List.replicate 16 (0 : Int)))⟩, ⟨37, (flat (kI .u64) t_2.2)⟩]) ⟨le_of_eq (eg (os rfl oz)), le_of_eq (eg (os rfl (os rfl oz))), trivial⟩ (bnd_cons (ptr_bnd _ (by first | omega | (simp only [List.length_append, List.length_cons, List.length_nil]; omega))) (bnd_cons (ptr_bnd _ (by first | omega | (simp only [List.length_append, List.length_cons, List.length_nil]; omega))) bnd_nil)) (Nat.le_of_ble_eq_true rfl) (by simp only [na, nb, nc, nd, nf, ng, nh, ni, nj, nk] <;> rfl) (bxle_same (bxle_same bxle_nil)) rfl (by simp only [na, nb, nc, nd, nf, ng, nh, ni, nj, nk] <;> rfl) (bl_cons (flatKB (kb_I _)) (bl_cons (flatKB (kb_I _)) bl_nil)) ?_
      exact ⟨t_2.2, ⟨le_of_eq (eg oz), le_of_eq (eg (os rfl oz)), trivial⟩, rfl, some_of hz_1⟩
  · rintro e st ⟨vz_1, hH, rfl, rfl⟩
    refine aw_keep _ hH ?_
    refine aw_keep [(2, _), (3, _)] ⟨lg oz, lg (os rfl oz), trivial⟩ ?_
    refine aw_seq ?_
    refine aw_region (by decide) ?_
    replace h0 := grd_some h0
    obtain ⟨hg_41, h0⟩ := h0
    refine rts _ rfl (loadFN ag37_UA sz37_UA (os rfl oz) (loc_getN rfl rfl) rfl hg_41) ?_
    replace h0 := grd_some h0
    obtain ⟨hg_42, h0⟩ := h0
    replace h0 := grd_some h0
    obtain ⟨hg_43, h0⟩ := h0
    refine rts _ rfl (storeWF (k := kI .u64) rfl sz37_UA (ls rfl oz) lz rfl rfl hg_42 hg_43 (by decide) (kb_I _) (by simp only [na, nb, nc, nd, nf, ng, nh, ni, nj, nk] <;> rfl)) ?_
    refine .nil ?_
    refine aw_keep [(2, _)] ⟨lg (lx (ls rfl oz)), trivial⟩ ?_
    refine aw_ret ?_
    replace h0 := grd_some h0
    obtain ⟨hlen, h0⟩ := h0
    obtain rfl := some_of h0
    exact done_ext (.inr rfl) ((res_one rfl (it_cellA (B := ⟨37, flat (kI .u64) vz_1⟩) ag37_UA sz37_UA oz (loc_getN rfl rfl) (flat_len1 rfl hlen))).le (Pd.le_refl _)) (agg_bnd (flatKB (kb_I _)))

def F_blk1 (p0 : Int) : Option (Bool) :=
  some (decide (p0 ≠ 0))
set_option maxRecDepth 100000 in
set_option maxHeartbeats 2000000 in
theorem c_blk1 {p0 : Int} {R : Bool} (h0 : F_blk1 p0 = some R) : Pure Go.Proofs.Try.prog 21 [pl (.int .u8 p0)] (pl (.bool R)) := by
  intro s
  unfold F_blk1 at h0
  refine ac_of_aw s.boxes.length s.fr.length Go.Proofs.Try.func21 rfl (by simp [Go.Proofs.Try.ntmps21]) ?_
  refine aw_ext0 ?_
  refine aw_keep [(0, _)] ⟨lg ez, trivial⟩ ?_
  refine aw_seq ?_
  refine aw_region (by decide) ?_
  refine rts _ rfl (opD_assign (ev_const _ _)) ?_
  refine .nil ?_
  refine aw_keep [(0, _)] ⟨lg (ls rfl oz), trivial⟩ ?_
  refine aw_seq ?_
  refine aw_region (by decide) ?_
  refine rts _ rfl (opD_move oz) ?_
  refine rts _ rfl (opD_neq lz (ev_const _ _)) ?_
  refine rts _ rfl (opD_assign lz) ?_
  refine .nil ?_
  refine aw_keep [(2, _)] ⟨lg lz, trivial⟩ ?_
  refine aw_ret ?_
  obtain rfl := some_of h0
  exact done_ext (.inr rfl) ((res_one rfl (it_tmp oz)).le (Pd.le_refl _)) (pl_bnd _ _ _)

def F_idxB_b0 (p0 : (List Int)) (t_2 : Int) : Option ((Int) ⊕ ((Int) ⊕ (Unit))) :=
  ifb (decide (t_2 < (p0.length : Int))) (ixb p0 t_2 fun x_4 => bnd (F_blk1 x_4) fun x_5 => ifb x_5 (some (.inr (.inl t_2))) (some (.inl (IntKind.i64.wrap (t_2 + 1))))) (some (.inr (.inr ())))
def F_idxB (fl : Nat) (p0 : (List Int)) : Option (Int) :=
  bnd (lp (F_idxB_b0 p0) fl 0) fun z_1 => ocs z_1 (fun qz_1_0 => some qz_1_0) fun z_1_0 => some (-1)
set_option maxRecDepth 100000 in
set_option maxHeartbeats 2000000 in
theorem c_idxB {fl : Nat} {p0 : (List Int)} {R : Int} (h0 : F_idxB fl p0 = some R) : Pure Go.Proofs.Try.prog 24 [sl (kI .u8) none none p0, pl (.func (.func 21) #[] #[])] (pl (.int .i64 R)) := by
  intro s
  unfold F_idxB at h0
  refine ac_of_aw s.boxes.length s.fr.length Go.Proofs.Try.func24 rfl (by simp [Go.Proofs.Try.ntmps24]) ?_
  refine aw_ext0 ?_
  refine aw_keep [(0, _), (1, _)] ⟨lg ez, lg (es ez), trivial⟩ ?_
  refine aw_seq ?_
  refine aw_region (by decide) ?_
  refine rts _ rfl (opD_assign (ev_const _ _)) ?_
  refine .nil ?_
  refine aw_keep [(0, _), (1, _)] ⟨lg (ls rfl oz), lg (ls rfl (os rfl oz)), trivial⟩ ?_
  refine aw_seq ?_
  refine aw_seq ?_
  refine aw_region (by decide) ?_
  refine rts _ rfl (opD_move oz) ?_
  refine rts _ rfl (opD_len_sl Go.Proofs.Try.underlying26 lz) ?_
  refine rts _ rfl (opD_move (ev_const _ _)) ?_
  refine .nil ?_
  refine aw_keep [(0, _), (1, _), (7, _), (8, _)] ⟨lg (ls rfl (ls rfl (ls rfl oz))), lg (ls rfl (ls rfl (ls rfl (os rfl oz)))), lg (ls rfl lz), lg lz, trivial⟩ ?_
  replace h0 := bnd_some h0
  obtain ⟨z_1, hz_1, h0⟩ := h0
  refine aw_mid (fun e st => ∃ v : Unit, Holds e [] ∧ st = s.ext [] [] ∧ (.inr v) = z_1) ?_ ?_
  · skip
    refine aw_wkN rfl 0 0 rfl rfl ?_
    refine aw_block ?_
    refine aw_loop (fun n e st => ∃ v : Int, Holds e [(0, sl (kI .u8) none none p0), (1, pl (.func (.func 21) #[] #[])), (7, pl (.int .i64 (p0.length : Int))), (8, pl (.int .i64 v))] ∧ st = s.ext [] [] ∧ lp (F_idxB_b0 p0) n v = some z_1) fl ⟨0, ⟨le_of_eq (eg oz), le_of_eq (eg (os rfl oz)), le_of_eq (eg (os rfl (os rfl oz))), le_of_eq (eg (os rfl (os rfl (os rfl oz)))), trivial⟩, rfl, hz_1⟩ ?_
    rintro n e st ⟨t_2, hH, rfl, hz_1⟩
    replace hz_1 := lp_some hz_1
    obtain ⟨m_z_3, z_3, rfl, hz_3, hz_1⟩ := hz_1
    unfold F_idxB_b0 at hz_3
    refine aw_keep _ hH ?_
    refine aw_wkN rfl 0 0 rfl rfl ?_
    refine aw_seq ?_
    refine aw_region (by decide) ?_
    refine rts _ rfl (opD_lss (os rfl (os rfl (os rfl oz))) (os rfl (os rfl oz))) ?_
    refine .nil ?_
    refine aw_keep [(0, _), (1, _), (7, _), (8, _), (9, _)] ⟨lg (ls rfl oz), lg (ls rfl (os rfl oz)), lg (ls rfl (os rfl (os rfl oz))), lg (ls rfl (os rfl (os rfl (os rfl oz)))), lg lz, trivial⟩ ?_
    refine aw_seq ?_
    refine aw_cond _ (os rfl (os rfl (os rfl (os rfl oz)))) (fun hc => ?_) (fun hc => ?_)
    · skip
      replace hz_3 := ifb_t hz_3 hc
      clear hc
      refine aw_skip ?_
      refine aw_keep [(0, _), (1, _), (7, _), (8, _)] ⟨lg oz, lg (os rfl oz), lg (os rfl (os rfl oz)), lg (os rfl (os rfl (os rfl oz))), trivial⟩ ?_
      refine aw_seq ?_
      refine aw_block ?_
      refine aw_seq ?_
      refine aw_region (by decide) ?_
      refine rts _ rfl (opD_move (os rfl (os rfl (os rfl oz)))) ?_
      refine rts _ rfl (opD_assign lz) ?_
      refine .nil ?_
      refine aw_keep [(0, _), (1, _), (5, _), (7, _), (8, _)] ⟨lg (ls rfl (ls rfl oz)), lg (ls rfl (ls rfl (os rfl oz))), lg lz, lg (ls rfl (ls rfl (os rfl (os rfl oz)))), lg (ls rfl (ls rfl (os rfl (os rfl (os rfl oz))))), trivial⟩ ?_
      refine aw_seq ?_
      refine aw_region (by decide) ?_
      refine rts _ rfl (opD_move (os rfl oz)) ?_
      refine rts _ rfl (opD_move (ls rfl oz)) ?_
      refine rts _ rfl (opD_move (ls rfl (ls rfl (os rfl (os rfl oz))))) ?_
      replace hz_3 := ixb_some hz_3
      obtain ⟨x_4, hx_4, hbx_4, hz_3⟩ := hz_3
      refine rts _ rfl (opD_indexAddr_sl (i := t_2.toNat) Go.Proofs.Try.underlying26 sz5_UA (ls rfl lz) lz hbx_4.2.2 hbx_4.2.1) ?_
      refine rts _ rfl (opD_load_el_one ag5_UA lz hx_4 rfl) ?_
      replace hz_3 := bnd_some hz_3
      obtain ⟨x_5, hx_5, hz_3⟩ := hz_3
      refine rts _ rfl (opD_pureD (ls rfl (ls rfl (ls rfl (ls rfl lz)))) ht21_UA (c_blk1 hx_5) ⟨le_of_eq lz, trivial⟩) ?_
      refine .nil ?_
      refine aw_keep [(0, _), (1, _), (5, _), (7, _), (8, _), (16, _)] ⟨lg (ls rfl (ls rfl (ls rfl (ls rfl (ls rfl (ls rfl oz)))))), lg (ls rfl (ls rfl (ls rfl (ls rfl (ls rfl (ls rfl (os rfl oz))))))), lg (ls rfl (ls rfl (ls rfl (ls rfl (ls rfl (ls rfl (os rfl (os rfl oz)))))))), lg (ls rfl (ls rfl (ls rfl (ls rfl (ls rfl (ls rfl (os rfl (os rfl (os rfl oz))))))))), lg (ls rfl (ls rfl (ls rfl (ls rfl (ls rfl (ls rfl (os rfl (os rfl (os rfl (os rfl oz)))))))))), lg lz, trivial⟩ ?_
      refine aw_cond _ (os rfl (os rfl (os rfl (os rfl (os rfl oz))))) (fun hc => ?_) (fun hc => ?_)
      · skip
        replace hz_3 := ifb_t hz_3 hc
        clear hc
        refine aw_seq ?_
        refine aw_region (by decide) ?_
        refine rts _ rfl (opD_move (os rfl (os rfl oz))) ?_
        refine rts _ rfl (opD_assign lz) ?_
        refine .nil ?_
        refine aw_keep [(4, _)] ⟨lg lz, trivial⟩ ?_
        refine aw_ret ?_
        obtain rfl := some_of hz_3
        replace hz_1 := ocs_r hz_1
        obtain rfl := some_of hz_1
        replace h0 := ocs_l h0
        refine wk_no ?_
        refine wk_no ?_
        obtain rfl := some_of h0
        exact done_ext (.inr rfl) ((res_one rfl (it_tmp oz)).le (Pd.le_refl _)) (pl_bnd _ _ _)
      · skip
        replace hz_3 := ifb_f hz_3 hc
        clear hc
        refine aw_skip ?_
        refine aw_keep [(0, _), (1, _), (7, _), (8, _)] ⟨lg oz, lg (os rfl oz), lg (os rfl (os rfl (os rfl oz))), lg (os rfl (os rfl (os rfl (os rfl oz)))), trivial⟩ ?_
        refine aw_region (by decide) ?_
        refine rts _ rfl (opD_add (os rfl (os rfl (os rfl oz))) (ev_const _ _) rfl) ?_
        refine rts _ rfl (opD_move lz) ?_
        refine .nil ?_
        obtain rfl := some_of hz_3
        replace hz_1 := ocs_l hz_1
        refine wk_yesN rfl (l := [(0, sl (kI .u8) none none p0), (1, pl (.func (.func 21) #[] #[])), (7, pl (.int .i64 (p0.length : Int))), (8, pl (.int .i64 (IntKind.i64.wrap (t_2 + 1))))]) (bs' := []) ⟨le_of_eq (eg (ls rfl (ls rfl oz))), le_of_eq (eg (ls rfl (ls rfl (os rfl oz)))), le_of_eq (eg (ls rfl (ls rfl (os rfl (os rfl oz))))), le_of_eq (eg lz), trivial⟩ (bnd_cons (sl_b (kb_I _)) (bnd_cons (pl_bnd _ _ _) (bnd_cons (pl_bnd _ _ _) (bnd_cons (pl_bnd _ _ _) bnd_nil)))) (Nat.le_of_ble_eq_true rfl) (by simp only [na, nb, nc, nd, nf, ng, nh, ni, nj, nk] <;> rfl) bxle_nil rfl (by simp only [na, nb, nc, nd, nf, ng, nh, ni, nj, nk] <;> rfl) bl_nil ?_
        exact ⟨m_z_3, Nat.lt_succ_self _, IntKind.i64.wrap (t_2 + 1), ⟨le_of_eq (eg oz), le_of_eq (eg (os rfl oz)), le_of_eq (eg (os rfl (os rfl oz))), le_of_eq (eg (os rfl (os rfl (os rfl oz)))), trivial⟩, rfl, hz_1⟩
    · skip
      replace hz_3 := ifb_f hz_3 hc
      clear hc
      refine aw_exit ?_
      obtain rfl := some_of hz_3
      replace hz_1 := ocs_r hz_1
      refine wk_no ?_
      refine wk_yesN rfl (l := []) (bs' := []) trivial bnd_nil (Nat.le_of_ble_eq_true rfl) (by simp only [na, nb, nc, nd, nf, ng, nh, ni, nj, nk] <;> rfl) bxle_nil rfl (by simp only [na, nb, nc, nd, nf, ng, nh, ni, nj, nk] <;> rfl) bl_nil ?_
      exact ⟨(), trivial, rfl, some_of hz_1⟩
  · rintro e st ⟨vz_1, hH, rfl, rfl⟩
    refine aw_keep _ hH ?_
    replace h0 := ocs_r h0
    refine aw_keep [] trivial ?_
    refine aw_seq ?_
    refine aw_region (by decide) ?_
    refine rts _ rfl (opD_assign (ev_const _ _)) ?_
    refine .nil ?_
    refine aw_keep [(4, _)] ⟨lg lz, trivial⟩ ?_
    refine aw_ret ?_
    obtain rfl := some_of h0
    exact done_ext (.inr rfl) ((res_one rfl (it_tmp oz)).le (Pd.le_refl _)) (pl_bnd _ _ _)

def F_hasB (fl : Nat) (p0 : (List Int)) : Option (Bool) :=
  bnd (F_idxB fl p0) fun x_1 => some (decide (0 ≤ x_1))
set_option maxRecDepth 100000 in
set_option maxHeartbeats 2000000 in
theorem c_hasB {fl : Nat} {p0 : (List Int)} {R : Bool} (h0 : F_hasB fl p0 = some R) : Pure Go.Proofs.Try.prog 20 [sl (kI .u8) none none p0, pl (.func (.func 21) #[] #[])] (pl (.bool R)) := by
  intro s
  unfold F_hasB at h0
  refine ac_of_aw s.boxes.length s.fr.length Go.Proofs.Try.func20 rfl (by simp [Go.Proofs.Try.ntmps20]) ?_
  refine aw_ext0 ?_
  refine aw_keep [(0, _), (1, _)] ⟨lg ez, lg (es ez), trivial⟩ ?_
  refine aw_seq ?_
  refine aw_region (by decide) ?_
  refine rts _ rfl (opD_assign (ev_const _ _)) ?_
  refine .nil ?_
  refine aw_keep [(0, _), (1, _)] ⟨lg (ls rfl oz), lg (ls rfl (os rfl oz)), trivial⟩ ?_
  refine aw_seq ?_
  refine aw_region (by decide) ?_
  refine rts _ rfl (opD_move oz) ?_
  refine rts _ rfl (opD_move (ls rfl (os rfl oz))) ?_
  replace h0 := bnd_some h0
  obtain ⟨x_1, hx_1, h0⟩ := h0
  refine rts _ rfl (opD_pure ht24_UA (c_idxB hx_1) ⟨le_of_eq (ls rfl lz), le_of_eq lz, trivial⟩) ?_
  refine rts _ rfl (opD_geq lz (ev_const _ _)) ?_
  refine rts _ rfl (opD_assign lz) ?_
  refine .nil ?_
  refine aw_keep [(4, _)] ⟨lg lz, trivial⟩ ?_
  refine aw_ret ?_
  obtain rfl := some_of h0
  exact done_ext (.inr rfl) ((res_one rfl (it_tmp oz)).le (Pd.le_refl _)) (pl_bnd _ _ _)

def F_blank (fl : Nat) (p0 : (List Int)) : Option (Bool) :=
  bnd (F_hasB fl p0) fun x_1 => some (!x_1)
set_option maxRecDepth 100000 in
set_option maxHeartbeats 2000000 in
theorem c_blank {fl : Nat} {p0 : (List Int)} {R : Bool} (h0 : F_blank fl p0 = some R) : Pure Go.Proofs.Try.prog 15 [sl (kI .u8) none none p0] (pl (.bool R)) := by
  intro s
  unfold F_blank at h0
  refine ac_of_aw s.boxes.length s.fr.length Go.Proofs.Try.func15 rfl (by simp [Go.Proofs.Try.ntmps15]) ?_
  refine aw_ext0 ?_
  refine aw_keep [(0, _)] ⟨lg ez, trivial⟩ ?_
  refine aw_seq ?_
  refine aw_region (by decide) ?_
  refine rts _ rfl (opD_assign (ev_const _ _)) ?_
  refine .nil ?_
  refine aw_keep [(0, _)] ⟨lg (ls rfl oz), trivial⟩ ?_
  refine aw_seq ?_
  refine aw_region (by decide) ?_
  refine rts _ rfl (opD_move oz) ?_
  replace h0 := bnd_some h0
  obtain ⟨x_1, hx_1, h0⟩ := h0
  refine rts _ rfl (opD_pure ht20_UA (c_hasB hx_1) ⟨le_of_eq lz, le_of_eq (ev_func _ _), trivial⟩) ?_
  refine rts _ rfl (opD_not lz) ?_
  refine rts _ rfl (opD_assign lz) ?_
  refine .nil ?_
  refine aw_keep [(2, _)] ⟨lg lz, trivial⟩ ?_
  refine aw_ret ?_
  obtain rfl := some_of h0
  exact done_ext (.inr rfl) ((res_one rfl (it_tmp oz)).le (Pd.le_refl _)) (pl_bnd _ _ _)

def F_iget_b0 (p0 : (List Int)) (t_2 : Int × Int) : Option ((Int × Int) ⊕ ((Int))) :=
  ifb (decide (t_2.2 < (p0.length : Int))) (ixb p0 t_2.2 fun x_4 => some (.inl ((bits BinOp.or .u64 (IntKind.u64.wrap (t_2.1 * 2 ^ (8 : Int).toNat)) (IntKind.u64.wrap (x_4))), IntKind.i64.wrap (t_2.2 + 1)))) (some (.inr t_2.1))
def F_iget (fl : Nat) (p0 : (List Int)) : Option (Int × (Option Int)) :=
  ifb ((decide ((p0.length : Int) = 0)) || (decide (8 < (p0.length : Int)))) (some (0, some 1)) (bnd (lp (F_iget_b0 p0) fl (0, 0)) fun z_1 => some (z_1, none))
set_option maxRecDepth 100000 in
set_option maxHeartbeats 2000000 in
theorem c_iget {fl : Nat} {p0 : (List Int)} {R : Int × (Option Int)} (h0 : F_iget fl p0 = some R) : Pure Go.Proofs.Try.prog 22 [sl (kI .u8) none none p0] (tup [pl (.int .u64 R.1), pl (errV R.2)]) := by
  intro s
  unfold F_iget at h0
  refine ac_of_aw s.boxes.length s.fr.length Go.Proofs.Try.func22 rfl (by simp [Go.Proofs.Try.ntmps22]) ?_
  refine aw_ext0 ?_
  refine aw_keep [(0, _)] ⟨lg ez, trivial⟩ ?_
  refine aw_seq ?_
  refine aw_region (by decide) ?_
  refine rts _ rfl (opD_assign (ev_const _ _)) ?_
  refine rts _ rfl (opD_assign (ev_const _ _)) ?_
  refine .nil ?_
  refine aw_keep [(0, _)] ⟨lg (ls rfl (ls rfl oz)), trivial⟩ ?_
  refine aw_seq ?_
  refine aw_seq ?_
  refine aw_region (by decide) ?_
  refine rts _ rfl (opD_move oz) ?_
  refine rts _ rfl (opD_len_sl Go.Proofs.Try.underlying26 lz) ?_
  refine rts _ rfl (opD_eql lz (ev_const _ _)) ?_
  refine rts _ rfl (opD_move lz) ?_
  refine rtg _ rfl lz (fun hg1_4_1 => opD_move (ls rfl (ls rfl (ls rfl (ls rfl oz))))) ?_
  refine rtg _ rfl (ls rfl lz) (fun hg1_5_2 => opD_len_sl Go.Proofs.Try.underlying26 (lz.trans (pif_pos hg1_5_2))) ?_
  refine rtg _ rfl (ls rfl (ls rfl lz)) (fun hg1_6_3 => opD_gtr (lz.trans (pif_pos hg1_6_3)) (ev_const _ _)) ?_
  refine rts _ rfl (opD_or (ls rfl (ls rfl (ls rfl lz))) lz) ?_
  refine .nil ?_
  refine aw_keep [(0, _), (14, _)] ⟨lg (ls rfl (ls rfl (ls rfl (ls rfl (ls rfl (ls rfl (ls rfl (ls rfl oz)))))))), lg lz, trivial⟩ ?_
  refine aw_cond _ (os rfl oz) (fun hc => ?_) (fun hc => ?_)
  · skip
    replace h0 := ifb_t h0 hc
    clear hc
    refine aw_seq ?_
    refine aw_region (by decide) ?_
    refine rts _ rfl (opD_ple (q := pl (errV (some 1))) rfl (opD_makeInterface_pl cc50_UA (ev_const _ _))) ?_
    refine rts _ rfl (opD_assign (ev_const _ _)) ?_
    refine rts _ rfl (opD_assign (ls rfl lz)) ?_
    refine .nil ?_
    refine aw_keep [(2, _), (3, _)] ⟨lg (ls rfl lz), lg lz, trivial⟩ ?_
    refine aw_ret ?_
    obtain rfl := some_of h0
    exact done_ext (.inr rfl) ((res_list (rs := [_, _]) (ps := [_, _]) rfl rfl ⟨it_tmp oz, it_tmp (os rfl oz), trivial⟩).le (tup_le ⟨(Pd.le_refl _), (Pd.le_refl _), trivial⟩)) (tup_bnd (bnd_cons (pl_bnd _ _ _) (bnd_cons (pl_bnd _ _ _) bnd_nil)))
  · skip
    replace h0 := ifb_f h0 hc
    clear hc
    refine aw_skip ?_
    refine aw_keep [(0, _)] ⟨lg oz, trivial⟩ ?_
    refine aw_seq ?_
    refine aw_region (by decide) ?_
    refine rts _ rfl (opD_assign (ev_const _ _)) ?_
    refine .nil ?_
    refine aw_keep [(0, _), (4, _)] ⟨lg (ls rfl oz), lg lz, trivial⟩ ?_
    refine aw_seq ?_
    refine aw_seq ?_
    refine aw_region (by decide) ?_
    refine rts _ rfl (opD_move oz) ?_
    refine rts _ rfl (opD_len_sl Go.Proofs.Try.underlying26 lz) ?_
    refine rts _ rfl (opD_move (ev_const _ _)) ?_
    refine .nil ?_
    refine aw_keep [(4, _), (16, _), (17, _), (18, _)] ⟨lg (ls rfl (ls rfl (ls rfl (os rfl oz)))), lg (ls rfl (ls rfl lz)), lg (ls rfl lz), lg lz, trivial⟩ ?_
    replace h0 := bnd_some h0
    obtain ⟨z_1, hz_1, h0⟩ := h0
    refine aw_mid (fun e st => ∃ v : Int, Holds e [(4, pl (.int .u64 v))] ∧ st = s.ext [] [] ∧ v = z_1) ?_ ?_
    · skip
      refine aw_wkN rfl 0 0 rfl rfl ?_
      refine aw_block ?_
      refine aw_loop (fun n e st => ∃ v : Int × Int, Holds e [(4, pl (.int .u64 v.1)), (16, sl (kI .u8) none none p0), (17, pl (.int .i64 (p0.length : Int))), (18, pl (.int .i64 v.2))] ∧ st = s.ext [] [] ∧ lp (F_iget_b0 p0) n v = some z_1) fl ⟨(0, 0), ⟨le_of_eq (eg oz), le_of_eq (eg (os rfl oz)), le_of_eq (eg (os rfl (os rfl oz))), le_of_eq (eg (os rfl (os rfl (os rfl oz)))), trivial⟩, rfl, hz_1⟩ ?_
      rintro n e st ⟨t_2, hH, rfl, hz_1⟩
      replace hz_1 := lp_some hz_1
      obtain ⟨m_z_3, z_3, rfl, hz_3, hz_1⟩ := hz_1
      unfold F_iget_b0 at hz_3
      refine aw_keep _ hH ?_
      refine aw_wkN rfl 0 0 rfl rfl ?_
      refine aw_seq ?_
      refine aw_region (by decide) ?_
      refine rts _ rfl (opD_lss (os rfl (os rfl (os rfl oz))) (os rfl (os rfl oz))) ?_
      refine .nil ?_
      refine aw_keep [(4, _), (16, _), (17, _), (18, _), (19, _)] ⟨lg (ls rfl oz), lg (ls rfl (os rfl oz)), lg (ls rfl (os rfl (os rfl oz))), lg (ls rfl (os rfl (os rfl (os rfl oz)))), lg lz, trivial⟩ ?_
      refine aw_seq ?_
      refine aw_cond _ (os rfl (os rfl (os rfl (os rfl oz)))) (fun hc => ?_) (fun hc => ?_)
      · skip
        replace hz_3 := ifb_t hz_3 hc
        clear hc
        refine aw_skip ?_
        refine aw_keep [(4, _), (16, _), (17, _), (18, _)] ⟨lg oz, lg (os rfl oz), lg (os rfl (os rfl oz)), lg (os rfl (os rfl (os rfl oz))), trivial⟩ ?_
        refine aw_seq ?_
        refine aw_block ?_
        refine aw_seq ?_
        refine aw_region (by decide) ?_
        replace hz_3 := ixb_some hz_3
        obtain ⟨x_4, hx_4, hbx_4, hz_3⟩ := hz_3
        refine rts _ rfl (opD_indexAddr_sl (i := t_2.2.toNat) Go.Proofs.Try.underlying26 sz5_UA (os rfl oz) (os rfl (os rfl (os rfl oz))) hbx_4.2.2 hbx_4.2.1) ?_
        refine rts _ rfl (opD_load_el_one ag5_UA lz hx_4 rfl) ?_
        refine rts _ rfl (opD_assign lz) ?_
        refine .nil ?_
        refine aw_keep [(4, _), (6, _), (16, _), (17, _), (18, _)] ⟨lg (ls rfl (ls rfl (ls rfl oz))), lg lz, lg (ls rfl (ls rfl (ls rfl (os rfl oz)))), lg (ls rfl (ls rfl (ls rfl (os rfl (os rfl oz))))), lg (ls rfl (ls rfl (ls rfl (os rfl (os rfl (os rfl oz)))))), trivial⟩ ?_
        refine aw_region (by decide) ?_
        refine rts _ rfl (opD_move oz) ?_
        refine rts _ rfl (opD_shl lz (ev_const _ _) (by decide) (by decide) rfl) ?_
        refine rts _ rfl (opD_move (ls rfl (ls rfl (os rfl oz)))) ?_
        refine rts _ rfl (opD_conv_int Go.Proofs.Try.underlying5 Go.Proofs.Try.underlying23 lz rfl) ?_
        refine rts _ rfl (opD_bits (.inr (.inl rfl)) (ls rfl (ls rfl lz)) lz rfl) ?_
        refine rts _ rfl (opD_assign lz) ?_
        refine .nil ?_
        refine aw_keep [(4, _), (16, _), (17, _), (18, _)] ⟨lg lz, lg (ls rfl (ls rfl (ls rfl (ls rfl (ls rfl (ls rfl (os rfl (os rfl oz)))))))), lg (ls rfl (ls rfl (ls rfl (ls rfl (ls rfl (ls rfl (os rfl (os rfl (os rfl oz))))))))), lg (ls rfl (ls rfl (ls rfl (ls rfl (ls rfl (ls rfl (os rfl (os rfl (os rfl (os rfl oz)))))))))), trivial⟩ ?_
        refine aw_region (by decide) ?_
        refine rts _ rfl (opD_add (os rfl (os rfl (os rfl oz))) (ev_const _ _) rfl) ?_
        refine rts _ rfl (opD_move lz) ?_
        refine .nil ?_
        obtain rfl := some_of hz_3
        replace hz_1 := ocs_l hz_1
        refine wk_yesN rfl (l := [(4, pl (.int .u64 (bits BinOp.or .u64 (IntKind.u64.wrap (t_2.1 * 2 ^ (8 : Int).toNat)) (IntKind.u64.wrap (x_4))))), (16, sl (kI .u8) none none p0), (17, pl (.int .i64 (p0.length : Int))), (18, pl (.int .i64 (IntKind.i64.wrap (t_2.2 + 1))))]) (bs' := []) ⟨le_of_eq (eg (ls rfl (ls rfl oz))), le_of_eq (eg (ls rfl (ls rfl (os rfl oz)))), le_of_eq (eg (ls rfl (ls rfl (os rfl (os rfl oz))))), le_of_eq (eg lz), trivial⟩ (bnd_cons (pl_bnd _ _ _) (bnd_cons (sl_b (kb_I _)) (bnd_cons (pl_bnd _ _ _) (bnd_cons (pl_bnd _ _ _) bnd_nil)))) (Nat.le_of_ble_eq_true rfl) (by simp only [na, nb, nc, nd, nf, ng, nh, ni, nj, nk] <;> rfl) bxle_nil rfl (by simp only [na, nb, nc, nd, nf, ng, nh, ni, nj, nk] <;> rfl) bl_nil ?_
        exact ⟨m_z_3, Nat.lt_succ_self _, ((bits BinOp.or .u64 (IntKind.u64.wrap (t_2.1 * 2 ^ (8 : Int).toNat)) (IntKind.u64.wrap (x_4))), IntKind.i64.wrap (t_2.2 + 1)), ⟨le_of_eq (eg oz), le_of_eq (eg (os rfl oz)), le_of_eq (eg (os rfl (os rfl oz))), le_of_eq (eg (os rfl (os rfl (os rfl oz)))), trivial⟩, rfl, hz_1⟩
      · skip
        replace hz_3 := ifb_f hz_3 hc
        clear hc
        refine aw_exit ?_
        obtain rfl := some_of hz_3
        replace hz_1 := ocs_r hz_1
        refine wk_no ?_
        refine wk_yesN rfl (l := [(4, pl (.int .u64 t_2.1))]) (bs' := []) ⟨le_of_eq (eg oz), trivial⟩ (bnd_cons (pl_bnd _ _ _) bnd_nil) (Nat.le_of_ble_eq_true rfl) (by simp only [na, nb, nc, nd, nf, ng, nh, ni, nj, nk] <;> rfl) bxle_nil rfl (by simp only [na, nb, nc, nd, nf, ng, nh, ni, nj, nk] <;> rfl) bl_nil ?_
        exact ⟨t_2.1, ⟨le_of_eq (eg oz), trivial⟩, rfl, some_of hz_1⟩
    · rintro e st ⟨vz_1, hH, rfl, rfl⟩
      refine aw_keep _ hH ?_
      refine aw_keep [(4, _)] ⟨lg oz, trivial⟩ ?_
      refine aw_seq ?_
      refine aw_region (by decide) ?_
      refine rts _ rfl (opD_move oz) ?_
      refine rts _ rfl (opD_assign lz) ?_
      refine rts _ rfl (opD_assign (ev_const _ _)) ?_
      refine .nil ?_
      refine aw_keep [(2, _), (3, _)] ⟨lg (ls rfl lz), lg lz, trivial⟩ ?_
      refine aw_ret ?_
      obtain rfl := some_of h0
      exact done_ext (.inr rfl) ((res_list (rs := [_, _]) (ps := [_, _]) rfl rfl ⟨it_tmp oz, it_tmp (os rfl oz), trivial⟩).le (tup_le ⟨(Pd.le_refl _), (Pd.le_refl _), trivial⟩)) (tup_bnd (bnd_cons (pl_bnd _ _ _) (bnd_cons (pl_bnd _ _ _) bnd_nil)))

def F_chalf (p0 : Int) : Option (Int) :=
  grd ((List.replicate 16 (0 : Int)).length = 16) <| grd (([0, 274646895, 549293790, 820201905, 1098587580, 1361435347, 1640403810, 1905808397, 2197175160, 2460548119, 2722870694, 2987750089, 3280807620, 3553878443, 3811616794, 4084100981] : List Int).length = 16) <| grd (Below (bits BinOp.and .u32 p0 15) 16) <| ixb ([0, 274646895, 549293790, 820201905, 1098587580, 1361435347, 1640403810, 1905808397, 2197175160, 2460548119, 2722870694, 2987750089, 3280807620, 3553878443, 3811616794, 4084100981] : List Int) (((bits BinOp.and .u32 p0 15).toNat : Nat) : Int) fun x_1 => some (bits BinOp.xor .u32 (p0 / 2 ^ (4 : Int).toNat) x_1)
set_option maxRecDepth 100000 in
set_option maxHeartbeats 2000000 in
theorem c_chalf {p0 : Int} {R : Int} (h0 : F_chalf p0 = some R) : Pure Go.Proofs.Try.prog 26 [pl (.int .u32 p0)] (pl (.int .u32 R)) := by
  intro s
  unfold F_chalf at h0
  refine ac_of_aw s.boxes.length s.fr.length Go.Proofs.Try.func26 rfl (by simp [Go.Proofs.Try.ntmps26]) ?_
  refine aw_ext0 ?_
  refine aw_keep [(0, _)] ⟨lg ez, trivial⟩ ?_
  refine aw_seq ?_
  refine aw_region (by decide) ?_
  refine rts _ rfl (opD_assign (ev_const _ _)) ?_
  refine .nil ?_
  refine aw_keep [(0, _)] ⟨lg (ls rfl oz), trivial⟩ ?_
  refine aw_seq ?_
  refine aw_region (by decide) ?_
  refine rts _ rfl (opD_ple (q := agg (flat (kI .u32) ([0, 274646895, 549293790, 820201905, 1098587580, 1361435347, 1640403810, 1905808397, 2197175160, 2460548119, 2722870694, 2987750089, 3280807620, 3553878443, 3811616794, 4084100981] : List Int))) rfl (opD_build_array (rs := [pl (.int .u32 0), pl (.int .u32 274646895), pl (.int .u32 549293790), pl (.int .u32 820201905), pl (.int .u32 1098587580), pl (.int .u32 1361435347), pl (.int .u32 1640403810), pl (.int .u32 1905808397), pl (.int .u32 2197175160), pl (.int .u32 2460548119), pl (.int .u32 2722870694), pl (.int .u32 2987750089), pl (.int .u32 3280807620), pl (.int .u32 3553878443), pl (.int .u32 3811616794), pl (.int .u32 4084100981)]) Go.Proofs.Try.underlying58 sz41_UA zt58_UA (parts_cons (cells1 (ev_const _ _) (one_pl rfl)) (parts_cons (cells1 (ev_const _ _) (one_pl rfl)) (parts_cons (cells1 (ev_const _ _) (one_pl rfl)) (parts_cons (cells1 (ev_const _ _) (one_pl rfl)) (parts_cons (cells1 (ev_const _ _) (one_pl rfl)) (parts_cons (cells1 (ev_const _ _) (one_pl rfl)) (parts_cons (cells1 (ev_const _ _) (one_pl rfl)) (parts_cons (cells1 (ev_const _ _) (one_pl rfl)) (parts_cons (cells1 (ev_const _ _) (one_pl rfl)) (parts_cons (cells1 (ev_const _ _) (one_pl rfl)) (parts_cons (cells1 (ev_const _ _) (one_pl rfl)) (parts_cons (cells1 (ev_const _ _) (one_pl rfl)) (parts_cons (cells1 (ev_const _ _) (one_pl rfl)) (parts_cons (cells1 (ev_const _ _) (one_pl rfl)) (parts_cons (cells1 (ev_const _ _) (one_pl rfl)) (parts_cons (cells1 (ev_const _ _) (one_pl rfl)) parts_nil)))))))))))))))) rfl)) ?_
  refine rts _ rfl (allocFN (k := kI .u32) (x0 := 0) (z := .int .u32 0) (m := 16) rfl (by kernel_rfl) rfl (by first | exact List.length_nil | (simp only [List.length_cons, List.length_nil, Nat.zero_add, Nat.reduceAdd] <;> rfl)) (by simp only [na, nb, nc, nd, nf, ng, nh, ni, nj, nk] <;> rfl)) ?_
  replace h0 := grd_some h0
  obtain ⟨hg_1, h0⟩ := h0
  replace h0 := grd_some h0
  obtain ⟨hg_2, h0⟩ := h0
  refine rts _ rfl (storeWF (k := kI .u32) rfl sz58_UA lz (ls rfl lz) rfl rfl hg_1 hg_2 (by decide) (kb_I _) (by simp only [na, nb, nc, nd, nf, ng, nh, ni, nj, nk] <;> rfl)) ?_
  refine .nil ?_
  refine aw_keep [(0, _), (3, _)] ⟨lg (lx (ls rfl (ls rfl oz))), lg (lx lz), trivial⟩ ?_
  refine aw_seq ?_
  refine aw_region (by decide) ?_
  refine rts _ rfl (opD_move oz) ?_
  refine rts _ rfl (opD_shr lz (ev_const _ _) (by decide) (by decide) rfl) ?_
  refine rts _ rfl (opD_move (ls rfl (ls rfl oz))) ?_
  refine rts _ rfl (opD_bits (.inl rfl) lz (ev_const _ _) rfl) ?_
  replace h0 := grd_some h0
  obtain ⟨hg_3, h0⟩ := h0
  refine rts _ rfl (opD_indexAddr_arr (i := (bits BinOp.and .u32 p0 15).toNat) Go.Proofs.Try.underlying58 sz41_UA (ls rfl (ls rfl (ls rfl (ls rfl (os rfl oz))))) lz hg_3.eq hg_3.2) ?_
  replace h0 := ixb_some h0
  obtain ⟨x_1, hx_1, hbx_1, h0⟩ := h0
  refine rts _ rfl (opD_load_one ag41_UA lz (loc_getN rfl rfl) (flat_at0 rfl (nat_ix hx_1) rfl)) ?_
  refine rts _ rfl (opD_bits (.inr (.inr (.inl rfl))) (ls rfl (ls rfl (ls rfl (ls rfl lz)))) lz rfl) ?_
  refine rts _ rfl (opD_assign lz) ?_
  refine .nil ?_
  refine aw_keep [(2, _)] ⟨lg lz, trivial⟩ ?_
  refine aw_ret ?_
  obtain rfl := some_of h0
  exact done_ext (.inr rfl) ((res_one rfl (it_tmp oz)).le (Pd.le_refl _)) (pl_bnd _ _ _)

def F_cmore_b0 (p1 : (List Int)) (t_2 : Int × Int) : Option ((Int × Int) ⊕ ((Int))) :=
  ifb (decide (t_2.2 < (p1.length : Int))) (ixb p1 t_2.2 fun x_4 => bnd (F_chalf (bits BinOp.xor .u32 t_2.1 (IntKind.u32.wrap (x_4)))) fun x_5 => bnd (F_chalf x_5) fun x_6 => some (.inl (x_6, IntKind.i64.wrap (t_2.2 + 1)))) (some (.inr t_2.1))
def F_cmore (fl : Nat) (p0 : Int) (p1 : (List Int)) : Option (Int) :=
  bnd (lp (F_cmore_b0 p1) fl ((bits BinOp.xor .u32 (IntKind.u32.max) p0), 0)) fun z_1 => some (bits BinOp.xor .u32 (IntKind.u32.max) z_1)
set_option maxRecDepth 100000 in
set_option maxHeartbeats 2000000 in
theorem c_cmore {fl : Nat} {p0 : Int} {p1 : (List Int)} {R : Int} (h0 : F_cmore fl p0 p1 = some R) : Pure Go.Proofs.Try.prog 25 [pl (.int .u32 p0), sl (kI .u8) none none p1] (pl (.int .u32 R)) := by
  intro s
  unfold F_cmore at h0
  refine ac_of_aw s.boxes.length s.fr.length Go.Proofs.Try.func25 rfl (by simp [Go.Proofs.Try.ntmps25]) ?_
  refine aw_ext0 ?_
  refine aw_keep [(0, _), (1, _)] ⟨lg ez, lg (es ez), trivial⟩ ?_
  refine aw_seq ?_
  refine aw_region (by decide) ?_
  refine rts _ rfl (opD_assign (ev_const _ _)) ?_
  refine .nil ?_
  refine aw_keep [(0, _), (1, _)] ⟨lg (ls rfl oz), lg (ls rfl (os rfl oz)), trivial⟩ ?_
  refine aw_seq ?_
  refine aw_region (by decide) ?_
  refine rts _ rfl (opD_move oz) ?_
  refine rts _ rfl (opD_complU rfl lz rfl) ?_
  refine rts _ rfl (opD_assign lz) ?_
  refine .nil ?_
  refine aw_keep [(1, _), (5, _)] ⟨lg (ls rfl (ls rfl (ls rfl (os rfl oz)))), lg lz, trivial⟩ ?_
  refine aw_seq ?_
  refine aw_seq ?_
  refine aw_region (by decide) ?_
  refine rts _ rfl (opD_move oz) ?_
  refine rts _ rfl (opD_len_sl Go.Proofs.Try.underlying26 lz) ?_
  refine rts _ rfl (opD_move (ev_const _ _)) ?_
  refine .nil ?_
  refine aw_keep [(5, _), (10, _), (11, _), (12, _)] ⟨lg (ls rfl (ls rfl (ls rfl (os rfl oz)))), lg (ls rfl (ls rfl lz)), lg (ls rfl lz), lg lz, trivial⟩ ?_
  replace h0 := bnd_some h0
  obtain ⟨z_1, hz_1, h0⟩ := h0
  refine aw_mid (fun e st => ∃ v : Int, Holds e [(5, pl (.int .u32 v))] ∧ st = s.ext [] [] ∧ v = z_1) ?_ ?_
  · skip
    refine aw_wkN rfl 0 0 rfl rfl ?_
    refine aw_block ?_
    refine aw_loop (fun n e st => ∃ v : Int × Int, Holds e [(5, pl (.int .u32 v.1)), (10, sl (kI .u8) none none p1), (11, pl (.int .i64 (p1.length : Int))), (12, pl (.int .i64 v.2))] ∧ st = s.ext [] [] ∧ lp (F_cmore_b0 p1) n v = some z_1) fl ⟨((bits BinOp.xor .u32 (IntKind.u32.max) p0), 0), ⟨le_of_eq (eg oz), le_of_eq (eg (os rfl oz)), le_of_eq (eg (os rfl (os rfl oz))), le_of_eq (eg (os rfl (os rfl (os rfl oz)))), trivial⟩, rfl, hz_1⟩ ?_
    rintro n e st ⟨t_2, hH, rfl, hz_1⟩
    replace hz_1 := lp_some hz_1
    obtain ⟨m_z_3, z_3, rfl, hz_3, hz_1⟩ := hz_1
    unfold F_cmore_b0 at hz_3
    refine aw_keep _ hH ?_
    refine aw_wkN rfl 0 0 rfl rfl ?_
    refine aw_seq ?_
    refine aw_region (by decide) ?_
    refine rts _ rfl (opD_lss (os rfl (os rfl (os rfl oz))) (os rfl (os rfl oz))) ?_
    refine .nil ?_
    refine aw_keep [(5, _), (10, _), (11, _), (12, _), (13, _)] ⟨lg (ls rfl oz), lg (ls rfl (os rfl oz)), lg (ls rfl (os rfl (os rfl oz))), lg (ls rfl (os rfl (os rfl (os rfl oz)))), lg lz, trivial⟩ ?_
    refine aw_seq ?_
    refine aw_cond _ (os rfl (os rfl (os rfl (os rfl oz)))) (fun hc => ?_) (fun hc => ?_)
    · skip
      replace hz_3 := ifb_t hz_3 hc
      clear hc
      refine aw_skip ?_
      refine aw_keep [(5, _), (10, _), (11, _), (12, _)] ⟨lg oz, lg (os rfl oz), lg (os rfl (os rfl oz)), lg (os rfl (os rfl (os rfl oz))), trivial⟩ ?_
      refine aw_seq ?_
      refine aw_block ?_
      refine aw_seq ?_
      refine aw_region (by decide) ?_
      replace hz_3 := ixb_some hz_3
      obtain ⟨x_4, hx_4, hbx_4, hz_3⟩ := hz_3
      refine rts _ rfl (opD_indexAddr_sl (i := t_2.2.toNat) Go.Proofs.Try.underlying26 sz5_UA (os rfl oz) (os rfl (os rfl (os rfl oz))) hbx_4.2.2 hbx_4.2.1) ?_
      refine rts _ rfl (opD_load_el_one ag5_UA lz hx_4 rfl) ?_
      refine rts _ rfl (opD_assign lz) ?_
      refine .nil ?_
      refine aw_keep [(5, _), (7, _), (10, _), (11, _), (12, _)] ⟨lg (ls rfl (ls rfl (ls rfl oz))), lg lz, lg (ls rfl (ls rfl (ls rfl (os rfl oz)))), lg (ls rfl (ls rfl (ls rfl (os rfl (os rfl oz))))), lg (ls rfl (ls rfl (ls rfl (os rfl (os rfl (os rfl oz)))))), trivial⟩ ?_
      refine aw_region (by decide) ?_
      refine rts _ rfl (opD_move oz) ?_
      refine rts _ rfl (opD_move (ls rfl (os rfl oz))) ?_
      refine rts _ rfl (opD_conv_int Go.Proofs.Try.underlying5 Go.Proofs.Try.underlying41 lz rfl) ?_
      refine rts _ rfl (opD_bits (.inr (.inr (.inl rfl))) (ls rfl (ls rfl lz)) lz rfl) ?_
      replace hz_3 := bnd_some hz_3
      obtain ⟨x_5, hx_5, hz_3⟩ := hz_3
      refine rts _ rfl (opD_pure ht26_UA (c_chalf hx_5) ⟨le_of_eq lz, trivial⟩) ?_
      replace hz_3 := bnd_some hz_3
      obtain ⟨x_6, hx_6, hz_3⟩ := hz_3
      refine rts _ rfl (opD_pure ht26_UA (c_chalf hx_6) ⟨le_of_eq lz, trivial⟩) ?_
      refine rts _ rfl (opD_assign lz) ?_
      refine .nil ?_
      refine aw_keep [(5, _), (10, _), (11, _), (12, _)] ⟨lg lz, lg (ls rfl (ls rfl (ls rfl (ls rfl (ls rfl (ls rfl (ls rfl (os rfl (os rfl oz))))))))), lg (ls rfl (ls rfl (ls rfl (ls rfl (ls rfl (ls rfl (ls rfl (os rfl (os rfl (os rfl oz)))))))))), lg (ls rfl (ls rfl (ls rfl (ls rfl (ls rfl (ls rfl (ls rfl (os rfl (os rfl (os rfl (os rfl oz))))))))))), trivial⟩ ?_
      refine aw_region (by decide) ?_
      refine rts _ rfl (opD_add (os rfl (os rfl (os rfl oz))) (ev_const _ _) rfl) ?_
      refine rts _ rfl (opD_move lz) ?_
      refine .nil ?_
      obtain rfl := some_of hz_3
      replace hz_1 := ocs_l hz_1
      refine wk_yesN rfl (l := [(5, pl (.int .u32 x_6)), (10, sl (kI .u8) none none p1), (11, pl (.int .i64 (p1.length : Int))), (12, pl (.int .i64 (IntKind.i64.wrap (t_2.2 + 1))))]) (bs' := []) ⟨le_of_eq (eg (ls rfl (ls rfl oz))), le_of_eq (eg (ls rfl (ls rfl (os rfl oz)))), le_of_eq (eg (ls rfl (ls rfl (os rfl (os rfl oz))))), le_of_eq (eg lz), trivial⟩ (bnd_cons (pl_bnd _ _ _) (bnd_cons (sl_b (kb_I _)) (bnd_cons (pl_bnd _ _ _) (bnd_cons (pl_bnd _ _ _) bnd_nil)))) (Nat.le_of_ble_eq_true rfl) (by simp only [na, nb, nc, nd, nf, ng, nh, ni, nj, nk] <;> rfl) bxle_nil rfl (by simp only [na, nb, nc, nd, nf, ng, nh, ni, nj, nk] <;> rfl) bl_nil ?_
      exact ⟨m_z_3, Nat.lt_succ_self _, (x_6, IntKind.i64.wrap (t_2.2 + 1)), ⟨le_of_eq (eg oz), le_of_eq (eg (os rfl oz)), le_of_eq (eg (os rfl (os rfl oz))), le_of_eq (eg (os rfl (os rfl (os rfl oz)))), trivial⟩, rfl, hz_1⟩
    · skip
      replace hz_3 := ifb_f hz_3 hc
      clear hc
      refine aw_exit ?_
      obtain rfl := some_of hz_3
      replace hz_1 := ocs_r hz_1
      refine wk_no ?_
      refine wk_yesN rfl (l := [(5, pl (.int .u32 t_2.1))]) (bs' := []) ⟨le_of_eq (eg oz), trivial⟩ (bnd_cons (pl_bnd _ _ _) bnd_nil) (Nat.le_of_ble_eq_true rfl) (by simp only [na, nb, nc, nd, nf, ng, nh, ni, nj, nk] <;> rfl) bxle_nil rfl (by simp only [na, nb, nc, nd, nf, ng, nh, ni, nj, nk] <;> rfl) bl_nil ?_
      exact ⟨t_2.1, ⟨le_of_eq (eg oz), trivial⟩, rfl, some_of hz_1⟩
  · rintro e st ⟨vz_1, hH, rfl, rfl⟩
    refine aw_keep _ hH ?_
    refine aw_keep [(5, _)] ⟨lg oz, trivial⟩ ?_
    refine aw_seq ?_
    refine aw_region (by decide) ?_
    refine rts _ rfl (opD_move oz) ?_
    refine rts _ rfl (opD_complU rfl lz rfl) ?_
    refine rts _ rfl (opD_assign lz) ?_
    refine .nil ?_
    refine aw_keep [(4, _)] ⟨lg lz, trivial⟩ ?_
    refine aw_ret ?_
    obtain rfl := some_of h0
    exact done_ext (.inr rfl) ((res_one rfl (it_tmp oz)).le (Pd.le_refl _)) (pl_bnd _ _ _)

def F_csum (fl : Nat) (p0 : (List Int)) : Option (Int) :=
  bnd (F_cmore fl 0 p0) fun x_1 => some x_1
set_option maxRecDepth 100000 in
set_option maxHeartbeats 2000000 in
theorem c_csum {fl : Nat} {p0 : (List Int)} {R : Int} (h0 : F_csum fl p0 = some R) : Pure Go.Proofs.Try.prog 23 [sl (kI .u8) none none p0] (pl (.int .u32 R)) := by
  intro s
  unfold F_csum at h0
  refine ac_of_aw s.boxes.length s.fr.length Go.Proofs.Try.func23 rfl (by simp [Go.Proofs.Try.ntmps23]) ?_
  refine aw_ext0 ?_
  refine aw_keep [(0, _)] ⟨lg ez, trivial⟩ ?_
  refine aw_seq ?_
  refine aw_region (by decide) ?_
  refine rts _ rfl (opD_assign (ev_const _ _)) ?_
  refine .nil ?_
  refine aw_keep [(0, _)] ⟨lg (ls rfl oz), trivial⟩ ?_
  refine aw_seq ?_
  refine aw_region (by decide) ?_
  refine rts _ rfl (opD_move oz) ?_
  replace h0 := bnd_some h0
  obtain ⟨x_1, hx_1, h0⟩ := h0
  refine rts _ rfl (opD_pure ht25_UA (c_cmore hx_1) ⟨le_of_eq (ev_const _ _), le_of_eq lz, trivial⟩) ?_
  refine rts _ rfl (opD_assign lz) ?_
  refine .nil ?_
  refine aw_keep [(2, _)] ⟨lg lz, trivial⟩ ?_
  refine aw_ret ?_
  obtain rfl := some_of h0
  exact done_ext (.inr rfl) ((res_one rfl (it_tmp oz)).le (Pd.le_refl _)) (pl_bnd _ _ _)

def F_cis (fl : Nat) (p0 : (List Int)) : Option (Bool) :=
  ifb (decide ((IntKind.i64.wrap ((p0.length : Int) - 4)) < 0)) (some false) (grd (UpTo (IntKind.i64.wrap ((p0.length : Int) - 4)) p0.length) <| bnd (F_iget fl (p0.drop ((IntKind.i64.wrap ((p0.length : Int) - 4)).toNat))) fun x_1 => grd ((x_1.2.isNone == true) = true → UpTo (IntKind.i64.wrap ((p0.length : Int) - 4)) p0.length) <| bnd (gif (x_1.2.isNone == true) (F_csum fl (p0.take ((IntKind.i64.wrap ((p0.length : Int) - 4)).toNat)))) fun x_2 => some (x_1.2.isNone && (decide ((IntKind.u32.wrap (x_1.1)) = x_2))))
set_option maxRecDepth 100000 in
set_option maxHeartbeats 2000000 in
theorem c_cis {fl : Nat} {p0 : (List Int)} {R : Bool} (h0 : F_cis fl p0 = some R) : Pure Go.Proofs.Try.prog 17 [sl (kI .u8) none none p0] (pl (.bool R)) := by
  intro s
  unfold F_cis at h0
  refine ac_of_aw s.boxes.length s.fr.length Go.Proofs.Try.func17 rfl (by simp [Go.Proofs.Try.ntmps17]) ?_
  refine aw_ext0 ?_
  refine aw_keep [(0, _)] ⟨lg ez, trivial⟩ ?_
  refine aw_seq ?_
  refine aw_region (by decide) ?_
  refine rts _ rfl (opD_assign (ev_const _ _)) ?_
  refine .nil ?_
  refine aw_keep [(0, _)] ⟨lg (ls rfl oz), trivial⟩ ?_
  refine aw_seq ?_
  refine aw_region (by decide) ?_
  refine rts _ rfl (opD_move oz) ?_
  refine rts _ rfl (opD_len_sl Go.Proofs.Try.underlying26 lz) ?_
  refine rts _ rfl (opD_sub lz (ev_const _ _) rfl) ?_
  refine rts _ rfl (opD_assign lz) ?_
  refine .nil ?_
  refine aw_keep [(0, _), (3, _)] ⟨lg (ls rfl (ls rfl (ls rfl (ls rfl oz)))), lg lz, trivial⟩ ?_
  refine aw_seq ?_
  refine aw_seq ?_
  refine aw_region (by decide) ?_
  refine rts _ rfl (opD_move (os rfl oz)) ?_
  refine rts _ rfl (opD_lss lz (ev_const _ _)) ?_
  refine .nil ?_
  refine aw_keep [(0, _), (3, _), (10, _)] ⟨lg (ls rfl (ls rfl oz)), lg (ls rfl (ls rfl (os rfl oz))), lg lz, trivial⟩ ?_
  refine aw_cond _ (os rfl (os rfl oz)) (fun hc => ?_) (fun hc => ?_)
  · skip
    replace h0 := ifb_t h0 hc
    clear hc
    refine aw_seq ?_
    refine aw_region (by decide) ?_
    refine rts _ rfl (opD_assign (ev_const _ _)) ?_
    refine .nil ?_
    refine aw_keep [(2, _)] ⟨lg lz, trivial⟩ ?_
    refine aw_ret ?_
    obtain rfl := some_of h0
    exact done_ext (.inr rfl) ((res_one rfl (it_tmp oz)).le (Pd.le_refl _)) (pl_bnd _ _ _)
  · skip
    replace h0 := ifb_f h0 hc
    clear hc
    refine aw_skip ?_
    refine aw_keep [(0, _), (3, _)] ⟨lg oz, lg (os rfl oz), trivial⟩ ?_
    refine aw_seq ?_
    refine aw_region (by decide) ?_
    refine rts _ rfl (opD_move oz) ?_
    refine rts _ rfl (opD_move (ls rfl (os rfl oz))) ?_
    replace h0 := grd_some h0
    obtain ⟨hg_1, h0⟩ := h0
    refine rts _ rfl (opD_slice_from ((IntKind.i64.wrap ((p0.length : Int) - 4)).toNat) Go.Proofs.Try.underlying26 sz5_UA (ls rfl lz) lz hg_1.eq hg_1.2) ?_
    replace h0 := bnd_some h0
    obtain ⟨x_1, hx_1, h0⟩ := h0
    refine rts _ rfl (opD_pure ht22_UA (c_iget hx_1) ⟨le_of_eq lz, trivial⟩) ?_
    refine rts _ rfl (opD_move lz) ?_
    refine rts _ rfl (opD_extract lz rfl) ?_
    refine rts _ rfl (opD_extract (ls rfl lz) rfl) ?_
    refine rts _ rfl (opD_assign (ls rfl lz)) ?_
    refine rts _ rfl (opD_assign (ls rfl lz)) ?_
    refine .nil ?_
    refine aw_keep [(0, _), (3, _), (4, _), (5, _)] ⟨lg (ls rfl (ls rfl (ls rfl (ls rfl (ls rfl (ls rfl (ls rfl (ls rfl (ls rfl oz))))))))), lg (ls rfl (ls rfl (ls rfl (ls rfl (ls rfl (ls rfl (ls rfl (ls rfl (ls rfl (os rfl oz)))))))))), lg (ls rfl lz), lg lz, trivial⟩ ?_
    refine aw_seq ?_
    refine aw_region (by decide) ?_
    refine rts _ rfl (opD_move (os rfl (os rfl (os rfl oz)))) ?_
    refine rts _ rfl (opD_bin lz (ev_const _ _) (fun w => errV_geql _ w _) (fun w => errV_eql _ w)) ?_
    refine rts _ rfl (opD_move lz) ?_
    refine rtg _ rfl lz (fun hg5_3_2 => opD_move (ls rfl (ls rfl (ls rfl (os rfl (os rfl oz)))))) ?_
    refine rtg _ rfl (ls rfl lz) (fun hg5_4_3 => opD_conv_int Go.Proofs.Try.underlying23 Go.Proofs.Try.underlying41 (lz.trans (pif_pos hg5_4_3)) rfl) ?_
    refine rtg _ rfl (ls rfl (ls rfl lz)) (fun hg5_5_4 => opD_move (ls rfl (ls rfl (ls rfl (ls rfl (ls rfl oz)))))) ?_
    refine rtg _ rfl (ls rfl (ls rfl (ls rfl lz))) (fun hg5_6_5 => opD_move (ls rfl (ls rfl (ls rfl (ls rfl (ls rfl (ls rfl (os rfl oz)))))))) ?_
    replace h0 := grd_some h0
    obtain ⟨hg_7, h0⟩ := h0
    refine rtg _ rfl (ls rfl (ls rfl (ls rfl (ls rfl lz)))) (fun hg5_7_6 => opD_slice_to ((IntKind.i64.wrap ((p0.length : Int) - 4)).toNat) Go.Proofs.Try.underlying26 sz5_UA ((ls rfl lz).trans (pif_pos hg5_7_6)) (lz.trans (pif_pos hg5_7_6)) (hg_7 hg5_7_6).eq (hg_7 hg5_7_6).2) ?_
    replace h0 := bnd_some h0
    obtain ⟨x_2, hx_2, h0⟩ := h0
    refine rtg _ rfl (ls rfl (ls rfl (ls rfl (ls rfl (ls rfl lz))))) (fun hg5_8_8 => opD_pure ht23_UA (c_csum (gif_some hx_2 hg5_8_8)) ⟨le_of_eq (lz.trans (pif_pos hg5_8_8)), trivial⟩) ?_
    refine rtg _ rfl (ls rfl (ls rfl (ls rfl (ls rfl (ls rfl (ls rfl lz)))))) (fun hg5_9_9 => opD_eql ((ls rfl (ls rfl (ls rfl (ls rfl lz)))).trans (pif_pos hg5_9_9)) (lz.trans (pif_pos hg5_9_9))) ?_
    refine rts _ rfl (opD_and (ls rfl (ls rfl (ls rfl (ls rfl (ls rfl (ls rfl (ls rfl lz))))))) lz) ?_
    refine rts _ rfl (opD_assign lz) ?_
    refine .nil ?_
    refine aw_keep [(2, _)] ⟨lg lz, trivial⟩ ?_
    refine aw_ret ?_
    obtain rfl := some_of h0
    exact done_ext (.inr rfl) ((res_one rfl (it_tmp oz)).le (Pd.le_refl _)) (pl_bnd _ _ _)

def F_kinded (p0 : Int) : Option (Bool) :=
  some ((decide (1 ≤ p0)) && (decide (p0 ≤ 5)))
set_option maxRecDepth 100000 in
set_option maxHeartbeats 2000000 in
theorem c_kinded {p0 : Int} {R : Bool} (h0 : F_kinded p0 = some R) : Pure Go.Proofs.Try.prog 18 [pl (.int .u8 p0)] (pl (.bool R)) := by
  intro s
  unfold F_kinded at h0
  refine ac_of_aw s.boxes.length s.fr.length Go.Proofs.Try.func18 rfl (by simp [Go.Proofs.Try.ntmps18]) ?_
  refine aw_ext0 ?_
  refine aw_keep [(0, _)] ⟨lg ez, trivial⟩ ?_
  refine aw_seq ?_
  refine aw_region (by decide) ?_
  refine rts _ rfl (opD_assign (ev_const _ _)) ?_
  refine .nil ?_
  refine aw_keep [(0, _)] ⟨lg (ls rfl oz), trivial⟩ ?_
  refine aw_seq ?_
  refine aw_region (by decide) ?_
  refine rts _ rfl (opD_move oz) ?_
  refine rts _ rfl (opD_geq lz (ev_const _ _)) ?_
  refine rts _ rfl (opD_move lz) ?_
  refine rtg _ rfl lz (fun hg1_3_1 => opD_move (ls rfl (ls rfl (ls rfl oz)))) ?_
  refine rtg _ rfl (ls rfl lz) (fun hg1_4_2 => opD_leq (lz.trans (pif_pos hg1_4_2)) (ev_const _ _)) ?_
  refine rts _ rfl (opD_and (ls rfl (ls rfl lz)) lz) ?_
  refine rts _ rfl (opD_assign lz) ?_
  refine .nil ?_
  refine aw_keep [(2, _)] ⟨lg lz, trivial⟩ ?_
  refine aw_ret ?_
  obtain rfl := some_of h0
  exact done_ext (.inr rfl) ((res_one rfl (it_tmp oz)).le (Pd.le_refl _)) (pl_bnd _ _ _)

def F_sopen (fl : Nat) (p0 : (List Int)) : Option (Int × (List Int) × (Option Int)) :=
  ifb (decide ((p0.length : Int) ≠ 512)) (some (0, [], some 3)) (bnd (F_cis fl p0) fun x_1 => ifb (!x_1) (some (0, [], some 4)) (ixb p0 2 fun x_2 => ixb p0 3 fun x_3 => ixb p0 0 fun x_4 => bnd (F_kinded x_4) fun x_5 => grd (((!x_5) == false) = true → Below 1 p0.length) <| grd (((((!x_5) || (decide ((p0.getD (1 : Int).toNat default) ≠ 0))) || (decide (504 < (bits BinOp.or .i64 (IntKind.i64.wrap ((IntKind.i64.wrap (x_2)) * 2 ^ (8 : Int).toNat)) (IntKind.i64.wrap (x_3)))))) == false) = true → Btw (IntKind.i64.wrap (4 + (bits BinOp.or .i64 (IntKind.i64.wrap ((IntKind.i64.wrap (x_2)) * 2 ^ (8 : Int).toNat)) (IntKind.i64.wrap (x_3))))) 508 p0.length) <| bnd (gif ((((!x_5) || (decide ((p0.getD (1 : Int).toNat default) ≠ 0))) || (decide (504 < (bits BinOp.or .i64 (IntKind.i64.wrap ((IntKind.i64.wrap (x_2)) * 2 ^ (8 : Int).toNat)) (IntKind.i64.wrap (x_3)))))) == false) (F_blank fl ((p0.take ((508 : Int).toNat)).drop ((IntKind.i64.wrap (4 + (bits BinOp.or .i64 (IntKind.i64.wrap ((IntKind.i64.wrap (x_2)) * 2 ^ (8 : Int).toNat)) (IntKind.i64.wrap (x_3))))).toNat)))) fun x_6 => ifb ((((!x_5) || (decide ((p0.getD (1 : Int).toNat default) ≠ 0))) || (decide (504 < (bits BinOp.or .i64 (IntKind.i64.wrap ((IntKind.i64.wrap (x_2)) * 2 ^ (8 : Int).toNat)) (IntKind.i64.wrap (x_3)))))) || (!x_6)) (some (0, [], some 3)) (ixb p0 0 fun x_7 => grd (Btw 4 (IntKind.i64.wrap (4 + (bits BinOp.or .i64 (IntKind.i64.wrap ((IntKind.i64.wrap (x_2)) * 2 ^ (8 : Int).toNat)) (IntKind.i64.wrap (x_3))))) p0.length) <| bnd (oClone 1 ((p0.take ((IntKind.i64.wrap (4 + (bits BinOp.or .i64 (IntKind.i64.wrap ((IntKind.i64.wrap (x_2)) * 2 ^ (8 : Int).toNat)) (IntKind.i64.wrap (x_3))))).toNat)).drop ((4 : Int).toNat))) fun x_8 => some (x_7, x_8, none))))
set_option maxRecDepth 100000 in
set_option maxHeartbeats 2000000 in
theorem c_sopen {fl : Nat} {p0 : (List Int)} {R : Int × (List Int) × (Option Int)} (h0 : F_sopen fl p0 = some R) : Pure Go.Proofs.Try.prog 14 [sl (kI .u8) none none p0] (tup [pl (.int .u8 R.1), sl (kI .u8) none none R.2.1, pl (errV R.2.2)]) := by
  intro s
  unfold F_sopen at h0
  refine ac_of_aw s.boxes.length s.fr.length Go.Proofs.Try.func14 rfl (by simp [Go.Proofs.Try.ntmps14]) ?_
  refine aw_ext0 ?_
  refine aw_keep [(0, _)] ⟨lg ez, trivial⟩ ?_
  refine aw_seq ?_
  refine aw_region (by decide) ?_
  refine rts _ rfl (opD_assign (ev_const _ _)) ?_
  refine rts _ rfl (opD_assign (ev_const _ _)) ?_
  refine rts _ rfl (opD_assign (ev_const _ _)) ?_
  refine .nil ?_
  refine aw_keep [(0, _)] ⟨lg (ls rfl (ls rfl (ls rfl oz))), trivial⟩ ?_
  refine aw_seq ?_
  refine aw_block ?_
  refine aw_seq ?_
  refine aw_region (by decide) ?_
  refine rts _ rfl (opD_move oz) ?_
  refine rts _ rfl (opD_len_sl Go.Proofs.Try.underlying26 lz) ?_
  refine rts _ rfl (opD_neq lz (ev_const _ _)) ?_
  refine rts _ rfl (opD_assign lz) ?_
  refine .nil ?_
  refine aw_keep [(0, _), (6, _)] ⟨lg (ls rfl (ls rfl (ls rfl (ls rfl oz)))), lg lz, trivial⟩ ?_
  refine aw_cond _ (os rfl oz) (fun hc => ?_) (fun hc => ?_)
  · skip
    replace h0 := ifb_t h0 hc
    clear hc
    refine aw_seq ?_
    refine aw_region (by decide) ?_
    refine rts _ rfl (opD_ple (q := pl (errV (some 3))) rfl (opD_makeInterface_pl cc50_UA (ev_const _ _))) ?_
    refine rts _ rfl (opD_assign (ev_const _ _)) ?_
    refine rts _ rfl (opD_assign (ev_const _ _)) ?_
    refine rts _ rfl (opD_assign (ls rfl (ls rfl lz))) ?_
    refine .nil ?_
    refine aw_keep [(2, _), (3, _), (4, _)] ⟨lg (ls rfl (ls rfl lz)), lg (ls rfl lz), lg lz, trivial⟩ ?_
    refine aw_ret ?_
    obtain rfl := some_of h0
    exact done_ext (.inr rfl) ((res_list (rs := [_, _, _]) (ps := [_, _, _]) rfl rfl ⟨it_tmp oz, it_tmp (os rfl oz), it_tmp (os rfl (os rfl oz)), trivial⟩).le (tup_le ⟨(Pd.le_refl _), (le_nil rfl), (Pd.le_refl _), trivial⟩)) (tup_bnd (bnd_cons (pl_bnd _ _ _) (bnd_cons (sl_b (kb_I _)) (bnd_cons (pl_bnd _ _ _) bnd_nil))))
  · skip
    replace h0 := ifb_f h0 hc
    clear hc
    refine aw_seq ?_
    refine aw_region (by decide) ?_
    refine rts _ rfl (opD_move oz) ?_
    replace h0 := bnd_some h0
    obtain ⟨x_1, hx_1, h0⟩ := h0
    refine rts _ rfl (opD_pure ht17_UA (c_cis hx_1) ⟨le_of_eq lz, trivial⟩) ?_
    refine rts _ rfl (opD_not lz) ?_
    refine rts _ rfl (opD_assign lz) ?_
    refine .nil ?_
    refine aw_keep [(0, _), (11, _)] ⟨lg (ls rfl (ls rfl (ls rfl (ls rfl oz)))), lg lz, trivial⟩ ?_
    refine aw_cond _ (os rfl oz) (fun hc => ?_) (fun hc => ?_)
    · skip
      replace h0 := ifb_t h0 hc
      clear hc
      refine aw_seq ?_
      refine aw_region (by decide) ?_
      refine rts _ rfl (opD_ple (q := pl (errV (some 4))) rfl (opD_makeInterface_pl cc50_UA (ev_const _ _))) ?_
      refine rts _ rfl (opD_assign (ev_const _ _)) ?_
      refine rts _ rfl (opD_assign (ev_const _ _)) ?_
      refine rts _ rfl (opD_assign (ls rfl (ls rfl lz))) ?_
      refine .nil ?_
      refine aw_keep [(2, _), (3, _), (4, _)] ⟨lg (ls rfl (ls rfl lz)), lg (ls rfl lz), lg lz, trivial⟩ ?_
      refine aw_ret ?_
      obtain rfl := some_of h0
      exact done_ext (.inr rfl) ((res_list (rs := [_, _, _]) (ps := [_, _, _]) rfl rfl ⟨it_tmp oz, it_tmp (os rfl oz), it_tmp (os rfl (os rfl oz)), trivial⟩).le (tup_le ⟨(Pd.le_refl _), (le_nil rfl), (Pd.le_refl _), trivial⟩)) (tup_bnd (bnd_cons (pl_bnd _ _ _) (bnd_cons (sl_b (kb_I _)) (bnd_cons (pl_bnd _ _ _) bnd_nil))))
    · skip
      replace h0 := ifb_f h0 hc
      clear hc
      refine aw_skip ?_
      refine aw_keep [(0, _)] ⟨lg oz, trivial⟩ ?_
      refine aw_seq ?_
      refine aw_flat mixed_UA (by decide +kernel) ?_
      refine zts _ rfl (opD_move oz) ?_
      replace h0 := ixb_some h0
      obtain ⟨x_2, hx_2, hbx_2, h0⟩ := h0
      refine zts _ rfl (opD_indexAddr_sl (i := (2 : Int).toNat) Go.Proofs.Try.underlying26 sz5_UA lz (ev_const _ _) hbx_2.2.2 hbx_2.2.1) ?_
      refine zts _ rfl (opD_load_el_one ag5_UA lz hx_2 rfl) ?_
      refine zts _ rfl (opD_conv_int Go.Proofs.Try.underlying5 Go.Proofs.Try.underlying3 lz rfl) ?_
      refine zts _ rfl (opD_shl lz (ev_const _ _) (by decide) (by decide) rfl) ?_
      refine zts _ rfl (opD_move (ls rfl (ls rfl (ls rfl (ls rfl (ls rfl oz)))))) ?_
      replace h0 := ixb_some h0
      obtain ⟨x_3, hx_3, hbx_3, h0⟩ := h0
      refine zts _ rfl (opD_indexAddr_sl (i := (3 : Int).toNat) Go.Proofs.Try.underlying26 sz5_UA lz (ev_const _ _) hbx_3.2.2 hbx_3.2.1) ?_
      refine zts _ rfl (opD_load_el_one ag5_UA lz hx_3 rfl) ?_
      refine zts _ rfl (opD_conv_int Go.Proofs.Try.underlying5 Go.Proofs.Try.underlying3 lz rfl) ?_
      refine zts _ rfl (opD_bits (.inr (.inl rfl)) (ls rfl (ls rfl (ls rfl (ls rfl lz)))) lz rfl) ?_
      refine zts _ rfl (opD_assign lz) ?_
      refine .nil ?_
      refine aw_keep [(0, _), (5, _)] ⟨lg (ls rfl (ls rfl (ls rfl (ls rfl (ls rfl (ls rfl (ls rfl (ls rfl (ls rfl (ls rfl (ls rfl oz))))))))))), lg lz, trivial⟩ ?_
      refine aw_seq ?_
      refine aw_seq ?_
      refine aw_region (by decide) ?_
      refine rts _ rfl (opD_move oz) ?_
      replace h0 := ixb_some h0
      obtain ⟨x_4, hx_4, hbx_4, h0⟩ := h0
      refine rts _ rfl (opD_indexAddr_sl (i := (0 : Int).toNat) Go.Proofs.Try.underlying26 sz5_UA lz (ev_const _ _) hbx_4.2.2 hbx_4.2.1) ?_
      refine rts _ rfl (opD_load_el_one ag5_UA lz hx_4 rfl) ?_
      replace h0 := bnd_some h0
      obtain ⟨x_5, hx_5, h0⟩ := h0
      refine rts _ rfl (opD_pure ht18_UA (c_kinded hx_5) ⟨le_of_eq lz, trivial⟩) ?_
      refine rts _ rfl (opD_not lz) ?_
      refine rts _ rfl (opD_move lz) ?_
      refine rtg _ rfl lz (fun hg6_6_1 => opD_move (ls rfl (ls rfl (ls rfl (ls rfl (ls rfl (ls rfl oz))))))) ?_
      replace h0 := grd_some h0
      obtain ⟨hg_3, h0⟩ := h0
      refine rtg _ rfl (ls rfl lz) (fun hg6_7_2 => opD_indexAddr_sl (i := (1 : Int).toNat) Go.Proofs.Try.underlying26 sz5_UA (lz.trans (pif_pos hg6_7_2)) (ev_const _ _) (hg_3 hg6_7_2).eq (hg_3 hg6_7_2).2) ?_
      refine rtg _ rfl (ls rfl (ls rfl lz)) (fun hg6_8_4 => opD_load_el_one ag5_UA (lz.trans (pif_pos hg6_8_4)) (at_getD default (hg_3 hg6_8_4).2) rfl) ?_
      refine rtg _ rfl (ls rfl (ls rfl (ls rfl lz))) (fun hg6_9_5 => opD_neq (lz.trans (pif_pos hg6_9_5)) (ev_const _ _)) ?_
      refine rts _ rfl (opD_or (ls rfl (ls rfl (ls rfl (ls rfl lz)))) lz) ?_
      refine rts _ rfl (opD_move lz) ?_
      refine rtg _ rfl lz (fun hg6_12_6 => opD_move (ls rfl (ls rfl (ls rfl (ls rfl (ls rfl (ls rfl (ls rfl (ls rfl (ls rfl (ls rfl (ls rfl (ls rfl (os rfl oz)))))))))))))) ?_
      refine rtg _ rfl (ls rfl lz) (fun hg6_13_7 => opD_gtr (lz.trans (pif_pos hg6_13_7)) (ev_const _ _)) ?_
      refine rts _ rfl (opD_or (ls rfl (ls rfl lz)) lz) ?_
      refine rts _ rfl (opD_move lz) ?_
      refine rtg _ rfl lz (fun hg6_16_8 => opD_move (ls rfl (ls rfl (ls rfl (ls rfl (ls rfl (ls rfl (ls rfl (ls rfl (ls rfl (ls rfl (ls rfl (ls rfl (ls rfl (ls rfl (ls rfl (ls rfl oz))))))))))))))))) ?_
      refine rtg _ rfl (ls rfl lz) (fun hg6_17_9 => opD_move (ls rfl (ls rfl (ls rfl (ls rfl (ls rfl (ls rfl (ls rfl (ls rfl (ls rfl (ls rfl (ls rfl (ls rfl (ls rfl (ls rfl (ls rfl (ls rfl (ls rfl (os rfl oz))))))))))))))))))) ?_
      refine rtg _ rfl (ls rfl (ls rfl lz)) (fun hg6_18_10 => opD_add (ev_const _ _) (lz.trans (pif_pos hg6_18_10)) rfl) ?_
      replace h0 := grd_some h0
      obtain ⟨hg_12, h0⟩ := h0
      refine rtg _ rfl (ls rfl (ls rfl (ls rfl lz))) (fun hg6_19_11 => opD_slice_ij ((IntKind.i64.wrap (4 + (bits BinOp.or .i64 (IntKind.i64.wrap ((IntKind.i64.wrap (x_2)) * 2 ^ (8 : Int).toNat)) (IntKind.i64.wrap (x_3))))).toNat) ((508 : Int).toNat) Go.Proofs.Try.underlying26 sz5_UA ((ls rfl (ls rfl lz)).trans (pif_pos hg6_19_11)) (lz.trans (pif_pos hg6_19_11)) (ev_const _ _) (hg_12 hg6_19_11).eq1 (hg_12 hg6_19_11).eq2 (hg_12 hg6_19_11).le (hg_12 hg6_19_11).2.2) ?_
      replace h0 := bnd_some h0
      obtain ⟨x_6, hx_6, h0⟩ := h0
      refine rtg _ rfl (ls rfl (ls rfl (ls rfl (ls rfl lz)))) (fun hg6_20_13 => opD_pure ht15_UA (c_blank (gif_some hx_6 hg6_20_13)) ⟨le_of_eq (lz.trans (pif_pos hg6_20_13)), trivial⟩) ?_
      refine rtg _ rfl (ls rfl (ls rfl (ls rfl (ls rfl (ls rfl lz))))) (fun hg6_21_14 => opD_not (lz.trans (pif_pos hg6_21_14))) ?_
      refine rts _ rfl (opD_or (ls rfl (ls rfl (ls rfl (ls rfl (ls rfl (ls rfl lz)))))) lz) ?_
      refine .nil ?_
      refine aw_keep [(0, _), (5, _), (48, _)] ⟨lg (ls rfl (ls rfl (ls rfl (ls rfl (ls rfl (ls rfl (ls rfl (ls rfl (ls rfl (ls rfl (ls rfl (ls rfl (ls rfl (ls rfl (ls rfl (ls rfl (ls rfl (ls rfl (ls rfl (ls rfl (ls rfl (ls rfl (ls rfl oz))))))))))))))))))))))), lg (ls rfl (ls rfl (ls rfl (ls rfl (ls rfl (ls rfl (ls rfl (ls rfl (ls rfl (ls rfl (ls rfl (ls rfl (ls rfl (ls rfl (ls rfl (ls rfl (ls rfl (ls rfl (ls rfl (ls rfl (ls rfl (ls rfl (ls rfl (os rfl oz)))))))))))))))))))))))), lg lz, trivial⟩ ?_
      refine aw_cond _ (os rfl (os rfl oz)) (fun hc => ?_) (fun hc => ?_)
      · skip
        replace h0 := ifb_t h0 hc
        clear hc
        refine aw_seq ?_
        refine aw_region (by decide) ?_
        refine rts _ rfl (opD_ple (q := pl (errV (some 3))) rfl (opD_makeInterface_pl cc50_UA (ev_const _ _))) ?_
        refine rts _ rfl (opD_assign (ev_const _ _)) ?_
        refine rts _ rfl (opD_assign (ev_const _ _)) ?_
        refine rts _ rfl (opD_assign (ls rfl (ls rfl lz))) ?_
        refine .nil ?_
        refine aw_keep [(2, _), (3, _), (4, _)] ⟨lg (ls rfl (ls rfl lz)), lg (ls rfl lz), lg lz, trivial⟩ ?_
        refine aw_ret ?_
        obtain rfl := some_of h0
        exact done_ext (.inr rfl) ((res_list (rs := [_, _, _]) (ps := [_, _, _]) rfl rfl ⟨it_tmp oz, it_tmp (os rfl oz), it_tmp (os rfl (os rfl oz)), trivial⟩).le (tup_le ⟨(Pd.le_refl _), (le_nil rfl), (Pd.le_refl _), trivial⟩)) (tup_bnd (bnd_cons (pl_bnd _ _ _) (bnd_cons (sl_b (kb_I _)) (bnd_cons (pl_bnd _ _ _) bnd_nil))))
      · skip
        replace h0 := ifb_f h0 hc
        clear hc
        refine aw_skip ?_
        refine aw_keep [(0, _), (5, _)] ⟨lg oz, lg (os rfl oz), trivial⟩ ?_
        refine aw_seq ?_
        refine aw_drawn [false, false, false, false, false, false, false, true, false, false, false] [[0, 1], [0, 1], [0, 1], [0], [0], [0], [0], [0, 1], [1], [1], [1]] mixed_UA (by decide +kernel) ?_
        refine dtp _ rfl (fun s => opD_move oz) ?_
        replace h0 := ixb_some h0
        obtain ⟨x_7, hx_7, hbx_7, h0⟩ := h0
        refine dtp _ rfl (fun s => opD_indexAddr_sl (i := (0 : Int).toNat) Go.Proofs.Try.underlying26 sz5_UA lz (ev_const _ _) hbx_7.2.2 hbx_7.2.1) ?_
        refine dtp _ rfl (fun s => opD_load_el_one ag5_UA lz hx_7 rfl) ?_
        refine dtp _ rfl (fun s => opD_move (ls rfl (ls rfl (ls rfl oz)))) ?_
        refine dtp _ rfl (fun s => opD_move (ls rfl (ls rfl (ls rfl (ls rfl (os rfl oz)))))) ?_
        refine dtp _ rfl (fun s => opD_add (ev_const _ _) lz rfl) ?_
        replace h0 := grd_some h0
        obtain ⟨hg_16, h0⟩ := h0
        refine dtp _ rfl (fun s => opD_slice_ij ((4 : Int).toNat) ((IntKind.i64.wrap (4 + (bits BinOp.or .i64 (IntKind.i64.wrap ((IntKind.i64.wrap (x_2)) * 2 ^ (8 : Int).toNat)) (IntKind.i64.wrap (x_3))))).toNat) Go.Proofs.Try.underlying26 sz5_UA (ls rfl (ls rfl lz)) (ev_const _ _) lz hg_16.eq1 hg_16.eq2 hg_16.le hg_16.2.2) ?_
        replace h0 := bnd_some h0
        obtain ⟨x_8, hx_8, h0⟩ := h0
        refine dta _ rfl (opD_own1 ht19_UA (c_oCloneB hx_8) ⟨le_of_eq lz, trivial⟩ (by first | exact List.length_nil | (simp only [List.length_cons, List.length_nil, Nat.zero_add, Nat.reduceAdd] <;> rfl)) (by simp only [na, nb, nc, nd, nf, ng, nh, ni, nj, nk] <;> rfl)) ?_
        refine dtp _ rfl (fun s => opD_assign (ls rfl (ls rfl (ls rfl (ls rfl (ls rfl lz)))))) ?_
        refine dtp _ rfl (fun s => opD_assign (ls rfl lz)) ?_
        refine dtp _ rfl (fun s => opD_assign (ev_const _ _)) ?_
        refine .nil ?_
        dsimp only [List.nil_append, List.cons_append]
        refine ⟨rfl, ⟨trivial, trivial, trivial, trivial, trivial, trivial, trivial, trivial, trivial, trivial, trivial, trivial⟩, ?_⟩
        refine aw_keep [(2, _), (3, _), (4, _)] ⟨lg (ls rfl (ls rfl lz)), lg (ls rfl lz), lg lz, trivial⟩ ?_
        refine aw_ret ?_
        obtain rfl := some_of h0
        exact done_ext (.inr rfl) ((res_list (rs := [_, _, _]) (ps := [_, _, _]) rfl rfl ⟨it_tmp oz, it_tmp (os rfl oz), it_tmp (os rfl (os rfl oz)), trivial⟩).le (tup_le ⟨(Pd.le_refl _), (sl_any _ _ _ _), (Pd.le_refl _), trivial⟩)) (tup_bnd (bnd_cons (pl_bnd _ _ _) (bnd_cons (sl_b (kb_I _)) (bnd_cons (pl_bnd _ _ _) bnd_nil))))

def F_behind (p0 : (List Int)) : Option ((List Int)) :=
  ixb p0 2 fun x_1 => ixb p0 3 fun x_2 => grd (Btw (IntKind.i64.wrap (4 + (if 504 < (bits BinOp.or .i64 (IntKind.i64.wrap ((IntKind.i64.wrap (x_1)) * 2 ^ (8 : Int).toNat)) (IntKind.i64.wrap (x_2))) then 504 else (bits BinOp.or .i64 (IntKind.i64.wrap ((IntKind.i64.wrap (x_1)) * 2 ^ (8 : Int).toNat)) (IntKind.i64.wrap (x_2)))))) (IntKind.i64.wrap ((p0.length : Int) - 4)) p0.length) <| some ((p0.take ((IntKind.i64.wrap ((p0.length : Int) - 4)).toNat)).drop ((IntKind.i64.wrap (4 + (if 504 < (bits BinOp.or .i64 (IntKind.i64.wrap ((IntKind.i64.wrap (x_1)) * 2 ^ (8 : Int).toNat)) (IntKind.i64.wrap (x_2))) then 504 else (bits BinOp.or .i64 (IntKind.i64.wrap ((IntKind.i64.wrap (x_1)) * 2 ^ (8 : Int).toNat)) (IntKind.i64.wrap (x_2)))))).toNat))
set_option maxRecDepth 100000 in
set_option maxHeartbeats 2000000 in
theorem c_behind {p0 : (List Int)} {R : (List Int)} (h0 : F_behind p0 = some R) : Pure Go.Proofs.Try.prog 13 [sl (kI .u8) none none p0] (sl (kI .u8) none none R) := by
  intro s
  unfold F_behind at h0
  refine ac_of_aw s.boxes.length s.fr.length Go.Proofs.Try.func13 rfl (by simp [Go.Proofs.Try.ntmps13]) ?_
  refine aw_ext0 ?_
  refine aw_keep [(0, _)] ⟨lg ez, trivial⟩ ?_
  refine aw_seq ?_
  refine aw_region (by decide) ?_
  refine rts _ rfl (opD_assign (ev_const _ _)) ?_
  refine .nil ?_
  refine aw_keep [(0, _)] ⟨lg (ls rfl oz), trivial⟩ ?_
  refine aw_seq ?_
  refine aw_flat mixed_UA (by decide +kernel) ?_
  refine zts _ rfl (opD_move oz) ?_
  replace h0 := ixb_some h0
  obtain ⟨x_1, hx_1, hbx_1, h0⟩ := h0
  refine zts _ rfl (opD_indexAddr_sl (i := (2 : Int).toNat) Go.Proofs.Try.underlying26 sz5_UA lz (ev_const _ _) hbx_1.2.2 hbx_1.2.1) ?_
  refine zts _ rfl (opD_load_el_one ag5_UA lz hx_1 rfl) ?_
  refine zts _ rfl (opD_conv_int Go.Proofs.Try.underlying5 Go.Proofs.Try.underlying3 lz rfl) ?_
  refine zts _ rfl (opD_shl lz (ev_const _ _) (by decide) (by decide) rfl) ?_
  refine zts _ rfl (opD_move (ls rfl (ls rfl (ls rfl (ls rfl (ls rfl oz)))))) ?_
  replace h0 := ixb_some h0
  obtain ⟨x_2, hx_2, hbx_2, h0⟩ := h0
  refine zts _ rfl (opD_indexAddr_sl (i := (3 : Int).toNat) Go.Proofs.Try.underlying26 sz5_UA lz (ev_const _ _) hbx_2.2.2 hbx_2.2.1) ?_
  refine zts _ rfl (opD_load_el_one ag5_UA lz hx_2 rfl) ?_
  refine zts _ rfl (opD_conv_int Go.Proofs.Try.underlying5 Go.Proofs.Try.underlying3 lz rfl) ?_
  refine zts _ rfl (opD_bits (.inr (.inl rfl)) (ls rfl (ls rfl (ls rfl (ls rfl lz)))) lz rfl) ?_
  refine zts _ rfl (opD_min lz (ev_const _ _) rfl) ?_
  refine zts _ rfl (opD_assign lz) ?_
  refine .nil ?_
  refine aw_keep [(0, _), (3, _)] ⟨lg (ls rfl (ls rfl (ls rfl (ls rfl (ls rfl (ls rfl (ls rfl (ls rfl (ls rfl (ls rfl (ls rfl (ls rfl oz)))))))))))), lg lz, trivial⟩ ?_
  refine aw_seq ?_
  refine aw_region (by decide) ?_
  refine rts _ rfl (opD_move oz) ?_
  refine rts _ rfl (opD_move (ls rfl (os rfl oz))) ?_
  refine rts _ rfl (opD_add (ev_const _ _) lz rfl) ?_
  refine rts _ rfl (opD_move (ls rfl (ls rfl (ls rfl oz)))) ?_
  refine rts _ rfl (opD_len_sl Go.Proofs.Try.underlying26 lz) ?_
  refine rts _ rfl (opD_sub lz (ev_const _ _) rfl) ?_
  replace h0 := grd_some h0
  obtain ⟨hg_1, h0⟩ := h0
  refine rts _ rfl (opD_slice_ij ((IntKind.i64.wrap (4 + (if 504 < (bits BinOp.or .i64 (IntKind.i64.wrap ((IntKind.i64.wrap (x_1)) * 2 ^ (8 : Int).toNat)) (IntKind.i64.wrap (x_2))) then 504 else (bits BinOp.or .i64 (IntKind.i64.wrap ((IntKind.i64.wrap (x_1)) * 2 ^ (8 : Int).toNat)) (IntKind.i64.wrap (x_2)))))).toNat) ((IntKind.i64.wrap ((p0.length : Int) - 4)).toNat) Go.Proofs.Try.underlying26 sz5_UA (ls rfl (ls rfl (ls rfl (ls rfl (ls rfl lz))))) (ls rfl (ls rfl (ls rfl lz))) lz hg_1.eq1 hg_1.eq2 hg_1.le hg_1.2.2) ?_
  refine rts _ rfl (opD_assign lz) ?_
  refine .nil ?_
  refine aw_keep [(2, _)] ⟨lg lz, trivial⟩ ?_
  refine aw_ret ?_
  obtain rfl := some_of h0
  exact done_ext (.inr rfl) ((res_one rfl (it_tmp oz)).le (Pd.le_refl _)) (sl_b (kb_I _))

def F_sdirty_b0 (fl : Nat) (p0 : (List (List Int))) (p1 : (List Int)) (t_2 : (List Int) × Int) : Option (((List Int) × Int) ⊕ (((List Int)))) :=
  ifb (decide (t_2.2 < (p0.length : Int))) (bnd (grd (p1.length = 16) <| bnd (F_bhas p1 t_2.2) fun x_5 => grd (((!x_5) == true) = true → Below t_2.2 p0.length) <| bnd (gif ((!x_5) == true) (F_blank fl (p0.getD t_2.2.toNat default))) fun x_6 => ifb ((!x_5) && (!x_6)) (grd (Fits 8 (t_2.1.length + ([t_2.2] : (List Int)).length)) <| some (t_2.1 ++ ([t_2.2] : (List Int)))) (some t_2.1)) fun z_4 => some (.inl (z_4, IntKind.i64.wrap (t_2.2 + 1)))) (some (.inr t_2.1))
def F_sdirty (fl : Nat) (p0 : (List (List Int))) (p1 : (List Int)) : Option ((List Int)) :=
  bnd (lp (F_sdirty_b0 fl p0 p1) fl (([] : (List Int)), 2)) fun z_1 => some z_1
set_option maxRecDepth 100000 in
set_option maxHeartbeats 2000000 in
theorem c_sdirty {fl : Nat} {p0 : (List (List Int))} {p1 : (List Int)} {R : (List Int)} (h0 : F_sdirty fl p0 p1 = some R) : Pure Go.Proofs.Try.prog 8 [sl (kR (kI .u8)) none none p0, agg (flat (kI .u64) p1)] (sl (kI .i64) none none R) := by
  intro s
  unfold F_sdirty at h0
  refine ac_of_aw s.boxes.length s.fr.length Go.Proofs.Try.func8 rfl (by simp [Go.Proofs.Try.ntmps8]) ?_
  refine aw_ext0 ?_
  refine aw_keep [(0, _), (1, _)] ⟨lg ez, lg (es ez), trivial⟩ ?_
  refine aw_seq ?_
  refine aw_region (by decide) ?_
  refine rts _ rfl (boxFN (k := kI .u64) (l := p1) rfl (os rfl oz) rfl (kb_I _) (by first | exact List.length_nil | (simp only [List.length_cons, List.length_nil, Nat.zero_add, Nat.reduceAdd] <;> rfl)) (by simp only [na, nb, nc, nd, nf, ng, nh, ni, nj, nk] <;> rfl)) ?_
  refine rts _ rfl (opD_assign (ev_const _ _)) ?_
  refine .nil ?_
  refine aw_keep [(0, _), (3, _)] ⟨lg (ls rfl (ls rfl oz)), lg (ls rfl lz), trivial⟩ ?_
  refine aw_seq ?_
  refine aw_region (by decide) ?_
  refine rts _ rfl (opD_assign (ev_const _ _)) ?_
  refine .nil ?_
  refine aw_keep [(0, _), (3, _), (5, _)] ⟨lg (ls rfl oz), lg (ls rfl (os rfl oz)), lg lz, trivial⟩ ?_
  refine aw_seq ?_
  refine aw_seq ?_
  refine aw_region (by decide) ?_
  refine rts _ rfl (opD_assign (ev_const _ _)) ?_
  refine .nil ?_
  refine aw_keep [(0, _), (3, _), (5, _), (6, _)] ⟨lg (ls rfl oz), lg (ls rfl (os rfl oz)), lg (ls rfl (os rfl (os rfl oz))), lg lz, trivial⟩ ?_
  replace h0 := bnd_some h0
  obtain ⟨z_1, hz_1, h0⟩ := h0
  refine aw_mid (fun e st => ∃ v : (List Int), Holds e [(5, sl (kI .i64) none none v)] ∧ st = s.ext [⟨37, (flat (kI .u64) p1)⟩] [] ∧ v = z_1) ?_ ?_
  · skip
    refine aw_wkN rfl 1 0 rfl rfl ?_
    refine aw_block ?_
    refine aw_fr ⟨3, 1, 0⟩ ?_
    refine aw_loop (fun n e st => ∃ v : (List Int) × Int, Holds e [(0, sl (kR (kI .u8)) none none p0), (3, ptr (s.boxes.length + 0) 0), (5, sl (kI .i64) (some (s.fr.length + 0)) none v.1), (6, pl (.int .i64 v.2))] ∧ st = s.ext [⟨37, (flat (kI .u64) p1)⟩] [⟨3, 1, v.1.length⟩] ∧ lp (F_sdirty_b0 fl p0 p1) n v = some z_1) fl ⟨(([] : (List Int)), 2), ⟨le_of_eq (eg oz), le_of_eq (eg (os rfl oz)), (le_of_eq (eg (os rfl (os rfl oz)))).trans (nil_own rfl), le_of_eq (eg (os rfl (os rfl (os rfl oz)))), trivial⟩, rfl, hz_1⟩ ?_
    rintro n e st ⟨t_2, hH, rfl, hz_1⟩
    replace hz_1 := lp_some hz_1
    obtain ⟨m_z_3, z_3, rfl, hz_3, hz_1⟩ := hz_1
    unfold F_sdirty_b0 at hz_3
    refine aw_keep _ hH ?_
    refine aw_wkN rfl 1 1 rfl rfl ?_
    refine aw_seq ?_
    refine aw_seq ?_
    refine aw_region (by decide) ?_
    refine rts _ rfl (opD_move (os rfl (os rfl (os rfl oz)))) ?_
    refine rts _ rfl (opD_move (ls rfl oz)) ?_
    refine rts _ rfl (opD_len_sl Go.Proofs.Try.underlying22 lz) ?_
    refine rts _ rfl (opD_lss (ls rfl (ls rfl lz)) lz) ?_
    refine .nil ?_
    refine aw_keep [(0, _), (3, _), (5, _), (6, _), (10, _)] ⟨lg (ls rfl (ls rfl (ls rfl (ls rfl oz)))), lg (ls rfl (ls rfl (ls rfl (ls rfl (os rfl oz))))), lg (ls rfl (ls rfl (ls rfl (ls rfl (os rfl (os rfl oz)))))), lg (ls rfl (ls rfl (ls rfl (ls rfl (os rfl (os rfl (os rfl oz))))))), lg lz, trivial⟩ ?_
    refine aw_cond _ (os rfl (os rfl (os rfl (os rfl oz)))) (fun hc => ?_) (fun hc => ?_)
    · skip
      replace hz_3 := ifb_t hz_3 hc
      clear hc
      refine aw_skip ?_
      refine aw_keep [(0, _), (3, _), (5, _), (6, _)] ⟨lg oz, lg (os rfl oz), lg (os rfl (os rfl oz)), lg (os rfl (os rfl (os rfl oz))), trivial⟩ ?_
      refine aw_seq ?_
      replace hz_3 := bnd_some hz_3
      obtain ⟨z_4, hz_4, hz_3⟩ := hz_3
      refine aw_mid (fun e st => ∃ v : (List Int), Holds e [(0, sl (kR (kI .u8)) none none p0), (3, ptr (s.boxes.length + 0) 0), (5, sl (kI .i64) (some (s.fr.length + 0)) none v), (6, pl (.int .i64 t_2.2))] ∧ st = s.ext [⟨37, (flat (kI .u64) p1)⟩] [⟨3, 1, v.length⟩] ∧ v = z_4) ?_ ?_
      · skip
        refine aw_wkN rfl 1 1 rfl rfl ?_
        refine aw_block ?_
        refine aw_seq ?_
        refine aw_region (by decide) ?_
        replace hz_4 := grd_some hz_4
        obtain ⟨hg_100, hz_4⟩ := hz_4
        refine rts _ rfl (loadFN ag37_UA sz37_UA (os rfl oz) (loc_getN rfl rfl) rfl hg_100) ?_
        refine rts _ rfl (opD_move (ls rfl (os rfl (os rfl (os rfl oz))))) ?_
        replace hz_4 := bnd_some hz_4
        obtain ⟨x_5, hx_5, hz_4⟩ := hz_4
        refine rts _ rfl (opD_pure ht4_UA (c_bhas hx_5) ⟨le_of_eq (ls rfl lz), le_of_eq lz, trivial⟩) ?_
        refine rts _ rfl (opD_not lz) ?_
        refine rts _ rfl (opD_move lz) ?_
        refine rtg _ rfl lz (fun hg5_5_101 => opD_move (ls rfl (ls rfl (ls rfl (ls rfl (ls rfl oz)))))) ?_
        refine rtg _ rfl (ls rfl lz) (fun hg5_6_102 => opD_move (ls rfl (ls rfl (ls rfl (ls rfl (ls rfl (ls rfl (os rfl (os rfl (os rfl oz)))))))))) ?_
        replace hz_4 := grd_some hz_4
        obtain ⟨hg_104, hz_4⟩ := hz_4
        refine rtg _ rfl (ls rfl (ls rfl lz)) (fun hg5_7_103 => opD_indexAddr_sl (i := t_2.2.toNat) Go.Proofs.Try.underlying22 sz26_UA ((ls rfl lz).trans (pif_pos hg5_7_103)) (lz.trans (pif_pos hg5_7_103)) (hg_104 hg5_7_103).eq (hg_104 hg5_7_103).2) ?_
        refine rtg _ rfl (ls rfl (ls rfl (ls rfl lz))) (fun hg5_8_105 => opD_load_el_one ag26_UA (lz.trans (pif_pos hg5_8_105)) (at_getD default (hg_104 hg5_8_105).2) rfl) ?_
        replace hz_4 := bnd_some hz_4
        obtain ⟨x_6, hx_6, hz_4⟩ := hz_4
        refine rtg _ rfl (ls rfl (ls rfl (ls rfl (ls rfl lz)))) (fun hg5_9_106 => opD_pure ht15_UA (c_blank (gif_some hx_6 hg5_9_106)) ⟨le_of_eq (lz.trans (pif_pos hg5_9_106)), trivial⟩) ?_
        refine rtg _ rfl (ls rfl (ls rfl (ls rfl (ls rfl (ls rfl lz))))) (fun hg5_10_107 => opD_not (lz.trans (pif_pos hg5_10_107))) ?_
        refine rts _ rfl (opD_and (ls rfl (ls rfl (ls rfl (ls rfl (ls rfl (ls rfl lz)))))) lz) ?_
        refine .nil ?_
        refine aw_keep [(0, _), (3, _), (5, _), (6, _), (24, _)] ⟨lg (ls rfl (ls rfl (ls rfl (ls rfl (ls rfl (ls rfl (ls rfl (ls rfl (ls rfl (ls rfl (ls rfl (ls rfl oz)))))))))))), lg (ls rfl (ls rfl (ls rfl (ls rfl (ls rfl (ls rfl (ls rfl (ls rfl (ls rfl (ls rfl (ls rfl (ls rfl (os rfl oz))))))))))))), lg (ls rfl (ls rfl (ls rfl (ls rfl (ls rfl (ls rfl (ls rfl (ls rfl (ls rfl (ls rfl (ls rfl (ls rfl (os rfl (os rfl oz)))))))))))))), lg (ls rfl (ls rfl (ls rfl (ls rfl (ls rfl (ls rfl (ls rfl (ls rfl (ls rfl (ls rfl (ls rfl (ls rfl (os rfl (os rfl (os rfl oz))))))))))))))), lg lz, trivial⟩ ?_
        refine aw_cond _ (os rfl (os rfl (os rfl (os rfl oz)))) (fun hc => ?_) (fun hc => ?_)
        · skip
          replace hz_4 := ifb_t hz_4 hc
          clear hc
          refine aw_region (by decide) ?_
          refine rts _ rfl (opD_move (os rfl (os rfl oz))) ?_
          refine rts _ rfl (opD_move (ls rfl (os rfl (os rfl (os rfl oz))))) ?_
          refine rts _ rfl (opD_buildOwn (k := kI .i64) ([t_2.2] : (List Int)) Go.Proofs.Try.underlying33 sz3_UA zt3_UA (by decide) rfl (parts_cons (cells1 lz (one_pl rfl)) parts_nil) rfl rfl (by first | exact List.length_nil | (simp only [List.length_cons, List.length_nil, Nat.zero_add, Nat.reduceAdd] <;> rfl)) (by simp only [na, nb, nc, nd, nf, ng, nh, ni, nj, nk] <;> rfl)) ?_
          replace hz_4 := grd_some hz_4
          obtain ⟨hg_108, hz_4⟩ := hz_4
          refine rts _ rfl (opD_appendX Go.Proofs.Try.underlying33 el3_UA (ls rfl (ls rfl lz)) lz rfl hg_108.1 hg_108.2 rfl (by simp only [na, nb, nc, nd, nf, ng, nh, ni, nj, nk] <;> rfl)) ?_
          refine rts _ rfl (opD_assign lz) ?_
          refine .nil ?_
          refine wk_yesN rfl (l := [(0, sl (kR (kI .u8)) none none p0), (3, ptr (s.boxes.length + 0) 0), (5, sl (kI .i64) (some (s.fr.length + 0)) none (t_2.1 ++ ([t_2.2] : (List Int)))), (6, pl (.int .i64 t_2.2))]) (bs' := [⟨37, (flat (kI .u64) p1)⟩]) ⟨le_of_eq (eg (ls rfl (ls rfl (ls rfl (ls rfl (ls rfl oz)))))), le_of_eq (eg (ls rfl (ls rfl (ls rfl (ls rfl (ls rfl (os rfl oz))))))), le_of_eq (eg lz), le_of_eq (eg (ls rfl (ls rfl (ls rfl (ls rfl (ls rfl (os rfl (os rfl (os rfl oz))))))))), trivial⟩ (bnd_cons (sl_b (kb_R (kb_I _))) (bnd_cons (ptr_bnd _ (by first | omega | (simp only [List.length_append, List.length_cons, List.length_nil]; omega))) (bnd_cons (sl_ob (kb_I _) (by first | omega | (simp only [List.length_append, List.length_cons, List.length_nil, ext_fr_length, upd_fr_length]; omega))) (bnd_cons (pl_bnd _ _ _) bnd_nil)))) (Nat.le_of_ble_eq_true rfl) (by simp only [na, nb, nc, nd, nf, ng, nh, ni, nj, nk] <;> rfl) (bxle_same bxle_nil) rfl (by simp only [na, nb, nc, nd, nf, ng, nh, ni, nj, nk] <;> rfl) (bl_cons (flatKB (kb_I _)) bl_nil) ?_
          exact ⟨(t_2.1 ++ ([t_2.2] : (List Int))), ⟨le_of_eq (eg oz), le_of_eq (eg (os rfl oz)), le_of_eq (eg (os rfl (os rfl oz))), le_of_eq (eg (os rfl (os rfl (os rfl oz)))), trivial⟩, rfl, some_of hz_4⟩
        · skip
          replace hz_4 := ifb_f hz_4 hc
          clear hc
          refine aw_skip ?_
          refine wk_yesN rfl (l := [(0, sl (kR (kI .u8)) none none p0), (3, ptr (s.boxes.length + 0) 0), (5, sl (kI .i64) (some (s.fr.length + 0)) none t_2.1), (6, pl (.int .i64 t_2.2))]) (bs' := [⟨37, (flat (kI .u64) p1)⟩]) ⟨le_of_eq (eg oz), le_of_eq (eg (os rfl oz)), le_of_eq (eg (os rfl (os rfl oz))), le_of_eq (eg (os rfl (os rfl (os rfl oz)))), trivial⟩ (bnd_cons (sl_b (kb_R (kb_I _))) (bnd_cons (ptr_bnd _ (by first | omega | (simp only [List.length_append, List.length_cons, List.length_nil]; omega))) (bnd_cons (sl_ob (kb_I _) (by first | omega | (simp only [List.length_append, List.length_cons, List.length_nil, ext_fr_length, upd_fr_length]; omega))) (bnd_cons (pl_bnd _ _ _) bnd_nil)))) (Nat.le_of_ble_eq_true rfl) (by simp only [na, nb, nc, nd, nf, ng, nh, ni, nj, nk] <;> rfl) (bxle_same bxle_nil) rfl (by simp only [na, nb, nc, nd, nf, ng, nh, ni, nj, nk] <;> rfl) (bl_cons (flatKB (kb_I _)) bl_nil) ?_
          exact ⟨t_2.1, ⟨le_of_eq (eg oz), le_of_eq (eg (os rfl oz)), le_of_eq (eg (os rfl (os rfl oz))), le_of_eq (eg (os rfl (os rfl (os rfl oz)))), trivial⟩, rfl, some_of hz_4⟩
      · rintro e st ⟨vz_4, hH, rfl, rfl⟩
        refine aw_keep _ hH ?_
        refine aw_keep [(0, _), (3, _), (5, _), (6, _)] ⟨lg oz, lg (os rfl oz), lg (os rfl (os rfl oz)), lg (os rfl (os rfl (os rfl oz))), trivial⟩ ?_
        refine aw_region (by decide) ?_
        refine rts _ rfl (opD_move (os rfl (os rfl (os rfl oz)))) ?_
        refine rts _ rfl (opD_add lz (ev_const _ _) rfl) ?_
        refine rts _ rfl (opD_assign lz) ?_
        refine .nil ?_
        obtain rfl := some_of hz_3
        replace hz_1 := ocs_l hz_1
        refine wk_yesN rfl (l := [(0, sl (kR (kI .u8)) none none p0), (3, ptr (s.boxes.length + 0) 0), (5, sl (kI .i64) (some (s.fr.length + 0)) none vz_4), (6, pl (.int .i64 (IntKind.i64.wrap (t_2.2 + 1))))]) (bs' := [⟨37, (flat (kI .u64) p1)⟩]) ⟨le_of_eq (eg (ls rfl (ls rfl (ls rfl oz)))), le_of_eq (eg (ls rfl (ls rfl (ls rfl (os rfl oz))))), le_of_eq (eg (ls rfl (ls rfl (ls rfl (os rfl (os rfl oz)))))), le_of_eq (eg lz), trivial⟩ (bnd_cons (sl_b (kb_R (kb_I _))) (bnd_cons (ptr_bnd _ (by first | omega | (simp only [List.length_append, List.length_cons, List.length_nil]; omega))) (bnd_cons (sl_ob (kb_I _) (by first | omega | (simp only [List.length_append, List.length_cons, List.length_nil, ext_fr_length, upd_fr_length]; omega))) (bnd_cons (pl_bnd _ _ _) bnd_nil)))) (Nat.le_of_ble_eq_true rfl) (by simp only [na, nb, nc, nd, nf, ng, nh, ni, nj, nk] <;> rfl) (bxle_same bxle_nil) rfl (by simp only [na, nb, nc, nd, nf, ng, nh, ni, nj, nk] <;> rfl) (bl_cons (flatKB (kb_I _)) bl_nil) ?_
        exact ⟨m_z_3, Nat.lt_succ_self _, (vz_4, IntKind.i64.wrap (t_2.2 + 1)), ⟨le_of_eq (eg oz), le_of_eq (eg (os rfl oz)), le_of_eq (eg (os rfl (os rfl oz))), le_of_eq (eg (os rfl (os rfl (os rfl oz)))), trivial⟩, rfl, hz_1⟩
    · skip
      replace hz_3 := ifb_f hz_3 hc
      clear hc
      refine aw_exit ?_
      obtain rfl := some_of hz_3
      replace hz_1 := ocs_r hz_1
      refine wk_no ?_
      refine wk_yesN rfl (l := [(5, sl (kI .i64) none none t_2.1)]) (bs' := [⟨37, (flat (kI .u64) p1)⟩]) ⟨(le_of_eq (eg (os rfl (os rfl oz)))).trans (sl_le _ (some (s.fr.length + 0)) none _), trivial⟩ (bnd_cons (sl_b (kb_I _)) bnd_nil) (Nat.le_of_ble_eq_true rfl) (by simp only [na, nb, nc, nd, nf, ng, nh, ni, nj, nk] <;> rfl) (bxle_same bxle_nil) rfl (by simp only [na, nb, nc, nd, nf, ng, nh, ni, nj, nk] <;> rfl) (bl_cons (flatKB (kb_I _)) bl_nil) ?_
      exact ⟨t_2.1, ⟨le_of_eq (eg oz), trivial⟩, rfl, some_of hz_1⟩
  · rintro e st ⟨vz_1, hH, rfl, rfl⟩
    refine aw_keep _ hH ?_
    refine aw_keep [(5, _)] ⟨lg oz, trivial⟩ ?_
    refine aw_seq ?_
    refine aw_region (by decide) ?_
    refine rts _ rfl (opD_move oz) ?_
    refine rts _ rfl (opD_assign lz) ?_
    refine .nil ?_
    refine aw_keep [(4, _)] ⟨lg lz, trivial⟩ ?_
    refine aw_ret ?_
    obtain rfl := some_of h0
    exact done_ext (.inr rfl) ((res_one rfl (it_tmp oz)).le (Pd.le_refl _)) (sl_b (kb_I _))

def F_sclean_b0 (fl : Nat) (p0 : (List (List Int))) (p1 : (List Int)) (t_2 : Int) : Option ((Int) ⊕ ((Bool) ⊕ (Unit))) :=
  ifb (decide (t_2 < (p0.length : Int))) (bnd (grd (p1.length = 16) <| bnd (F_bhas p1 t_2) fun x_5 => ifb (!x_5) (some (.inr ())) (ixb p0 t_2 fun x_6 => bnd (F_sopen fl x_6) fun x_7 => ifb x_7.2.2.isSome (some (.inl false)) (some (.inr ())))) fun z_4 => ocs z_4 (fun qz_4_0 => some (.inr (.inl qz_4_0))) fun z_4_0 => some (.inl (IntKind.i64.wrap (t_2 + 1)))) (some (.inr (.inr ())))
def F_sclean (fl : Nat) (p0 : (List (List Int))) (p1 : (List Int)) : Option (Bool) :=
  bnd (lp (F_sclean_b0 fl p0 p1) fl 2) fun z_1 => ocs z_1 (fun qz_1_0 => some qz_1_0) fun z_1_0 => grd (p1.length = 16) <| bnd (F_sdirty fl p0 p1) fun x_8 => some (decide ((x_8.length : Int) = 0))
set_option maxRecDepth 100000 in
set_option maxHeartbeats 2000000 in
theorem c_sclean {fl : Nat} {p0 : (List (List Int))} {p1 : (List Int)} {R : Bool} (h0 : F_sclean fl p0 p1 = some R) : Pure Go.Proofs.Try.prog 7 [sl (kR (kI .u8)) none none p0, agg (flat (kI .u64) p1)] (pl (.bool R)) := by
  intro s
  unfold F_sclean at h0
  refine ac_of_aw s.boxes.length s.fr.length Go.Proofs.Try.func7 rfl (by simp [Go.Proofs.Try.ntmps7]) ?_
  refine aw_ext0 ?_
  refine aw_keep [(0, _), (1, _)] ⟨lg ez, lg (es ez), trivial⟩ ?_
  refine aw_seq ?_
  refine aw_region (by decide) ?_
  refine rts _ rfl (boxFN (k := kI .u64) (l := p1) rfl (os rfl oz) rfl (kb_I _) (by first | exact List.length_nil | (simp only [List.length_cons, List.length_nil, Nat.zero_add, Nat.reduceAdd] <;> rfl)) (by simp only [na, nb, nc, nd, nf, ng, nh, ni, nj, nk] <;> rfl)) ?_
  refine rts _ rfl (opD_assign (ev_const _ _)) ?_
  refine .nil ?_
  refine aw_keep [(0, _), (3, _)] ⟨lg (ls rfl (ls rfl oz)), lg (ls rfl lz), trivial⟩ ?_
  refine aw_seq ?_
  refine aw_seq ?_
  refine aw_region (by decide) ?_
  refine rts _ rfl (opD_assign (ev_const _ _)) ?_
  refine .nil ?_
  refine aw_keep [(0, _), (3, _), (5, _)] ⟨lg (ls rfl oz), lg (ls rfl (os rfl oz)), lg lz, trivial⟩ ?_
  replace h0 := bnd_some h0
  obtain ⟨z_1, hz_1, h0⟩ := h0
  refine aw_mid (fun e st => ∃ v : Unit, Holds e [(0, sl (kR (kI .u8)) none none p0), (3, ptr (s.boxes.length + 0) 0)] ∧ st = s.ext [⟨37, (flat (kI .u64) p1)⟩] [] ∧ (.inr v) = z_1) ?_ ?_
  · skip
    refine aw_wkN rfl 1 0 rfl rfl ?_
    refine aw_block ?_
    refine aw_loop (fun n e st => ∃ v : Int, Holds e [(0, sl (kR (kI .u8)) none none p0), (3, ptr (s.boxes.length + 0) 0), (5, pl (.int .i64 v))] ∧ st = s.ext [⟨37, (flat (kI .u64) p1)⟩] [] ∧ lp (F_sclean_b0 fl p0 p1) n v = some z_1) fl ⟨2, ⟨le_of_eq (eg oz), le_of_eq (eg (os rfl oz)), le_of_eq (eg (os rfl (os rfl oz))), trivial⟩, rfl, hz_1⟩ ?_
    rintro n e st ⟨t_2, hH, rfl, hz_1⟩
    replace hz_1 := lp_some hz_1
    obtain ⟨m_z_3, z_3, rfl, hz_3, hz_1⟩ := hz_1
    unfold F_sclean_b0 at hz_3
    refine aw_keep _ hH ?_
    refine aw_wkN rfl 1 0 rfl rfl ?_
    refine aw_seq ?_
    refine aw_seq ?_
    refine aw_region (by decide) ?_
    refine rts _ rfl (opD_move (os rfl (os rfl oz))) ?_
    refine rts _ rfl (opD_move (ls rfl oz)) ?_
    refine rts _ rfl (opD_len_sl Go.Proofs.Try.underlying22 lz) ?_
    refine rts _ rfl (opD_lss (ls rfl (ls rfl lz)) lz) ?_
    refine .nil ?_
    refine aw_keep [(0, _), (3, _), (5, _), (12, _)] ⟨lg (ls rfl (ls rfl (ls rfl (ls rfl oz)))), lg (ls rfl (ls rfl (ls rfl (ls rfl (os rfl oz))))), lg (ls rfl (ls rfl (ls rfl (ls rfl (os rfl (os rfl oz)))))), lg lz, trivial⟩ ?_
    refine aw_cond _ (os rfl (os rfl (os rfl oz))) (fun hc => ?_) (fun hc => ?_)
    · skip
      replace hz_3 := ifb_t hz_3 hc
      clear hc
      refine aw_skip ?_
      refine aw_keep [(0, _), (3, _), (5, _)] ⟨lg oz, lg (os rfl oz), lg (os rfl (os rfl oz)), trivial⟩ ?_
      refine aw_seq ?_
      replace hz_3 := bnd_some hz_3
      obtain ⟨z_4, hz_4, hz_3⟩ := hz_3
      refine aw_mid (fun e st => ∃ v : Unit, Holds e [(0, sl (kR (kI .u8)) none none p0), (3, ptr (s.boxes.length + 0) 0), (5, pl (.int .i64 t_2))] ∧ st = s.ext [⟨37, (flat (kI .u64) p1)⟩] [] ∧ (.inr v) = z_4) ?_ ?_
      · skip
        refine aw_wkN rfl 1 0 rfl rfl ?_
        refine aw_block ?_
        refine aw_seq ?_
        refine aw_seq ?_
        refine aw_region (by decide) ?_
        replace hz_4 := grd_some hz_4
        obtain ⟨hg_8, hz_4⟩ := hz_4
        refine rts _ rfl (loadFN ag37_UA sz37_UA (os rfl oz) (loc_getN rfl rfl) rfl hg_8) ?_
        refine rts _ rfl (opD_move (ls rfl (os rfl (os rfl oz)))) ?_
        replace hz_4 := bnd_some hz_4
        obtain ⟨x_5, hx_5, hz_4⟩ := hz_4
        refine rts _ rfl (opD_pure ht4_UA (c_bhas hx_5) ⟨le_of_eq (ls rfl lz), le_of_eq lz, trivial⟩) ?_
        refine rts _ rfl (opD_not lz) ?_
        refine .nil ?_
        refine aw_keep [(0, _), (3, _), (5, _), (18, _)] ⟨lg (ls rfl (ls rfl (ls rfl (ls rfl oz)))), lg (ls rfl (ls rfl (ls rfl (ls rfl (os rfl oz))))), lg (ls rfl (ls rfl (ls rfl (ls rfl (os rfl (os rfl oz)))))), lg lz, trivial⟩ ?_
        refine aw_cond _ (os rfl (os rfl (os rfl oz))) (fun hc => ?_) (fun hc => ?_)
        · skip
          replace hz_4 := ifb_t hz_4 hc
          clear hc
          refine aw_exit ?_
          refine wk_yesN rfl (l := [(0, sl (kR (kI .u8)) none none p0), (3, ptr (s.boxes.length + 0) 0), (5, pl (.int .i64 t_2))]) (bs' := [⟨37, (flat (kI .u64) p1)⟩]) ⟨le_of_eq (eg oz), le_of_eq (eg (os rfl oz)), le_of_eq (eg (os rfl (os rfl oz))), trivial⟩ (bnd_cons (sl_b (kb_R (kb_I _))) (bnd_cons (ptr_bnd _ (by first | omega | (simp only [List.length_append, List.length_cons, List.length_nil]; omega))) (bnd_cons (pl_bnd _ _ _) bnd_nil))) (Nat.le_of_ble_eq_true rfl) (by simp only [na, nb, nc, nd, nf, ng, nh, ni, nj, nk] <;> rfl) (bxle_same bxle_nil) rfl (by simp only [na, nb, nc, nd, nf, ng, nh, ni, nj, nk] <;> rfl) (bl_cons (flatKB (kb_I _)) bl_nil) ?_
          exact ⟨(), ⟨le_of_eq (eg oz), le_of_eq (eg (os rfl oz)), le_of_eq (eg (os rfl (os rfl oz))), trivial⟩, rfl, some_of hz_4⟩
        · skip
          replace hz_4 := ifb_f hz_4 hc
          clear hc
          refine aw_skip ?_
          refine aw_keep [(0, _), (3, _), (5, _)] ⟨lg oz, lg (os rfl oz), lg (os rfl (os rfl oz)), trivial⟩ ?_
          refine aw_seq ?_
          refine aw_region (by decide) ?_
          refine rts _ rfl (opD_move oz) ?_
          refine rts _ rfl (opD_move (ls rfl (os rfl (os rfl oz)))) ?_
          replace hz_4 := ixb_some hz_4
          obtain ⟨x_6, hx_6, hbx_6, hz_4⟩ := hz_4
          refine rts _ rfl (opD_indexAddr_sl (i := t_2.toNat) Go.Proofs.Try.underlying22 sz26_UA (ls rfl lz) lz hbx_6.2.2 hbx_6.2.1) ?_
          refine rts _ rfl (opD_load_el_one ag26_UA lz hx_6 rfl) ?_
          replace hz_4 := bnd_some hz_4
          obtain ⟨x_7, hx_7, hz_4⟩ := hz_4
          refine rts _ rfl (opD_pure ht14_UA (c_sopen hx_7) ⟨le_of_eq lz, trivial⟩) ?_
          refine rts _ rfl (opD_move lz) ?_
          refine rts _ rfl (opD_extract lz rfl) ?_
          refine rts _ rfl (opD_extract (ls rfl lz) rfl) ?_
          refine rts _ rfl (opD_extract (ls rfl (ls rfl lz)) rfl) ?_
          refine rts _ rfl (opD_assign (ls rfl (ls rfl lz))) ?_
          refine rts _ rfl (opD_assign (ls rfl (ls rfl lz))) ?_
          refine rts _ rfl (opD_assign (ls rfl (ls rfl lz))) ?_
          refine .nil ?_
          refine aw_keep [(0, _), (3, _), (5, _), (8, _)] ⟨lg (ls rfl (ls rfl (ls rfl (ls rfl (ls rfl (ls rfl (ls rfl (ls rfl (ls rfl (ls rfl (ls rfl (ls rfl oz)))))))))))), lg (ls rfl (ls rfl (ls rfl (ls rfl (ls rfl (ls rfl (ls rfl (ls rfl (ls rfl (ls rfl (ls rfl (ls rfl (os rfl oz))))))))))))), lg (ls rfl (ls rfl (ls rfl (ls rfl (ls rfl (ls rfl (ls rfl (ls rfl (ls rfl (ls rfl (ls rfl (ls rfl (os rfl (os rfl oz)))))))))))))), lg lz, trivial⟩ ?_
          refine aw_seq ?_
          refine aw_region (by decide) ?_
          refine rts _ rfl (opD_move (os rfl (os rfl (os rfl oz)))) ?_
          refine rts _ rfl (opD_bin lz (ev_const _ _) (fun w => errV_guard _ w _) (fun w => errV_beq _ w)) ?_
          refine .nil ?_
          refine aw_keep [(0, _), (3, _), (5, _), (29, _)] ⟨lg (ls rfl (ls rfl oz)), lg (ls rfl (ls rfl (os rfl oz))), lg (ls rfl (ls rfl (os rfl (os rfl oz)))), lg lz, trivial⟩ ?_
          refine aw_cond _ (os rfl (os rfl (os rfl oz))) (fun hc => ?_) (fun hc => ?_)
          · skip
            replace hz_4 := ifb_t hz_4 hc
            clear hc
            refine aw_seq ?_
            refine aw_region (by decide) ?_
            refine rts _ rfl (opD_assign (ev_const _ _)) ?_
            refine .nil ?_
            refine aw_keep [(4, _)] ⟨lg lz, trivial⟩ ?_
            refine aw_ret ?_
            obtain rfl := some_of hz_4
            replace hz_3 := ocs_l hz_3
            obtain rfl := some_of hz_3
            replace hz_1 := ocs_r hz_1
            obtain rfl := some_of hz_1
            replace h0 := ocs_l h0
            refine wk_no ?_
            refine wk_no ?_
            refine wk_no ?_
            obtain rfl := some_of h0
            exact done_ext (.inr rfl) ((res_one rfl (it_tmp oz)).le (Pd.le_refl _)) (pl_bnd _ _ _)
          · skip
            replace hz_4 := ifb_f hz_4 hc
            clear hc
            refine aw_skip ?_
            refine wk_yesN rfl (l := [(0, sl (kR (kI .u8)) none none p0), (3, ptr (s.boxes.length + 0) 0), (5, pl (.int .i64 t_2))]) (bs' := [⟨37, (flat (kI .u64) p1)⟩]) ⟨le_of_eq (eg oz), le_of_eq (eg (os rfl oz)), le_of_eq (eg (os rfl (os rfl oz))), trivial⟩ (bnd_cons (sl_b (kb_R (kb_I _))) (bnd_cons (ptr_bnd _ (by first | omega | (simp only [List.length_append, List.length_cons, List.length_nil]; omega))) (bnd_cons (pl_bnd _ _ _) bnd_nil))) (Nat.le_of_ble_eq_true rfl) (by simp only [na, nb, nc, nd, nf, ng, nh, ni, nj, nk] <;> rfl) (bxle_same bxle_nil) rfl (by simp only [na, nb, nc, nd, nf, ng, nh, ni, nj, nk] <;> rfl) (bl_cons (flatKB (kb_I _)) bl_nil) ?_
            exact ⟨(), ⟨le_of_eq (eg oz), le_of_eq (eg (os rfl oz)), le_of_eq (eg (os rfl (os rfl oz))), trivial⟩, rfl, some_of hz_4⟩
      · rintro e st ⟨vz_4, hH, rfl, rfl⟩
        refine aw_keep _ hH ?_
        replace hz_3 := ocs_r hz_3
        refine aw_keep [(0, _), (3, _), (5, _)] ⟨lg oz, lg (os rfl oz), lg (os rfl (os rfl oz)), trivial⟩ ?_
        refine aw_region (by decide) ?_
        refine rts _ rfl (opD_move (os rfl (os rfl oz))) ?_
        refine rts _ rfl (opD_add lz (ev_const _ _) rfl) ?_
        refine rts _ rfl (opD_assign lz) ?_
        refine .nil ?_
        obtain rfl := some_of hz_3
        replace hz_1 := ocs_l hz_1
        refine wk_yesN rfl (l := [(0, sl (kR (kI .u8)) none none p0), (3, ptr (s.boxes.length + 0) 0), (5, pl (.int .i64 (IntKind.i64.wrap (t_2 + 1))))]) (bs' := [⟨37, (flat (kI .u64) p1)⟩]) ⟨le_of_eq (eg (ls rfl (ls rfl (ls rfl oz)))), le_of_eq (eg (ls rfl (ls rfl (ls rfl (os rfl oz))))), le_of_eq (eg lz), trivial⟩ (bnd_cons (sl_b (kb_R (kb_I _))) (bnd_cons (ptr_bnd _ (by first | omega | (simp only [List.length_append, List.length_cons, List.length_nil]; omega))) (bnd_cons (pl_bnd _ _ _) bnd_nil))) (Nat.le_of_ble_eq_true rfl) (by simp only [na, nb, nc, nd, nf, ng, nh, ni, nj, nk] <;> rfl) (bxle_same bxle_nil) rfl (by simp only [na, nb, nc, nd, nf, ng, nh, ni, nj, nk] <;> rfl) (bl_cons (flatKB (kb_I _)) bl_nil) ?_
        exact ⟨m_z_3, Nat.lt_succ_self _, IntKind.i64.wrap (t_2 + 1), ⟨le_of_eq (eg oz), le_of_eq (eg (os rfl oz)), le_of_eq (eg (os rfl (os rfl oz))), trivial⟩, rfl, hz_1⟩
    · skip
      replace hz_3 := ifb_f hz_3 hc
      clear hc
      refine aw_exit ?_
      obtain rfl := some_of hz_3
      replace hz_1 := ocs_r hz_1
      refine wk_no ?_
      refine wk_yesN rfl (l := [(0, sl (kR (kI .u8)) none none p0), (3, ptr (s.boxes.length + 0) 0)]) (bs' := [⟨37, (flat (kI .u64) p1)⟩]) ⟨le_of_eq (eg oz), le_of_eq (eg (os rfl oz)), trivial⟩ (bnd_cons (sl_b (kb_R (kb_I _))) (bnd_cons (ptr_bnd _ (by first | omega | (simp only [List.length_append, List.length_cons, List.length_nil]; omega))) bnd_nil)) (Nat.le_of_ble_eq_true rfl) (by simp only [na, nb, nc, nd, nf, ng, nh, ni, nj, nk] <;> rfl) (bxle_same bxle_nil) rfl (by simp only [na, nb, nc, nd, nf, ng, nh, ni, nj, nk] <;> rfl) (bl_cons (flatKB (kb_I _)) bl_nil) ?_
      exact ⟨(), ⟨le_of_eq (eg oz), le_of_eq (eg (os rfl oz)), trivial⟩, rfl, some_of hz_1⟩
  · rintro e st ⟨vz_1, hH, rfl, rfl⟩
    refine aw_keep _ hH ?_
    replace h0 := ocs_r h0
    refine aw_keep [(0, _), (3, _)] ⟨lg oz, lg (os rfl oz), trivial⟩ ?_
    refine aw_seq ?_
    refine aw_region (by decide) ?_
    refine rts _ rfl (opD_move oz) ?_
    replace h0 := grd_some h0
    obtain ⟨hg_9, h0⟩ := h0
    refine rts _ rfl (loadFN ag37_UA sz37_UA (ls rfl (os rfl oz)) (loc_getN rfl rfl) rfl hg_9) ?_
    replace h0 := bnd_some h0
    obtain ⟨x_8, hx_8, h0⟩ := h0
    refine rts _ rfl (opD_pure ht8_UA (c_sdirty hx_8) ⟨le_of_eq (ls rfl lz), le_of_eq lz, trivial⟩) ?_
    refine rts _ rfl (opD_len_sl Go.Proofs.Try.underlying33 lz) ?_
    refine rts _ rfl (opD_eql lz (ev_const _ _)) ?_
    refine rts _ rfl (opD_assign lz) ?_
    refine .nil ?_
    refine aw_keep [(4, _)] ⟨lg lz, trivial⟩ ?_
    refine aw_ret ?_
    obtain rfl := some_of h0
    exact done_ext (.inr rfl) ((res_one rfl (it_tmp oz)).le (Pd.le_refl _)) (pl_bnd _ _ _)

def F_sslack_b1 (x_7 : ((List Int))) (t_8 : Int × Int × Int) : Option ((Int × Int × Int) ⊕ ((Int × Int))) :=
  ifb (decide (t_8.2.2 < (x_7.length : Int))) (bnd (ixb x_7 t_8.2.2 fun x_11 => ifb (decide (x_11 ≠ 0)) (some (IntKind.i64.wrap (t_8.2.1 + 1))) (some t_8.2.1)) fun z_10 => some (.inl (IntKind.i64.wrap (t_8.1 + 1), z_10, IntKind.i64.wrap (t_8.2.2 + 1)))) (some (.inr (t_8.1, t_8.2.1)))
def F_sslack_b0 (fl : Nat) (p0 : (List (List Int))) (p1 : (List Int)) (t_2 : Int × Int × Int) : Option ((Int × Int × Int) ⊕ ((Int × Int))) :=
  ifb (decide (t_2.2.2 < (p0.length : Int))) (bnd (grd (p1.length = 16) <| bnd (F_bhas p1 t_2.2.2) fun x_5 => grd (((!x_5) == false) = true → Below t_2.2.2 p0.length) <| ifb ((!x_5) || (decide (((p0.getD t_2.2.2.toNat default).length : Int) ≠ 512))) (some (t_2.1, t_2.2.1)) (ixb p0 t_2.2.2 fun x_6 => bnd (F_behind x_6) fun x_7 => lp (F_sslack_b1 x_7) fl (t_2.1, t_2.2.1, 0))) fun z_4 => some (.inl (z_4.1, z_4.2, IntKind.i64.wrap (t_2.2.2 + 1)))) (some (.inr (t_2.1, t_2.2.1)))
def F_sslack (fl : Nat) (p0 : (List (List Int))) (p1 : (List Int)) : Option (Int × Int) :=
  bnd (lp (F_sslack_b0 fl p0 p1) fl (0, 0, 2)) fun z_1 => some (z_1.1, z_1.2)
set_option maxRecDepth 100000 in
set_option maxHeartbeats 2000000 in
theorem c_sslack {fl : Nat} {p0 : (List (List Int))} {p1 : (List Int)} {R : Int × Int} (h0 : F_sslack fl p0 p1 = some R) : Pure Go.Proofs.Try.prog 6 [sl (kR (kI .u8)) none none p0, agg (flat (kI .u64) p1)] (tup [pl (.int .i64 R.1), pl (.int .i64 R.2)]) := by
  intro s
  unfold F_sslack at h0
  refine ac_of_aw s.boxes.length s.fr.length Go.Proofs.Try.func6 rfl (by simp [Go.Proofs.Try.ntmps6]) ?_
  refine aw_ext0 ?_
  refine aw_keep [(0, _), (1, _)] ⟨lg ez, lg (es ez), trivial⟩ ?_
  refine aw_seq ?_
  refine aw_region (by decide) ?_
  refine rts _ rfl (boxFN (k := kI .u64) (l := p1) rfl (os rfl oz) rfl (kb_I _) (by first | exact List.length_nil | (simp only [List.length_cons, List.length_nil, Nat.zero_add, Nat.reduceAdd] <;> rfl)) (by simp only [na, nb, nc, nd, nf, ng, nh, ni, nj, nk] <;> rfl)) ?_
  refine rts _ rfl (opD_assign (ev_const _ _)) ?_
  refine rts _ rfl (opD_assign (ev_const _ _)) ?_
  refine .nil ?_
  refine aw_keep [(0, _), (3, _)] ⟨lg (ls rfl (ls rfl (ls rfl oz))), lg (ls rfl (ls rfl lz)), trivial⟩ ?_
  refine aw_seq ?_
  refine aw_region (by decide) ?_
  refine rts _ rfl (opD_assign (ev_const _ _)) ?_
  refine rts _ rfl (opD_assign (ev_const _ _)) ?_
  refine .nil ?_
  refine aw_keep [(0, _), (3, _), (6, _), (7, _)] ⟨lg (ls rfl (ls rfl oz)), lg (ls rfl (ls rfl (os rfl oz))), lg (ls rfl lz), lg lz, trivial⟩ ?_
  refine aw_seq ?_
  refine aw_seq ?_
  refine aw_region (by decide) ?_
  refine rts _ rfl (opD_assign (ev_const _ _)) ?_
  refine .nil ?_
  refine aw_keep [(0, _), (3, _), (6, _), (7, _), (8, _)] ⟨lg (ls rfl oz), lg (ls rfl (os rfl oz)), lg (ls rfl (os rfl (os rfl oz))), lg (ls rfl (os rfl (os rfl (os rfl oz)))), lg lz, trivial⟩ ?_
  replace h0 := bnd_some h0
  obtain ⟨z_1, hz_1, h0⟩ := h0
  refine aw_mid (fun e st => ∃ v : Int × Int, Holds e [(6, pl (.int .i64 v.1)), (7, pl (.int .i64 v.2))] ∧ st = s.ext [⟨37, (flat (kI .u64) p1)⟩] [] ∧ v = z_1) ?_ ?_
  · skip
    refine aw_wkN rfl 1 0 rfl rfl ?_
    refine aw_block ?_
    refine aw_loop (fun n e st => ∃ v : Int × Int × Int, Holds e [(0, sl (kR (kI .u8)) none none p0), (3, ptr (s.boxes.length + 0) 0), (6, pl (.int .i64 v.1)), (7, pl (.int .i64 v.2.1)), (8, pl (.int .i64 v.2.2))] ∧ st = s.ext [⟨37, (flat (kI .u64) p1)⟩] [] ∧ lp (F_sslack_b0 fl p0 p1) n v = some z_1) fl ⟨(0, 0, 2), ⟨le_of_eq (eg oz), le_of_eq (eg (os rfl oz)), le_of_eq (eg (os rfl (os rfl oz))), le_of_eq (eg (os rfl (os rfl (os rfl oz)))), le_of_eq (eg (os rfl (os rfl (os rfl (os rfl oz))))), trivial⟩, rfl, hz_1⟩ ?_
    rintro n e st ⟨t_2, hH, rfl, hz_1⟩
    replace hz_1 := lp_some hz_1
    obtain ⟨m_z_3, z_3, rfl, hz_3, hz_1⟩ := hz_1
    unfold F_sslack_b0 at hz_3
    refine aw_keep _ hH ?_
    refine aw_wkN rfl 1 0 rfl rfl ?_
    refine aw_seq ?_
    refine aw_seq ?_
    refine aw_region (by decide) ?_
    refine rts _ rfl (opD_move (os rfl (os rfl (os rfl (os rfl oz))))) ?_
    refine rts _ rfl (opD_move (ls rfl oz)) ?_
    refine rts _ rfl (opD_len_sl Go.Proofs.Try.underlying22 lz) ?_
    refine rts _ rfl (opD_lss (ls rfl (ls rfl lz)) lz) ?_
    refine .nil ?_
    refine aw_keep [(0, _), (3, _), (6, _), (7, _), (8, _), (14, _)] ⟨lg (ls rfl (ls rfl (ls rfl (ls rfl oz)))), lg (ls rfl (ls rfl (ls rfl (ls rfl (os rfl oz))))), lg (ls rfl (ls rfl (ls rfl (ls rfl (os rfl (os rfl oz)))))), lg (ls rfl (ls rfl (ls rfl (ls rfl (os rfl (os rfl (os rfl oz))))))), lg (ls rfl (ls rfl (ls rfl (ls rfl (os rfl (os rfl (os rfl (os rfl oz)))))))), lg lz, trivial⟩ ?_
    refine aw_cond _ (os rfl (os rfl (os rfl (os rfl (os rfl oz))))) (fun hc => ?_) (fun hc => ?_)
    · skip
      replace hz_3 := ifb_t hz_3 hc
      clear hc
      refine aw_skip ?_
      refine aw_keep [(0, _), (3, _), (6, _), (7, _), (8, _)] ⟨lg oz, lg (os rfl oz), lg (os rfl (os rfl oz)), lg (os rfl (os rfl (os rfl oz))), lg (os rfl (os rfl (os rfl (os rfl oz)))), trivial⟩ ?_
      refine aw_seq ?_
      replace hz_3 := bnd_some hz_3
      obtain ⟨z_4, hz_4, hz_3⟩ := hz_3
      refine aw_mid (fun e st => ∃ v : Int × Int, Holds e [(0, sl (kR (kI .u8)) none none p0), (3, ptr (s.boxes.length + 0) 0), (6, pl (.int .i64 v.1)), (7, pl (.int .i64 v.2)), (8, pl (.int .i64 t_2.2.2))] ∧ st = s.ext [⟨37, (flat (kI .u64) p1)⟩] [] ∧ v = z_4) ?_ ?_
      · skip
        refine aw_wkN rfl 1 0 rfl rfl ?_
        refine aw_block ?_
        refine aw_seq ?_
        refine aw_seq ?_
        refine aw_region (by decide) ?_
        replace hz_4 := grd_some hz_4
        obtain ⟨hg_57, hz_4⟩ := hz_4
        refine rts _ rfl (loadFN ag37_UA sz37_UA (os rfl oz) (loc_getN rfl rfl) rfl hg_57) ?_
        refine rts _ rfl (opD_move (ls rfl (os rfl (os rfl (os rfl (os rfl oz)))))) ?_
        replace hz_4 := bnd_some hz_4
        obtain ⟨x_5, hx_5, hz_4⟩ := hz_4
        refine rts _ rfl (opD_pure ht4_UA (c_bhas hx_5) ⟨le_of_eq (ls rfl lz), le_of_eq lz, trivial⟩) ?_
        refine rts _ rfl (opD_not lz) ?_
        refine rts _ rfl (opD_move lz) ?_
        refine rtg _ rfl lz (fun hg5_5_58 => opD_move (ls rfl (ls rfl (ls rfl (ls rfl (ls rfl oz)))))) ?_
        refine rtg _ rfl (ls rfl lz) (fun hg5_6_59 => opD_move (ls rfl (ls rfl (ls rfl (ls rfl (ls rfl (ls rfl (os rfl (os rfl (os rfl (os rfl oz))))))))))) ?_
        replace hz_4 := grd_some hz_4
        obtain ⟨hg_61, hz_4⟩ := hz_4
        refine rtg _ rfl (ls rfl (ls rfl lz)) (fun hg5_7_60 => opD_indexAddr_sl (i := t_2.2.2.toNat) Go.Proofs.Try.underlying22 sz26_UA ((ls rfl lz).trans (pif_pos hg5_7_60)) (lz.trans (pif_pos hg5_7_60)) (hg_61 hg5_7_60).eq (hg_61 hg5_7_60).2) ?_
        refine rtg _ rfl (ls rfl (ls rfl (ls rfl lz))) (fun hg5_8_62 => opD_load_el_one ag26_UA (lz.trans (pif_pos hg5_8_62)) (at_getD default (hg_61 hg5_8_62).2) rfl) ?_
        refine rtg _ rfl (ls rfl (ls rfl (ls rfl (ls rfl lz)))) (fun hg5_9_63 => opD_len_sl Go.Proofs.Try.underlying26 (lz.trans (pif_pos hg5_9_63))) ?_
        refine rtg _ rfl (ls rfl (ls rfl (ls rfl (ls rfl (ls rfl lz))))) (fun hg5_10_64 => opD_neq (lz.trans (pif_pos hg5_10_64)) (ev_const _ _)) ?_
        refine rts _ rfl (opD_or (ls rfl (ls rfl (ls rfl (ls rfl (ls rfl (ls rfl lz)))))) lz) ?_
        refine .nil ?_
        refine aw_keep [(0, _), (3, _), (6, _), (7, _), (8, _), (28, _)] ⟨lg (ls rfl (ls rfl (ls rfl (ls rfl (ls rfl (ls rfl (ls rfl (ls rfl (ls rfl (ls rfl (ls rfl (ls rfl oz)))))))))))), lg (ls rfl (ls rfl (ls rfl (ls rfl (ls rfl (ls rfl (ls rfl (ls rfl (ls rfl (ls rfl (ls rfl (ls rfl (os rfl oz))))))))))))), lg (ls rfl (ls rfl (ls rfl (ls rfl (ls rfl (ls rfl (ls rfl (ls rfl (ls rfl (ls rfl (ls rfl (ls rfl (os rfl (os rfl oz)))))))))))))), lg (ls rfl (ls rfl (ls rfl (ls rfl (ls rfl (ls rfl (ls rfl (ls rfl (ls rfl (ls rfl (ls rfl (ls rfl (os rfl (os rfl (os rfl oz))))))))))))))), lg (ls rfl (ls rfl (ls rfl (ls rfl (ls rfl (ls rfl (ls rfl (ls rfl (ls rfl (ls rfl (ls rfl (ls rfl (os rfl (os rfl (os rfl (os rfl oz)))))))))))))))), lg lz, trivial⟩ ?_
        refine aw_cond _ (os rfl (os rfl (os rfl (os rfl (os rfl oz))))) (fun hc => ?_) (fun hc => ?_)
        · skip
          replace hz_4 := ifb_t hz_4 hc
          clear hc
          refine aw_exit ?_
          refine wk_yesN rfl (l := [(0, sl (kR (kI .u8)) none none p0), (3, ptr (s.boxes.length + 0) 0), (6, pl (.int .i64 t_2.1)), (7, pl (.int .i64 t_2.2.1)), (8, pl (.int .i64 t_2.2.2))]) (bs' := [⟨37, (flat (kI .u64) p1)⟩]) ⟨le_of_eq (eg oz), le_of_eq (eg (os rfl oz)), le_of_eq (eg (os rfl (os rfl oz))), le_of_eq (eg (os rfl (os rfl (os rfl oz)))), le_of_eq (eg (os rfl (os rfl (os rfl (os rfl oz))))), trivial⟩ (bnd_cons (sl_b (kb_R (kb_I _))) (bnd_cons (ptr_bnd _ (by first | omega | (simp only [List.length_append, List.length_cons, List.length_nil]; omega))) (bnd_cons (pl_bnd _ _ _) (bnd_cons (pl_bnd _ _ _) (bnd_cons (pl_bnd _ _ _) bnd_nil))))) (Nat.le_of_ble_eq_true rfl) (by simp only [na, nb, nc, nd, nf, ng, nh, ni, nj, nk] <;> rfl) (bxle_same bxle_nil) rfl (by simp only [na, nb, nc, nd, nf, ng, nh, ni, nj, nk] <;> rfl) (bl_cons (flatKB (kb_I _)) bl_nil) ?_
          exact ⟨(t_2.1, t_2.2.1), ⟨le_of_eq (eg oz), le_of_eq (eg (os rfl oz)), le_of_eq (eg (os rfl (os rfl oz))), le_of_eq (eg (os rfl (os rfl (os rfl oz)))), le_of_eq (eg (os rfl (os rfl (os rfl (os rfl oz))))), trivial⟩, rfl, some_of hz_4⟩
        · skip
          replace hz_4 := ifb_f hz_4 hc
          clear hc
          refine aw_skip ?_
          refine aw_keep [(0, _), (3, _), (6, _), (7, _), (8, _)] ⟨lg oz, lg (os rfl oz), lg (os rfl (os rfl oz)), lg (os rfl (os rfl (os rfl oz))), lg (os rfl (os rfl (os rfl (os rfl oz)))), trivial⟩ ?_
          refine aw_seq ?_
          refine aw_region (by decide) ?_
          refine rts _ rfl (opD_move oz) ?_
          refine rts _ rfl (opD_move (ls rfl (os rfl (os rfl (os rfl (os rfl oz)))))) ?_
          replace hz_4 := ixb_some hz_4
          obtain ⟨x_6, hx_6, hbx_6, hz_4⟩ := hz_4
          refine rts _ rfl (opD_indexAddr_sl (i := t_2.2.2.toNat) Go.Proofs.Try.underlying22 sz26_UA (ls rfl lz) lz hbx_6.2.2 hbx_6.2.1) ?_
          refine rts _ rfl (opD_load_el_one ag26_UA lz hx_6 rfl) ?_
          replace hz_4 := bnd_some hz_4
          obtain ⟨x_7, hx_7, hz_4⟩ := hz_4
          refine rts _ rfl (opD_pure ht13_UA (c_behind hx_7) ⟨le_of_eq lz, trivial⟩) ?_
          refine rts _ rfl (opD_len_sl Go.Proofs.Try.underlying26 lz) ?_
          refine rts _ rfl (opD_move (ev_const _ _)) ?_
          refine .nil ?_
          refine aw_keep [(0, _), (3, _), (6, _), (7, _), (8, _), (33, _), (34, _), (35, _)] ⟨lg (ls rfl (ls rfl (ls rfl (ls rfl (ls rfl (ls rfl (ls rfl oz))))))), lg (ls rfl (ls rfl (ls rfl (ls rfl (ls rfl (ls rfl (ls rfl (os rfl oz)))))))), lg (ls rfl (ls rfl (ls rfl (ls rfl (ls rfl (ls rfl (ls rfl (os rfl (os rfl oz))))))))), lg (ls rfl (ls rfl (ls rfl (ls rfl (ls rfl (ls rfl (ls rfl (os rfl (os rfl (os rfl oz)))))))))), lg (ls rfl (ls rfl (ls rfl (ls rfl (ls rfl (ls rfl (ls rfl (os rfl (os rfl (os rfl (os rfl oz))))))))))), lg (ls rfl (ls rfl lz)), lg (ls rfl lz), lg lz, trivial⟩ ?_
          refine aw_block ?_
          refine aw_loop (fun n e st => ∃ v : Int × Int × Int, Holds e [(0, sl (kR (kI .u8)) none none p0), (3, ptr (s.boxes.length + 0) 0), (6, pl (.int .i64 v.1)), (7, pl (.int .i64 v.2.1)), (8, pl (.int .i64 t_2.2.2)), (33, sl (kI .u8) none none x_7), (34, pl (.int .i64 (x_7.length : Int))), (35, pl (.int .i64 v.2.2))] ∧ st = s.ext [⟨37, (flat (kI .u64) p1)⟩] [] ∧ lp (F_sslack_b1 x_7) n v = some z_4) fl ⟨(t_2.1, t_2.2.1, 0), ⟨le_of_eq (eg oz), le_of_eq (eg (os rfl oz)), le_of_eq (eg (os rfl (os rfl oz))), le_of_eq (eg (os rfl (os rfl (os rfl oz)))), le_of_eq (eg (os rfl (os rfl (os rfl (os rfl oz))))), le_of_eq (eg (os rfl (os rfl (os rfl (os rfl (os rfl oz)))))), le_of_eq (eg (os rfl (os rfl (os rfl (os rfl (os rfl (os rfl oz))))))), le_of_eq (eg (os rfl (os rfl (os rfl (os rfl (os rfl (os rfl (os rfl oz)))))))), trivial⟩, rfl, hz_4⟩ ?_
          rintro n e st ⟨t_8, hH, rfl, hz_4⟩
          replace hz_4 := lp_some hz_4
          obtain ⟨m_z_9, z_9, rfl, hz_9, hz_4⟩ := hz_4
          unfold F_sslack_b1 at hz_9
          refine aw_keep _ hH ?_
          refine aw_wkN rfl 1 0 rfl rfl ?_
          refine aw_seq ?_
          refine aw_region (by decide) ?_
          refine rts _ rfl (opD_lss (os rfl (os rfl (os rfl (os rfl (os rfl (os rfl (os rfl oz))))))) (os rfl (os rfl (os rfl (os rfl (os rfl (os rfl oz))))))) ?_
          refine .nil ?_
          refine aw_keep [(0, _), (3, _), (6, _), (7, _), (8, _), (33, _), (34, _), (35, _), (36, _)] ⟨lg (ls rfl oz), lg (ls rfl (os rfl oz)), lg (ls rfl (os rfl (os rfl oz))), lg (ls rfl (os rfl (os rfl (os rfl oz)))), lg (ls rfl (os rfl (os rfl (os rfl (os rfl oz))))), lg (ls rfl (os rfl (os rfl (os rfl (os rfl (os rfl oz)))))), lg (ls rfl (os rfl (os rfl (os rfl (os rfl (os rfl (os rfl oz))))))), lg (ls rfl (os rfl (os rfl (os rfl (os rfl (os rfl (os rfl (os rfl oz)))))))), lg lz, trivial⟩ ?_
          refine aw_seq ?_
          refine aw_cond _ (os rfl (os rfl (os rfl (os rfl (os rfl (os rfl (os rfl (os rfl oz)))))))) (fun hc => ?_) (fun hc => ?_)
          · skip
            replace hz_9 := ifb_t hz_9 hc
            clear hc
            refine aw_skip ?_
            refine aw_keep [(0, _), (3, _), (6, _), (7, _), (8, _), (33, _), (34, _), (35, _)] ⟨lg oz, lg (os rfl oz), lg (os rfl (os rfl oz)), lg (os rfl (os rfl (os rfl oz))), lg (os rfl (os rfl (os rfl (os rfl oz)))), lg (os rfl (os rfl (os rfl (os rfl (os rfl oz))))), lg (os rfl (os rfl (os rfl (os rfl (os rfl (os rfl oz)))))), lg (os rfl (os rfl (os rfl (os rfl (os rfl (os rfl (os rfl oz))))))), trivial⟩ ?_
            refine aw_seq ?_
            replace hz_9 := bnd_some hz_9
            obtain ⟨z_10, hz_10, hz_9⟩ := hz_9
            refine aw_mid (fun e st => ∃ v : Int, Holds e [(0, sl (kR (kI .u8)) none none p0), (3, ptr (s.boxes.length + 0) 0), (6, pl (.int .i64 (IntKind.i64.wrap (t_8.1 + 1)))), (7, pl (.int .i64 v)), (8, pl (.int .i64 t_2.2.2)), (33, sl (kI .u8) none none x_7), (34, pl (.int .i64 (x_7.length : Int))), (35, pl (.int .i64 t_8.2.2))] ∧ st = s.ext [⟨37, (flat (kI .u64) p1)⟩] [] ∧ v = z_10) ?_ ?_
            · skip
              refine aw_wkN rfl 1 0 rfl rfl ?_
              refine aw_block ?_
              refine aw_seq ?_
              refine aw_region (by decide) ?_
              replace hz_10 := ixb_some hz_10
              obtain ⟨x_11, hx_11, hbx_11, hz_10⟩ := hz_10
              refine rts _ rfl (opD_indexAddr_sl (i := t_8.2.2.toNat) Go.Proofs.Try.underlying26 sz5_UA (os rfl (os rfl (os rfl (os rfl (os rfl oz))))) (os rfl (os rfl (os rfl (os rfl (os rfl (os rfl (os rfl oz))))))) hbx_11.2.2 hbx_11.2.1) ?_
              refine rts _ rfl (opD_load_el_one ag5_UA lz hx_11 rfl) ?_
              refine rts _ rfl (opD_assign lz) ?_
              refine .nil ?_
              refine aw_keep [(0, _), (3, _), (6, _), (7, _), (8, _), (10, _), (33, _), (34, _), (35, _)] ⟨lg (ls rfl (ls rfl (ls rfl oz))), lg (ls rfl (ls rfl (ls rfl (os rfl oz)))), lg (ls rfl (ls rfl (ls rfl (os rfl (os rfl oz))))), lg (ls rfl (ls rfl (ls rfl (os rfl (os rfl (os rfl oz)))))), lg (ls rfl (ls rfl (ls rfl (os rfl (os rfl (os rfl (os rfl oz))))))), lg lz, lg (ls rfl (ls rfl (ls rfl (os rfl (os rfl (os rfl (os rfl (os rfl oz)))))))), lg (ls rfl (ls rfl (ls rfl (os rfl (os rfl (os rfl (os rfl (os rfl (os rfl oz))))))))), lg (ls rfl (ls rfl (ls rfl (os rfl (os rfl (os rfl (os rfl (os rfl (os rfl (os rfl oz)))))))))), trivial⟩ ?_
              refine aw_seq ?_
              refine aw_region (by decide) ?_
              refine rts _ rfl (opD_move (os rfl (os rfl oz))) ?_
              refine rts _ rfl (opD_add lz (ev_const _ _) rfl) ?_
              refine rts _ rfl (opD_assign lz) ?_
              refine .nil ?_
              refine aw_keep [(0, _), (3, _), (6, _), (7, _), (8, _), (10, _), (33, _), (34, _), (35, _)] ⟨lg (ls rfl (ls rfl (ls rfl oz))), lg (ls rfl (ls rfl (ls rfl (os rfl oz)))), lg lz, lg (ls rfl (ls rfl (ls rfl (os rfl (os rfl (os rfl oz)))))), lg (ls rfl (ls rfl (ls rfl (os rfl (os rfl (os rfl (os rfl oz))))))), lg (ls rfl (ls rfl (ls rfl (os rfl (os rfl (os rfl (os rfl (os rfl oz)))))))), lg (ls rfl (ls rfl (ls rfl (os rfl (os rfl (os rfl (os rfl (os rfl (os rfl oz))))))))), lg (ls rfl (ls rfl (ls rfl (os rfl (os rfl (os rfl (os rfl (os rfl (os rfl (os rfl oz)))))))))), lg (ls rfl (ls rfl (ls rfl (os rfl (os rfl (os rfl (os rfl (os rfl (os rfl (os rfl (os rfl oz))))))))))), trivial⟩ ?_
              refine aw_seq ?_
              refine aw_region (by decide) ?_
              refine rts _ rfl (opD_move (os rfl (os rfl (os rfl (os rfl (os rfl oz)))))) ?_
              refine rts _ rfl (opD_neq lz (ev_const _ _)) ?_
              refine .nil ?_
              refine aw_keep [(0, _), (3, _), (6, _), (7, _), (8, _), (33, _), (34, _), (35, _), (42, _)] ⟨lg (ls rfl (ls rfl oz)), lg (ls rfl (ls rfl (os rfl oz))), lg (ls rfl (ls rfl (os rfl (os rfl oz)))), lg (ls rfl (ls rfl (os rfl (os rfl (os rfl oz))))), lg (ls rfl (ls rfl (os rfl (os rfl (os rfl (os rfl oz)))))), lg (ls rfl (ls rfl (os rfl (os rfl (os rfl (os rfl (os rfl (os rfl oz)))))))), lg (ls rfl (ls rfl (os rfl (os rfl (os rfl (os rfl (os rfl (os rfl (os rfl oz))))))))), lg (ls rfl (ls rfl (os rfl (os rfl (os rfl (os rfl (os rfl (os rfl (os rfl (os rfl oz)))))))))), lg lz, trivial⟩ ?_
              refine aw_cond _ (os rfl (os rfl (os rfl (os rfl (os rfl (os rfl (os rfl (os rfl oz)))))))) (fun hc => ?_) (fun hc => ?_)
              · skip
                replace hz_10 := ifb_t hz_10 hc
                clear hc
                refine aw_region (by decide) ?_
                refine rts _ rfl (opD_move (os rfl (os rfl (os rfl oz)))) ?_
                refine rts _ rfl (opD_add lz (ev_const _ _) rfl) ?_
                refine rts _ rfl (opD_assign lz) ?_
                refine .nil ?_
                refine wk_yesN rfl (l := [(0, sl (kR (kI .u8)) none none p0), (3, ptr (s.boxes.length + 0) 0), (6, pl (.int .i64 (IntKind.i64.wrap (t_8.1 + 1)))), (7, pl (.int .i64 (IntKind.i64.wrap (t_8.2.1 + 1)))), (8, pl (.int .i64 t_2.2.2)), (33, sl (kI .u8) none none x_7), (34, pl (.int .i64 (x_7.length : Int))), (35, pl (.int .i64 t_8.2.2))]) (bs' := [⟨37, (flat (kI .u64) p1)⟩]) ⟨le_of_eq (eg (ls rfl (ls rfl (ls rfl oz)))), le_of_eq (eg (ls rfl (ls rfl (ls rfl (os rfl oz))))), le_of_eq (eg (ls rfl (ls rfl (ls rfl (os rfl (os rfl oz)))))), le_of_eq (eg lz), le_of_eq (eg (ls rfl (ls rfl (ls rfl (os rfl (os rfl (os rfl (os rfl oz)))))))), le_of_eq (eg (ls rfl (ls rfl (ls rfl (os rfl (os rfl (os rfl (os rfl (os rfl oz))))))))), le_of_eq (eg (ls rfl (ls rfl (ls rfl (os rfl (os rfl (os rfl (os rfl (os rfl (os rfl oz)))))))))), le_of_eq (eg (ls rfl (ls rfl (ls rfl (os rfl (os rfl (os rfl (os rfl (os rfl (os rfl (os rfl oz))))))))))), trivial⟩ (bnd_cons (sl_b (kb_R (kb_I _))) (bnd_cons (ptr_bnd _ (by first | omega | (simp only [List.length_append, List.length_cons, List.length_nil]; omega))) (bnd_cons (pl_bnd _ _ _) (bnd_cons (pl_bnd _ _ _) (bnd_cons (pl_bnd _ _ _) (bnd_cons (sl_b (kb_I _)) (bnd_cons (pl_bnd _ _ _) (bnd_cons (pl_bnd _ _ _) bnd_nil)))))))) (Nat.le_of_ble_eq_true rfl) (by simp only [na, nb, nc, nd, nf, ng, nh, ni, nj, nk] <;> rfl) (bxle_same bxle_nil) rfl (by simp only [na, nb, nc, nd, nf, ng, nh, ni, nj, nk] <;> rfl) (bl_cons (flatKB (kb_I _)) bl_nil) ?_
                exact ⟨IntKind.i64.wrap (t_8.2.1 + 1), ⟨le_of_eq (eg oz), le_of_eq (eg (os rfl oz)), le_of_eq (eg (os rfl (os rfl oz))), le_of_eq (eg (os rfl (os rfl (os rfl oz)))), le_of_eq (eg (os rfl (os rfl (os rfl (os rfl oz))))), le_of_eq (eg (os rfl (os rfl (os rfl (os rfl (os rfl oz)))))), le_of_eq (eg (os rfl (os rfl (os rfl (os rfl (os rfl (os rfl oz))))))), le_of_eq (eg (os rfl (os rfl (os rfl (os rfl (os rfl (os rfl (os rfl oz)))))))), trivial⟩, rfl, some_of hz_10⟩
              · skip
                replace hz_10 := ifb_f hz_10 hc
                clear hc
                refine aw_skip ?_
                refine wk_yesN rfl (l := [(0, sl (kR (kI .u8)) none none p0), (3, ptr (s.boxes.length + 0) 0), (6, pl (.int .i64 (IntKind.i64.wrap (t_8.1 + 1)))), (7, pl (.int .i64 t_8.2.1)), (8, pl (.int .i64 t_2.2.2)), (33, sl (kI .u8) none none x_7), (34, pl (.int .i64 (x_7.length : Int))), (35, pl (.int .i64 t_8.2.2))]) (bs' := [⟨37, (flat (kI .u64) p1)⟩]) ⟨le_of_eq (eg oz), le_of_eq (eg (os rfl oz)), le_of_eq (eg (os rfl (os rfl oz))), le_of_eq (eg (os rfl (os rfl (os rfl oz)))), le_of_eq (eg (os rfl (os rfl (os rfl (os rfl oz))))), le_of_eq (eg (os rfl (os rfl (os rfl (os rfl (os rfl oz)))))), le_of_eq (eg (os rfl (os rfl (os rfl (os rfl (os rfl (os rfl oz))))))), le_of_eq (eg (os rfl (os rfl (os rfl (os rfl (os rfl (os rfl (os rfl oz)))))))), trivial⟩ (bnd_cons (sl_b (kb_R (kb_I _))) (bnd_cons (ptr_bnd _ (by first | omega | (simp only [List.length_append, List.length_cons, List.length_nil]; omega))) (bnd_cons (pl_bnd _ _ _) (bnd_cons (pl_bnd _ _ _) (bnd_cons (pl_bnd _ _ _) (bnd_cons (sl_b (kb_I _)) (bnd_cons (pl_bnd _ _ _) (bnd_cons (pl_bnd _ _ _) bnd_nil)))))))) (Nat.le_of_ble_eq_true rfl) (by simp only [na, nb, nc, nd, nf, ng, nh, ni, nj, nk] <;> rfl) (bxle_same bxle_nil) rfl (by simp only [na, nb, nc, nd, nf, ng, nh, ni, nj, nk] <;> rfl) (bl_cons (flatKB (kb_I _)) bl_nil) ?_
                exact ⟨t_8.2.1, ⟨le_of_eq (eg oz), le_of_eq (eg (os rfl oz)), le_of_eq (eg (os rfl (os rfl oz))), le_of_eq (eg (os rfl (os rfl (os rfl oz)))), le_of_eq (eg (os rfl (os rfl (os rfl (os rfl oz))))), le_of_eq (eg (os rfl (os rfl (os rfl (os rfl (os rfl oz)))))), le_of_eq (eg (os rfl (os rfl (os rfl (os rfl (os rfl (os rfl oz))))))), le_of_eq (eg (os rfl (os rfl (os rfl (os rfl (os rfl (os rfl (os rfl oz)))))))), trivial⟩, rfl, some_of hz_10⟩
            · rintro e st ⟨vz_10, hH, rfl, rfl⟩
              refine aw_keep _ hH ?_
              refine aw_keep [(0, _), (3, _), (6, _), (7, _), (8, _), (33, _), (34, _), (35, _)] ⟨lg oz, lg (os rfl oz), lg (os rfl (os rfl oz)), lg (os rfl (os rfl (os rfl oz))), lg (os rfl (os rfl (os rfl (os rfl oz)))), lg (os rfl (os rfl (os rfl (os rfl (os rfl oz))))), lg (os rfl (os rfl (os rfl (os rfl (os rfl (os rfl oz)))))), lg (os rfl (os rfl (os rfl (os rfl (os rfl (os rfl (os rfl oz))))))), trivial⟩ ?_
              refine aw_region (by decide) ?_
              refine rts _ rfl (opD_add (os rfl (os rfl (os rfl (os rfl (os rfl (os rfl (os rfl oz))))))) (ev_const _ _) rfl) ?_
              refine rts _ rfl (opD_move lz) ?_
              refine .nil ?_
              obtain rfl := some_of hz_9
              replace hz_4 := ocs_l hz_4
              refine wk_yesN rfl (l := [(0, sl (kR (kI .u8)) none none p0), (3, ptr (s.boxes.length + 0) 0), (6, pl (.int .i64 (IntKind.i64.wrap (t_8.1 + 1)))), (7, pl (.int .i64 vz_10)), (8, pl (.int .i64 t_2.2.2)), (33, sl (kI .u8) none none x_7), (34, pl (.int .i64 (x_7.length : Int))), (35, pl (.int .i64 (IntKind.i64.wrap (t_8.2.2 + 1))))]) (bs' := [⟨37, (flat (kI .u64) p1)⟩]) ⟨le_of_eq (eg (ls rfl (ls rfl oz))), le_of_eq (eg (ls rfl (ls rfl (os rfl oz)))), le_of_eq (eg (ls rfl (ls rfl (os rfl (os rfl oz))))), le_of_eq (eg (ls rfl (ls rfl (os rfl (os rfl (os rfl oz)))))), le_of_eq (eg (ls rfl (ls rfl (os rfl (os rfl (os rfl (os rfl oz))))))), le_of_eq (eg (ls rfl (ls rfl (os rfl (os rfl (os rfl (os rfl (os rfl oz)))))))), le_of_eq (eg (ls rfl (ls rfl (os rfl (os rfl (os rfl (os rfl (os rfl (os rfl oz))))))))), le_of_eq (eg lz), trivial⟩ (bnd_cons (sl_b (kb_R (kb_I _))) (bnd_cons (ptr_bnd _ (by first | omega | (simp only [List.length_append, List.length_cons, List.length_nil]; omega))) (bnd_cons (pl_bnd _ _ _) (bnd_cons (pl_bnd _ _ _) (bnd_cons (pl_bnd _ _ _) (bnd_cons (sl_b (kb_I _)) (bnd_cons (pl_bnd _ _ _) (bnd_cons (pl_bnd _ _ _) bnd_nil)))))))) (Nat.le_of_ble_eq_true rfl) (by simp only [na, nb, nc, nd, nf, ng, nh, ni, nj, nk] <;> rfl) (bxle_same bxle_nil) rfl (by simp only [na, nb, nc, nd, nf, ng, nh, ni, nj, nk] <;> rfl) (bl_cons (flatKB (kb_I _)) bl_nil) ?_
              exact ⟨m_z_9, Nat.lt_succ_self _, (IntKind.i64.wrap (t_8.1 + 1), vz_10, IntKind.i64.wrap (t_8.2.2 + 1)), ⟨le_of_eq (eg oz), le_of_eq (eg (os rfl oz)), le_of_eq (eg (os rfl (os rfl oz))), le_of_eq (eg (os rfl (os rfl (os rfl oz)))), le_of_eq (eg (os rfl (os rfl (os rfl (os rfl oz))))), le_of_eq (eg (os rfl (os rfl (os rfl (os rfl (os rfl oz)))))), le_of_eq (eg (os rfl (os rfl (os rfl (os rfl (os rfl (os rfl oz))))))), le_of_eq (eg (os rfl (os rfl (os rfl (os rfl (os rfl (os rfl (os rfl oz)))))))), trivial⟩, rfl, hz_4⟩
          · skip
            replace hz_9 := ifb_f hz_9 hc
            clear hc
            refine aw_exit ?_
            obtain rfl := some_of hz_9
            replace hz_4 := ocs_r hz_4
            refine wk_no ?_
            refine wk_yesN rfl (l := [(0, sl (kR (kI .u8)) none none p0), (3, ptr (s.boxes.length + 0) 0), (6, pl (.int .i64 t_8.1)), (7, pl (.int .i64 t_8.2.1)), (8, pl (.int .i64 t_2.2.2))]) (bs' := [⟨37, (flat (kI .u64) p1)⟩]) ⟨le_of_eq (eg oz), le_of_eq (eg (os rfl oz)), le_of_eq (eg (os rfl (os rfl oz))), le_of_eq (eg (os rfl (os rfl (os rfl oz)))), le_of_eq (eg (os rfl (os rfl (os rfl (os rfl oz))))), trivial⟩ (bnd_cons (sl_b (kb_R (kb_I _))) (bnd_cons (ptr_bnd _ (by first | omega | (simp only [List.length_append, List.length_cons, List.length_nil]; omega))) (bnd_cons (pl_bnd _ _ _) (bnd_cons (pl_bnd _ _ _) (bnd_cons (pl_bnd _ _ _) bnd_nil))))) (Nat.le_of_ble_eq_true rfl) (by simp only [na, nb, nc, nd, nf, ng, nh, ni, nj, nk] <;> rfl) (bxle_same bxle_nil) rfl (by simp only [na, nb, nc, nd, nf, ng, nh, ni, nj, nk] <;> rfl) (bl_cons (flatKB (kb_I _)) bl_nil) ?_
            exact ⟨(t_8.1, t_8.2.1), ⟨le_of_eq (eg oz), le_of_eq (eg (os rfl oz)), le_of_eq (eg (os rfl (os rfl oz))), le_of_eq (eg (os rfl (os rfl (os rfl oz)))), le_of_eq (eg (os rfl (os rfl (os rfl (os rfl oz))))), trivial⟩, rfl, some_of hz_4⟩
      · rintro e st ⟨vz_4, hH, rfl, rfl⟩
        refine aw_keep _ hH ?_
        refine aw_keep [(0, _), (3, _), (6, _), (7, _), (8, _)] ⟨lg oz, lg (os rfl oz), lg (os rfl (os rfl oz)), lg (os rfl (os rfl (os rfl oz))), lg (os rfl (os rfl (os rfl (os rfl oz)))), trivial⟩ ?_
        refine aw_region (by decide) ?_
        refine rts _ rfl (opD_move (os rfl (os rfl (os rfl (os rfl oz))))) ?_
        refine rts _ rfl (opD_add lz (ev_const _ _) rfl) ?_
        refine rts _ rfl (opD_assign lz) ?_
        refine .nil ?_
        obtain rfl := some_of hz_3
        replace hz_1 := ocs_l hz_1
        refine wk_yesN rfl (l := [(0, sl (kR (kI .u8)) none none p0), (3, ptr (s.boxes.length + 0) 0), (6, pl (.int .i64 vz_4.1)), (7, pl (.int .i64 vz_4.2)), (8, pl (.int .i64 (IntKind.i64.wrap (t_2.2.2 + 1))))]) (bs' := [⟨37, (flat (kI .u64) p1)⟩]) ⟨le_of_eq (eg (ls rfl (ls rfl (ls rfl oz)))), le_of_eq (eg (ls rfl (ls rfl (ls rfl (os rfl oz))))), le_of_eq (eg (ls rfl (ls rfl (ls rfl (os rfl (os rfl oz)))))), le_of_eq (eg (ls rfl (ls rfl (ls rfl (os rfl (os rfl (os rfl oz))))))), le_of_eq (eg lz), trivial⟩ (bnd_cons (sl_b (kb_R (kb_I _))) (bnd_cons (ptr_bnd _ (by first | omega | (simp only [List.length_append, List.length_cons, List.length_nil]; omega))) (bnd_cons (pl_bnd _ _ _) (bnd_cons (pl_bnd _ _ _) (bnd_cons (pl_bnd _ _ _) bnd_nil))))) (Nat.le_of_ble_eq_true rfl) (by simp only [na, nb, nc, nd, nf, ng, nh, ni, nj, nk] <;> rfl) (bxle_same bxle_nil) rfl (by simp only [na, nb, nc, nd, nf, ng, nh, ni, nj, nk] <;> rfl) (bl_cons (flatKB (kb_I _)) bl_nil) ?_
        exact ⟨m_z_3, Nat.lt_succ_self _, (vz_4.1, vz_4.2, IntKind.i64.wrap (t_2.2.2 + 1)), ⟨le_of_eq (eg oz), le_of_eq (eg (os rfl oz)), le_of_eq (eg (os rfl (os rfl oz))), le_of_eq (eg (os rfl (os rfl (os rfl oz)))), le_of_eq (eg (os rfl (os rfl (os rfl (os rfl oz))))), trivial⟩, rfl, hz_1⟩
    · skip
      replace hz_3 := ifb_f hz_3 hc
      clear hc
      refine aw_exit ?_
      obtain rfl := some_of hz_3
      replace hz_1 := ocs_r hz_1
      refine wk_no ?_
      refine wk_yesN rfl (l := [(6, pl (.int .i64 t_2.1)), (7, pl (.int .i64 t_2.2.1))]) (bs' := [⟨37, (flat (kI .u64) p1)⟩]) ⟨le_of_eq (eg (os rfl (os rfl oz))), le_of_eq (eg (os rfl (os rfl (os rfl oz)))), trivial⟩ (bnd_cons (pl_bnd _ _ _) (bnd_cons (pl_bnd _ _ _) bnd_nil)) (Nat.le_of_ble_eq_true rfl) (by simp only [na, nb, nc, nd, nf, ng, nh, ni, nj, nk] <;> rfl) (bxle_same bxle_nil) rfl (by simp only [na, nb, nc, nd, nf, ng, nh, ni, nj, nk] <;> rfl) (bl_cons (flatKB (kb_I _)) bl_nil) ?_
      exact ⟨(t_2.1, t_2.2.1), ⟨le_of_eq (eg oz), le_of_eq (eg (os rfl oz)), trivial⟩, rfl, some_of hz_1⟩
  · rintro e st ⟨vz_1, hH, rfl, rfl⟩
    refine aw_keep _ hH ?_
    refine aw_keep [(6, _), (7, _)] ⟨lg oz, lg (os rfl oz), trivial⟩ ?_
    refine aw_seq ?_
    refine aw_region (by decide) ?_
    refine rts _ rfl (opD_move oz) ?_
    refine rts _ rfl (opD_move (ls rfl (os rfl oz))) ?_
    refine rts _ rfl (opD_assign (ls rfl lz)) ?_
    refine rts _ rfl (opD_assign (ls rfl lz)) ?_
    refine .nil ?_
    refine aw_keep [(4, _), (5, _)] ⟨lg (ls rfl lz), lg lz, trivial⟩ ?_
    refine aw_ret ?_
    obtain rfl := some_of h0
    exact done_ext (.inr rfl) ((res_list (rs := [_, _]) (ps := [_, _]) rfl rfl ⟨it_tmp oz, it_tmp (os rfl oz), trivial⟩).le (tup_le ⟨(Pd.le_refl _), (Pd.le_refl _), trivial⟩)) (tup_bnd (bnd_cons (pl_bnd _ _ _) (bnd_cons (pl_bnd _ _ _) bnd_nil)))
end Go.Proofs.Ytokcgacehdgkcaa.Eng.A
