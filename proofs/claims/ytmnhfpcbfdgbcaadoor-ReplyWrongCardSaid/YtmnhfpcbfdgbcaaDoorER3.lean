/- ER3: what functions do, walked; used by the laws of this seat. -/
import Derived.Test.YtmnhfpcbfdgbcaaDoorER2
namespace Go.Proofs.YtmnhfpcbfdgbcaaDoor.Eng.A
set_option linter.unusedVariables false
set_option linter.unusedSimpArgs false
open Go.RowKit Go.Proofs.YtmnhfpcbfdgbcaaDoor.Plain Go.Proofs.YtmnhfpcbfdgbcaaDoor.Eng Go.Proofs.YtmnhfpcbfdgbcaaDoor.Eng.Pk Go.Proofs.YtmnhfpcbfdgbcaaDoor.Eng.Rd

theorem zt94_u3c : zeroT Tryd.prog 94 = some [.int .i64 0, .int .u64 0, .bool false, .string ⟨#[]⟩, .slice none 0 0, .slice none 0 0, .slice none 0 0] := by kernel_rfl
theorem fo88_0_u3c : fieldOff Tryd.prog 88 0 = some 0 := by kernel_rfl
theorem ag3_u3c : aggT Tryd.prog 3 = some false := by kernel_rfl
theorem fo88_1_u3c : fieldOff Tryd.prog 88 1 = some 1 := by kernel_rfl
theorem ag22_u3c : aggT Tryd.prog 22 = some false := by kernel_rfl
theorem fo88_2_u3c : fieldOff Tryd.prog 88 2 = some 2 := by kernel_rfl
theorem ag4_u3c : aggT Tryd.prog 4 = some false := by kernel_rfl
theorem fo88_3_u3c : fieldOff Tryd.prog 88 3 = some 3 := by kernel_rfl
theorem ag9_u3c : aggT Tryd.prog 9 = some false := by kernel_rfl
theorem pt94_u3c : placesT Tryd.prog 94 7 = some [(0, 1), (1, 1), (2, 1), (3, 1), (4, 1), (5, 1), (6, 1)] := by kernel_rfl
theorem sz94_u3c : sizeT Tryd.prog 94 = some 7 := by kernel_rfl
theorem fo88_4_u3c : fieldOff Tryd.prog 88 4 = some 4 := by kernel_rfl
theorem ag85_u3c : aggT Tryd.prog 85 = some false := by kernel_rfl
theorem fo94_4_u3c : fieldOff Tryd.prog 94 4 = some 4 := by kernel_rfl
theorem ag91_u3c : aggT Tryd.prog 91 = some false := by kernel_rfl
theorem sz174_u3c : sizeT Tryd.prog 174 = some 2 := by kernel_rfl
theorem ag174_u3c : aggT Tryd.prog 174 = some true := by kernel_rfl
theorem sz109_u3c : sizeT Tryd.prog 109 = some 2 := by kernel_rfl
theorem zt109_u3c : zeroT Tryd.prog 109 = some [.string ⟨#[]⟩, .string ⟨#[]⟩] := by kernel_rfl
theorem el109_u3c : elT Tryd.prog 109 = some (2, 32) := by kernel_rfl
theorem sz91_u3c : sizeT Tryd.prog 91 = some 1 := by kernel_rfl
theorem mixed_u3c : Tryd.prog.follows .mixedOrders = true := by kernel_rfl
theorem fo88_5_u3c : fieldOff Tryd.prog 88 5 = some 5 := by kernel_rfl
theorem ag86_u3c : aggT Tryd.prog 86 = some false := by kernel_rfl
theorem fo94_5_u3c : fieldOff Tryd.prog 94 5 = some 5 := by kernel_rfl
theorem ag92_u3c : aggT Tryd.prog 92 = some false := by kernel_rfl
theorem sz112_u3c : sizeT Tryd.prog 112 = some 2 := by kernel_rfl
theorem ag112_u3c : aggT Tryd.prog 112 = some true := by kernel_rfl
theorem sz116_u3c : sizeT Tryd.prog 116 = some 2 := by kernel_rfl
theorem zt116_u3c : zeroT Tryd.prog 116 = some [.int .i64 0, .int .u64 0] := by kernel_rfl
theorem el116_u3c : elT Tryd.prog 116 = some (2, 16) := by kernel_rfl
theorem sz92_u3c : sizeT Tryd.prog 92 = some 1 := by kernel_rfl
theorem fo88_6_u3c : fieldOff Tryd.prog 88 6 = some 6 := by kernel_rfl
theorem ag54_u3c : aggT Tryd.prog 54 = some false := by kernel_rfl
theorem fo94_6_u3c : fieldOff Tryd.prog 94 6 = some 6 := by kernel_rfl
theorem ag55_u3c : aggT Tryd.prog 55 = some false := by kernel_rfl
theorem sz60_u3c : sizeT Tryd.prog 60 = some 5 := by kernel_rfl
theorem ag60_u3c : aggT Tryd.prog 60 = some true := by kernel_rfl
theorem sz63_u3c : sizeT Tryd.prog 63 = some 5 := by kernel_rfl
theorem zt63_u3c : zeroT Tryd.prog 63 = some [.int .u64 0, .int .u64 0, .int .u8 0, .int .u16 0, .string ⟨#[]⟩] := by kernel_rfl
theorem el63_u3c : elT Tryd.prog 63 = some (5, 40) := by kernel_rfl
theorem sz55_u3c : sizeT Tryd.prog 55 = some 1 := by kernel_rfl
theorem ag94_u3c : aggT Tryd.prog 94 = some true := by kernel_rfl
theorem fo174_0_u3c : fieldOff Tryd.prog 174 0 = some 0 := by kernel_rfl
theorem fo174_1_u3c : fieldOff Tryd.prog 174 1 = some 1 := by kernel_rfl
theorem fo60_4_u3c : fieldOff Tryd.prog 60 4 = some 4 := by kernel_rfl
theorem ag58_u3c : aggT Tryd.prog 58 = some false := by kernel_rfl
theorem ag5_u3c : aggT Tryd.prog 5 = some false := by kernel_rfl
theorem ag88_u3c : aggT Tryd.prog 88 = some true := by kernel_rfl
theorem sz88_u3c : sizeT Tryd.prog 88 = some 7 := by kernel_rfl
theorem ht52_u3c : hasText Tryd.prog 52 = true := by kernel_rfl
theorem fo94_0_u3c : fieldOff Tryd.prog 94 0 = some 0 := by kernel_rfl
theorem fo94_1_u3c : fieldOff Tryd.prog 94 1 = some 1 := by kernel_rfl
theorem fo94_2_u3c : fieldOff Tryd.prog 94 2 = some 2 := by kernel_rfl
theorem fo94_3_u3c : fieldOff Tryd.prog 94 3 = some 3 := by kernel_rfl
theorem ag109_u3c : aggT Tryd.prog 109 = some true := by kernel_rfl
theorem ag116_u3c : aggT Tryd.prog 116 = some true := by kernel_rfl
theorem ag63_u3c : aggT Tryd.prog 63 = some true := by kernel_rfl
theorem ht108_u3c : hasText Tryd.prog 108 = true := by kernel_rfl
theorem ht109_u3c : hasText Tryd.prog 109 = true := by kernel_rfl
theorem ht110_u3c : hasText Tryd.prog 110 = true := by kernel_rfl

def F_rgive_b0 (p0 : Rpl) (t_2 : Int × (List Ent)) : Option ((Int × (List Ent)) ⊕ (((List Ent)))) :=
  ifb (decide (t_2.1 < (p0.Rows.length : Int))) (ixb p0.Rows t_2.1 fun x_4 => grd (Fits 32 (t_2.2.length + ([x_4] : (List Ent)).length)) <| some (.inl (IntKind.i64.wrap (t_2.1 + 1), (t_2.2 ++ ([x_4] : (List Ent)))))) (some (.inr t_2.2))
def F_rgive_b1 (p0 : Rpl) (t_6 : Int × (List Rf)) : Option ((Int × (List Rf)) ⊕ (((List Rf)))) :=
  ifb (decide (t_6.1 < (p0.Refs.length : Int))) (ixb p0.Refs t_6.1 fun x_8 => grd (Fits 16 (t_6.2.length + ([x_8] : (List Rf)).length)) <| some (.inl (IntKind.i64.wrap (t_6.1 + 1), (t_6.2 ++ ([x_8] : (List Rf)))))) (some (.inr t_6.2))
def F_rgive_b2 (p0 : Rpl) (t_10 : Int × (List Lin)) : Option ((Int × (List Lin)) ⊕ (((List Lin)))) :=
  ifb (decide (t_10.1 < (p0.Lines.length : Int))) (ixb p0.Lines t_10.1 fun x_12 => grd (Fits 40 (t_10.2.length + ([x_12] : (List Lin)).length)) <| some (.inl (IntKind.i64.wrap (t_10.1 + 1), (t_10.2 ++ ([x_12] : (List Lin)))))) (some (.inr t_10.2))
def F_rgive (fl : Nat) (p0 : Rpl) : Option (Rpl) :=
  bnd (lp (F_rgive_b0 p0) fl (0, ([] : (List Ent)))) fun z_1 => bnd (lp (F_rgive_b1 p0) fl (0, ([] : (List Rf)))) fun z_5 => bnd (lp (F_rgive_b2 p0) fl (0, ([] : (List Lin)))) fun z_9 => some (⟨p0.Code, p0.N, p0.Found, p0.Value, z_1, z_5, z_9⟩ : Rpl)
set_option maxRecDepth 100000 in
set_option maxHeartbeats 2000000 in
theorem c_rgive {fl : Nat} {p0 : Rpl} {R : Rpl} (h0 : F_rgive fl p0 = some R) : Pure Tryd.prog 52 [agg [pl (.int .i64 p0.Code), pl (.int .u64 p0.N), pl (.bool p0.Found), pl (.string p0.Value), sl kEnt none none p0.Rows, sl kRf none none p0.Refs, sl kLin none none p0.Lines]] (agg [pl (.int .i64 R.Code), pl (.int .u64 R.N), pl (.bool R.Found), pl (.string R.Value), sl kEnt none none R.Rows, sl kRf none none R.Refs, sl kLin none none R.Lines]) := by
  intro s
  unfold F_rgive at h0
  refine ac_of_aw s.boxes.length s.fr.length Tryd.func52 rfl (by simp [Tryd.ntmps52]) ?_
  refine aw_ext0 ?_
  refine aw_keep [(0, _)] ⟨lg ez, trivial⟩ ?_
  refine aw_seq ?_
  refine aw_region (by decide) ?_
  refine rts _ rfl (boxAN rfl oz (zbc zPb (zbc zPb (zbc zPb (zbc zPb (zbc (sl_b kb_Ent) (zbc (sl_b kb_Rf) (zbc (sl_b kb_Lin) bnd_nil))))))) (by first | exact List.length_nil | (simp only [List.length_cons, List.length_nil, Nat.zero_add, Nat.reduceAdd] <;> rfl)) (by simp only [znz] <;> rfl)) ?_
  refine rts _ rfl (allocN rfl zt94_u3c (by first | exact List.length_nil | (simp only [List.length_cons, List.length_nil, Nat.zero_add, Nat.reduceAdd] <;> rfl)) (by simp only [znz] <;> rfl)) ?_
  refine .nil ?_
  refine aw_keep [(1, _), (2, _)] ⟨lg (ls rfl lz), lg lz, trivial⟩ ?_
  refine aw_seq ?_
  refine aw_region (by decide) ?_
  refine rts _ rfl (opD_fieldAddr fo88_0_u3c oz) ?_
  refine rts _ rfl (opD_load_one ag3_u3c lz (loc_getN rfl rfl) rfl) ?_
  refine rts _ rfl (opD_fieldAddr fo88_1_u3c (ls rfl (ls rfl oz))) ?_
  refine rts _ rfl (opD_load_one ag22_u3c lz (loc_getN rfl rfl) rfl) ?_
  refine rts _ rfl (opD_fieldAddr fo88_2_u3c (ls rfl (ls rfl (ls rfl (ls rfl oz))))) ?_
  refine rts _ rfl (opD_load_one ag4_u3c lz (loc_getN rfl rfl) rfl) ?_
  refine rts _ rfl (opD_fieldAddr fo88_3_u3c (ls rfl (ls rfl (ls rfl (ls rfl (ls rfl (ls rfl oz))))))) ?_
  refine rts _ rfl (opD_load_one ag9_u3c lz (loc_getN rfl rfl) rfl) ?_
  refine rts _ rfl (opD_build_struct (rs := [_, _, _, _, _, _, _]) Tryd.underlying94 pt94_u3c zt94_u3c (parts_cons (cells1 (ls rfl (ls rfl (ls rfl (ls rfl (ls rfl (ls rfl lz)))))) (one_pl rfl)) (parts_cons (cells1 (ls rfl (ls rfl (ls rfl (ls rfl lz)))) (one_pl rfl)) (parts_cons (cells1 (ls rfl (ls rfl lz)) (one_pl rfl)) (parts_cons (cells1 lz (one_pl rfl)) parts_nil)))) (fill_step rfl (by rfl) (by rfl) (by simp only [na, nb, nl, nc, nd, nh, ni, nj, nk, nm, Nat.reduceAdd] <;> rfl) (fill_step rfl (by rfl) (by rfl) (by simp only [na, nb, nl, nc, nd, nh, ni, nj, nk, nm, Nat.reduceAdd] <;> rfl) (fill_step rfl (by rfl) (by rfl) (by simp only [na, nb, nl, nc, nd, nh, ni, nj, nk, nm, Nat.reduceAdd] <;> rfl) (fill_step rfl (by rfl) (by rfl) (by simp only [na, nb, nl, nc, nd, nh, ni, nj, nk, nm, Nat.reduceAdd] <;> rfl) fill_nil))))) ?_
  refine rts _ rfl (allocN rfl zt94_u3c (by first | exact List.length_nil | (simp only [List.length_cons, List.length_nil, Nat.zero_add, Nat.reduceAdd] <;> rfl)) (by simp only [znz] <;> rfl)) ?_
  refine rts _ rfl (storeAN rfl sz94_u3c lz (ls rfl lz) (ones_cons (one_pl rfl) (ones_cons (one_pl rfl) (ones_cons (one_pl rfl) (ones_cons (one_pl rfl) (ones_cons (one_pl rfl) (ones_cons (one_pl rfl) (ones_cons (one_pl rfl) ones_nil))))))) rfl rfl (zNb rfl) (List.cons_ne_nil _ _) (zbc zPb (zbc zPb (zbc zPb (zbc zPb (zbc zPb (zbc zPb (zbc zPb bnd_nil))))))) (by simp only [znz] <;> rfl) (by simp only [znz] <;> rfl)) ?_
  refine .nil ?_
  refine aw_keep [(1, _), (2, _), (3, _)] ⟨lg (lx (ls rfl (ls rfl (ls rfl (ls rfl (ls rfl (ls rfl (ls rfl (ls rfl (ls rfl (ls rfl oz))))))))))), lg (lx (ls rfl (ls rfl (ls rfl (ls rfl (ls rfl (ls rfl (ls rfl (ls rfl (ls rfl (ls rfl (os rfl oz)))))))))))), lg (lx lz), trivial⟩ ?_
  refine aw_seq ?_
  refine aw_seq ?_
  refine aw_region (by decide) ?_
  refine rts _ rfl (opD_assign (ev_const _ _)) ?_
  refine .nil ?_
  refine aw_keep [(1, _), (2, _), (3, _), (4, _)] ⟨lg (ls rfl oz), lg (ls rfl (os rfl oz)), lg (ls rfl (os rfl (os rfl oz))), lg lz, trivial⟩ ?_
  replace h0 := bnd_some h0
  obtain ⟨z_1, hz_1, h0⟩ := h0
  refine aw_mid (fun e st => ∃ v : (List Ent), Holds e [(1, ptr (s.boxes.length + 0) 0), (2, ptr (s.boxes.length + 1) 0), (3, ptr (s.boxes.length + 2) 0)] ∧ st = s.ext [⟨88, [pl (.int .i64 p0.Code), pl (.int .u64 p0.N), pl (.bool p0.Found), pl (.string p0.Value), sl kEnt none none p0.Rows, sl kRf none none p0.Refs, sl kLin none none p0.Lines]⟩, ⟨94, [pl (.int .i64 0), pl (.int .u64 0), pl (.bool false), pl (.string ⟨#[]⟩), pl (.slice none 0 0), pl (.slice none 0 0), pl (.slice none 0 0)]⟩, ⟨94, [pl (.int .i64 p0.Code), pl (.int .u64 p0.N), pl (.bool p0.Found), pl (.string p0.Value), sl kEnt none none v, pl (.slice none 0 0), pl (.slice none 0 0)]⟩] [] ∧ v = z_1) ?_ ?_
  · skip
    refine aw_wkN rfl 3 0 rfl rfl ?_
    refine aw_block ?_
    refine aw_fr ⟨109, 2, 0⟩ ?_
    refine aw_wkBN rfl (bs' := [⟨88, [pl (.int .i64 p0.Code), pl (.int .u64 p0.N), pl (.bool p0.Found), pl (.string p0.Value), sl kEnt none none p0.Rows, sl kRf none none p0.Refs, sl kLin none none p0.Lines]⟩, ⟨94, [pl (.int .i64 0), pl (.int .u64 0), pl (.bool false), pl (.string ⟨#[]⟩), pl (.slice none 0 0), pl (.slice none 0 0), pl (.slice none 0 0)]⟩, ⟨94, [pl (.int .i64 p0.Code), pl (.int .u64 p0.N), pl (.bool p0.Found), pl (.string p0.Value), sl kEnt (some (s.fr.length + 0)) none [], pl (.slice none 0 0), pl (.slice none 0 0)]⟩]) (bxle_same (bxle_same (bxle_cons (B := ⟨94, [_, _, _, _, _, _, _]⟩) (@Eq.refl TypeId 94) (lel_cons zLr (lel_cons zLr (lel_cons zLr (lel_cons zLr (lel_cons (nil_own rfl) (lel_cons zLr (lel_cons zLr lel_nil))))))) bxle_nil))) (bl_cons (zbc zPb (zbc zPb (zbc zPb (zbc zPb (zbc (sl_b kb_Ent) (zbc (sl_b kb_Rf) (zbc (sl_b kb_Lin) bnd_nil))))))) (bl_cons (zbc zPb (zbc zPb (zbc zPb (zbc zPb (zbc zPb (zbc zPb (zbc zPb bnd_nil))))))) (bl_cons (zbc zPb (zbc zPb (zbc zPb (zbc zPb (zbc (sl_ob kb_Ent (by first | omega | (simp only [List.length_append, List.length_cons, List.length_nil, ext_fr_length, upd_fr_length]; omega))) (zbc zPb (zbc zPb bnd_nil))))))) bl_nil))) ?_
    refine aw_loop (fun n e st => ∃ v : Int × (List Ent), Holds e [(1, ptr (s.boxes.length + 0) 0), (2, ptr (s.boxes.length + 1) 0), (3, ptr (s.boxes.length + 2) 0), (4, pl (.int .i64 v.1))] ∧ st = s.ext [⟨88, [pl (.int .i64 p0.Code), pl (.int .u64 p0.N), pl (.bool p0.Found), pl (.string p0.Value), sl kEnt none none p0.Rows, sl kRf none none p0.Refs, sl kLin none none p0.Lines]⟩, ⟨94, [pl (.int .i64 0), pl (.int .u64 0), pl (.bool false), pl (.string ⟨#[]⟩), pl (.slice none 0 0), pl (.slice none 0 0), pl (.slice none 0 0)]⟩, ⟨94, [pl (.int .i64 p0.Code), pl (.int .u64 p0.N), pl (.bool p0.Found), pl (.string p0.Value), sl kEnt (some (s.fr.length + 0)) none v.2, pl (.slice none 0 0), pl (.slice none 0 0)]⟩] [⟨109, 2, v.2.length⟩] ∧ lp (F_rgive_b0 p0) n v = some z_1) fl ⟨(0, ([] : (List Ent))), ⟨le_of_eq (eg oz), le_of_eq (eg (os rfl oz)), le_of_eq (eg (os rfl (os rfl oz))), le_of_eq (eg (os rfl (os rfl (os rfl oz)))), trivial⟩, rfl, hz_1⟩ ?_
    rintro n e st ⟨t_2, hH, rfl, hz_1⟩
    replace hz_1 := lp_some hz_1
    obtain ⟨m_z_3, z_3, rfl, hz_3, hz_1⟩ := hz_1
    unfold F_rgive_b0 at hz_3
    refine aw_keep _ hH ?_
    refine aw_wkN rfl 3 1 rfl rfl ?_
    refine aw_seq ?_
    refine aw_seq ?_
    refine aw_region (by decide) ?_
    refine rts _ rfl (opD_move (os rfl (os rfl (os rfl oz)))) ?_
    refine rts _ rfl (opD_fieldAddr fo88_4_u3c (ls rfl oz)) ?_
    refine rts _ rfl (opD_load_one ag85_u3c lz (loc_getN rfl rfl) rfl) ?_
    refine rts _ rfl (opD_len_sl Tryd.underlying85 lz) ?_
    refine rts _ rfl (opD_lss (ls rfl (ls rfl (ls rfl lz))) lz) ?_
    refine .nil ?_
    refine aw_keep [(1, _), (2, _), (3, _), (4, _), (20, _)] ⟨lg (ls rfl (ls rfl (ls rfl (ls rfl (ls rfl oz))))), lg (ls rfl (ls rfl (ls rfl (ls rfl (ls rfl (os rfl oz)))))), lg (ls rfl (ls rfl (ls rfl (ls rfl (ls rfl (os rfl (os rfl oz))))))), lg (ls rfl (ls rfl (ls rfl (ls rfl (ls rfl (os rfl (os rfl (os rfl oz)))))))), lg lz, trivial⟩ ?_
    refine aw_cond _ (os rfl (os rfl (os rfl (os rfl oz)))) (fun hc => ?_) (fun hc => ?_)
    · skip
      replace hz_3 := ifb_t hz_3 hc
      clear hc
      refine aw_skip ?_
      refine aw_keep [(1, _), (2, _), (3, _), (4, _)] ⟨lg oz, lg (os rfl oz), lg (os rfl (os rfl oz)), lg (os rfl (os rfl (os rfl oz))), trivial⟩ ?_
      refine aw_seq ?_
      refine aw_block ?_
      refine aw_drawn [false, false, false, false, false, false, false, false, true, false, true] [[0], [0], [0], [0], [0], [0], [0], [0], [0, 1], [1], [1, 2]] mixed_u3c (by decide +kernel) ?_
      refine dtp _ rfl (fun s => opD_fieldAddr fo94_4_u3c (os rfl (os rfl oz))) ?_
      refine dtlG1 ag91_u3c lz (loc_getN rfl rfl) rfl rfl ?_
      refine dtp _ rfl (fun s => opD_fieldAddr fo88_4_u3c (ls rfl (ls rfl oz))) ?_
      refine dtlG1 ag85_u3c lz (loc_getN rfl rfl) rfl rfl ?_
      refine dtp _ rfl (fun s => opD_move (ls rfl (ls rfl (ls rfl (ls rfl (os rfl (os rfl (os rfl oz)))))))) ?_
      replace hz_3 := ixb_some hz_3
      obtain ⟨x_4, hx_4, hbx_4, hz_3⟩ := hz_3
      refine dtp _ rfl (fun s => opD_indexAddr_sl (i := t_2.1.toNat) Tryd.underlying85 sz174_u3c (ls rfl lz) lz hbx_4.2.2 hbx_4.2.1) ?_
      refine dtp _ rfl (fun s => opD_load_el_aggX (qs := [_, _]) ag174_u3c sz174_u3c lz hx_4 (zNb rfl) rfl) ?_
      refine dtp _ rfl (fun s => opD_buildSlice (k := kEnt) ([x_4] : (List Ent)) Tryd.underlying91 sz109_u3c zt109_u3c (by decide) rfl (parts_cons (cellsA lz) parts_nil) rfl rfl) ?_
      replace hz_3 := grd_some hz_3
      obtain ⟨hg_12, hz_3⟩ := hz_3
      refine dta _ rfl (opD_appendX Tryd.underlying91 el109_u3c (ls rfl (ls rfl (ls rfl (ls rfl (ls rfl (ls rfl lz)))))) lz rfl hg_12.1 hg_12.2 rfl (by simp only [znz] <;> rfl)) ?_
      refine dtp _ rfl (fun s => opD_fieldAddr fo94_4_u3c (ls rfl (ls rfl (ls rfl (ls rfl (ls rfl (ls rfl (ls rfl (ls rfl (ls rfl (os rfl (os rfl oz)))))))))))) ?_
      refine dta _ rfl (storeON rfl sz91_u3c lz (le_of_eq (ls rfl lz)) (one_sl _ _ _ _) rfl (zNb rfl) (sl_ob kb_Ent (by first | omega | (simp only [List.length_append, List.length_cons, List.length_nil, ext_fr_length, upd_fr_length]; omega))) (by simp only [znz] <;> rfl) (by simp only [znz] <;> rfl)) ?_
      refine .nil ?_
      dsimp only [List.nil_append, List.cons_append]
      refine ⟨rfl, ⟨trivial, ⟨(by first | exact loc_getN rfl rfl | exact updx_get hlt | exact upd2_g hgh hlt | exact upd2_h hlt2), trivial⟩, trivial, ⟨(by first | exact loc_getN rfl rfl | exact updx_get hlt | exact upd2_g hgh hlt | exact upd2_h hlt2), trivial⟩, trivial, trivial, trivial, trivial, trivial, trivial, trivial, trivial⟩, ?_⟩
      refine aw_keep [(1, _), (2, _), (3, _), (4, _)] ⟨lg (lx (ls rfl (ls rfl (ls rfl (ls rfl (ls rfl (ls rfl (ls rfl (ls rfl (ls rfl (ls rfl oz))))))))))), lg (lx (ls rfl (ls rfl (ls rfl (ls rfl (ls rfl (ls rfl (ls rfl (ls rfl (ls rfl (ls rfl (os rfl oz)))))))))))), lg (lx (ls rfl (ls rfl (ls rfl (ls rfl (ls rfl (ls rfl (ls rfl (ls rfl (ls rfl (ls rfl (os rfl (os rfl oz))))))))))))), lg (lx (ls rfl (ls rfl (ls rfl (ls rfl (ls rfl (ls rfl (ls rfl (ls rfl (ls rfl (ls rfl (os rfl (os rfl (os rfl oz)))))))))))))), trivial⟩ ?_
      refine aw_region (by decide) ?_
      refine rts _ rfl (opD_move (os rfl (os rfl (os rfl oz)))) ?_
      refine rts _ rfl (opD_add lz (ev_const _ _) rfl) ?_
      refine rts _ rfl (opD_assign lz) ?_
      refine .nil ?_
      obtain rfl := some_of hz_3
      replace hz_1 := ocs_l hz_1
      refine wk_yesN rfl (l := [(1, ptr (s.boxes.length + 0) 0), (2, ptr (s.boxes.length + 1) 0), (3, ptr (s.boxes.length + 2) 0), (4, pl (.int .i64 (IntKind.i64.wrap (t_2.1 + 1))))]) (bs' := [⟨88, [pl (.int .i64 p0.Code), pl (.int .u64 p0.N), pl (.bool p0.Found), pl (.string p0.Value), sl kEnt none none p0.Rows, sl kRf none none p0.Refs, sl kLin none none p0.Lines]⟩, ⟨94, [pl (.int .i64 0), pl (.int .u64 0), pl (.bool false), pl (.string ⟨#[]⟩), pl (.slice none 0 0), pl (.slice none 0 0), pl (.slice none 0 0)]⟩, ⟨94, [pl (.int .i64 p0.Code), pl (.int .u64 p0.N), pl (.bool p0.Found), pl (.string p0.Value), sl kEnt (some (s.fr.length + 0)) none (t_2.2 ++ ([x_4] : (List Ent))), pl (.slice none 0 0), pl (.slice none 0 0)]⟩]) ⟨le_of_eq (eg (ls rfl (ls rfl (ls rfl oz)))), le_of_eq (eg (ls rfl (ls rfl (ls rfl (os rfl oz))))), le_of_eq (eg (ls rfl (ls rfl (ls rfl (os rfl (os rfl oz)))))), le_of_eq (eg lz), trivial⟩ (zbc (ptr_bnd _ (by first | omega | (simp only [List.length_append, List.length_cons, List.length_nil]; omega))) (zbc (ptr_bnd _ (by first | omega | (simp only [List.length_append, List.length_cons, List.length_nil]; omega))) (zbc (ptr_bnd _ (by first | omega | (simp only [List.length_append, List.length_cons, List.length_nil]; omega))) (zbc zPb bnd_nil)))) (zNb rfl) (by simp only [znz] <;> rfl) (bxle_same (bxle_same (bxle_same bxle_nil))) rfl (by simp only [znz] <;> rfl) (bl_cons (zbc zPb (zbc zPb (zbc zPb (zbc zPb (zbc (sl_b kb_Ent) (zbc (sl_b kb_Rf) (zbc (sl_b kb_Lin) bnd_nil))))))) (bl_cons (zbc zPb (zbc zPb (zbc zPb (zbc zPb (zbc zPb (zbc zPb (zbc zPb bnd_nil))))))) (bl_cons (zbc zPb (zbc zPb (zbc zPb (zbc zPb (zbc (sl_ob kb_Ent (by first | omega | (simp only [List.length_append, List.length_cons, List.length_nil, ext_fr_length, upd_fr_length]; omega))) (zbc zPb (zbc zPb bnd_nil))))))) bl_nil))) ?_
      exact ⟨m_z_3, Nat.lt_succ_self _, (IntKind.i64.wrap (t_2.1 + 1), (t_2.2 ++ ([x_4] : (List Ent)))), ⟨le_of_eq (eg oz), le_of_eq (eg (os rfl oz)), le_of_eq (eg (os rfl (os rfl oz))), le_of_eq (eg (os rfl (os rfl (os rfl oz)))), trivial⟩, rfl, hz_1⟩
    · skip
      replace hz_3 := ifb_f hz_3 hc
      clear hc
      refine aw_exit ?_
      obtain rfl := some_of hz_3
      replace hz_1 := ocs_r hz_1
      refine wk_no ?_
      refine wk_yesN rfl (l := [(1, ptr (s.boxes.length + 0) 0), (2, ptr (s.boxes.length + 1) 0), (3, ptr (s.boxes.length + 2) 0)]) (bs' := [⟨88, [pl (.int .i64 p0.Code), pl (.int .u64 p0.N), pl (.bool p0.Found), pl (.string p0.Value), sl kEnt none none p0.Rows, sl kRf none none p0.Refs, sl kLin none none p0.Lines]⟩, ⟨94, [pl (.int .i64 0), pl (.int .u64 0), pl (.bool false), pl (.string ⟨#[]⟩), pl (.slice none 0 0), pl (.slice none 0 0), pl (.slice none 0 0)]⟩, ⟨94, [pl (.int .i64 p0.Code), pl (.int .u64 p0.N), pl (.bool p0.Found), pl (.string p0.Value), sl kEnt none none t_2.2, pl (.slice none 0 0), pl (.slice none 0 0)]⟩]) ⟨le_of_eq (eg oz), le_of_eq (eg (os rfl oz)), le_of_eq (eg (os rfl (os rfl oz))), trivial⟩ (zbc (ptr_bnd _ (by first | omega | (simp only [List.length_append, List.length_cons, List.length_nil]; omega))) (zbc (ptr_bnd _ (by first | omega | (simp only [List.length_append, List.length_cons, List.length_nil]; omega))) (zbc (ptr_bnd _ (by first | omega | (simp only [List.length_append, List.length_cons, List.length_nil]; omega))) bnd_nil))) (zNb rfl) (by simp only [znz] <;> rfl) (bxle_same (bxle_same (bxle_cons (B := ⟨94, [_, _, _, _, _, _, _]⟩) (@Eq.refl TypeId 94) (lel_cons zLr (lel_cons zLr (lel_cons zLr (lel_cons zLr (lel_cons (sl_le _ (some (s.fr.length + 0)) none _) (lel_cons zLr (lel_cons zLr lel_nil))))))) bxle_nil))) rfl (by simp only [znz] <;> rfl) (bl_cons (zbc zPb (zbc zPb (zbc zPb (zbc zPb (zbc (sl_b kb_Ent) (zbc (sl_b kb_Rf) (zbc (sl_b kb_Lin) bnd_nil))))))) (bl_cons (zbc zPb (zbc zPb (zbc zPb (zbc zPb (zbc zPb (zbc zPb (zbc zPb bnd_nil))))))) (bl_cons (zbc zPb (zbc zPb (zbc zPb (zbc zPb (zbc (sl_b kb_Ent) (zbc zPb (zbc zPb bnd_nil))))))) bl_nil))) ?_
      exact ⟨t_2.2, ⟨le_of_eq (eg oz), le_of_eq (eg (os rfl oz)), le_of_eq (eg (os rfl (os rfl oz))), trivial⟩, rfl, some_of hz_1⟩
  · rintro e st ⟨vz_1, hH, rfl, rfl⟩
    refine aw_keep _ hH ?_
    refine aw_keep [(1, _), (2, _), (3, _)] ⟨lg oz, lg (os rfl oz), lg (os rfl (os rfl oz)), trivial⟩ ?_
    refine aw_seq ?_
    refine aw_seq ?_
    refine aw_region (by decide) ?_
    refine rts _ rfl (opD_assign (ev_const _ _)) ?_
    refine .nil ?_
    refine aw_keep [(1, _), (2, _), (3, _), (5, _)] ⟨lg (ls rfl oz), lg (ls rfl (os rfl oz)), lg (ls rfl (os rfl (os rfl oz))), lg lz, trivial⟩ ?_
    replace h0 := bnd_some h0
    obtain ⟨z_5, hz_5, h0⟩ := h0
    refine aw_mid (fun e st => ∃ v : (List Rf), Holds e [(1, ptr (s.boxes.length + 0) 0), (2, ptr (s.boxes.length + 1) 0), (3, ptr (s.boxes.length + 2) 0)] ∧ st = s.ext [⟨88, [pl (.int .i64 p0.Code), pl (.int .u64 p0.N), pl (.bool p0.Found), pl (.string p0.Value), sl kEnt none none p0.Rows, sl kRf none none p0.Refs, sl kLin none none p0.Lines]⟩, ⟨94, [pl (.int .i64 0), pl (.int .u64 0), pl (.bool false), pl (.string ⟨#[]⟩), pl (.slice none 0 0), pl (.slice none 0 0), pl (.slice none 0 0)]⟩, ⟨94, [pl (.int .i64 p0.Code), pl (.int .u64 p0.N), pl (.bool p0.Found), pl (.string p0.Value), sl kEnt none none vz_1, sl kRf none none v, pl (.slice none 0 0)]⟩] [] ∧ v = z_5) ?_ ?_
    · skip
      refine aw_wkN rfl 3 0 rfl rfl ?_
      refine aw_block ?_
      refine aw_fr ⟨116, 2, 0⟩ ?_
      refine aw_wkBN rfl (bs' := [⟨88, [pl (.int .i64 p0.Code), pl (.int .u64 p0.N), pl (.bool p0.Found), pl (.string p0.Value), sl kEnt none none p0.Rows, sl kRf none none p0.Refs, sl kLin none none p0.Lines]⟩, ⟨94, [pl (.int .i64 0), pl (.int .u64 0), pl (.bool false), pl (.string ⟨#[]⟩), pl (.slice none 0 0), pl (.slice none 0 0), pl (.slice none 0 0)]⟩, ⟨94, [pl (.int .i64 p0.Code), pl (.int .u64 p0.N), pl (.bool p0.Found), pl (.string p0.Value), sl kEnt none none vz_1, sl kRf (some (s.fr.length + 0)) none [], pl (.slice none 0 0)]⟩]) (bxle_same (bxle_same (bxle_cons (B := ⟨94, [_, _, _, _, _, _, _]⟩) (@Eq.refl TypeId 94) (lel_cons zLr (lel_cons zLr (lel_cons zLr (lel_cons zLr (lel_cons zLr (lel_cons (nil_own rfl) (lel_cons zLr lel_nil))))))) bxle_nil))) (bl_cons (zbc zPb (zbc zPb (zbc zPb (zbc zPb (zbc (sl_b kb_Ent) (zbc (sl_b kb_Rf) (zbc (sl_b kb_Lin) bnd_nil))))))) (bl_cons (zbc zPb (zbc zPb (zbc zPb (zbc zPb (zbc zPb (zbc zPb (zbc zPb bnd_nil))))))) (bl_cons (zbc zPb (zbc zPb (zbc zPb (zbc zPb (zbc (sl_b kb_Ent) (zbc (sl_ob kb_Rf (by first | omega | (simp only [List.length_append, List.length_cons, List.length_nil, ext_fr_length, upd_fr_length]; omega))) (zbc zPb bnd_nil))))))) bl_nil))) ?_
      refine aw_loop (fun n e st => ∃ v : Int × (List Rf), Holds e [(1, ptr (s.boxes.length + 0) 0), (2, ptr (s.boxes.length + 1) 0), (3, ptr (s.boxes.length + 2) 0), (5, pl (.int .i64 v.1))] ∧ st = s.ext [⟨88, [pl (.int .i64 p0.Code), pl (.int .u64 p0.N), pl (.bool p0.Found), pl (.string p0.Value), sl kEnt none none p0.Rows, sl kRf none none p0.Refs, sl kLin none none p0.Lines]⟩, ⟨94, [pl (.int .i64 0), pl (.int .u64 0), pl (.bool false), pl (.string ⟨#[]⟩), pl (.slice none 0 0), pl (.slice none 0 0), pl (.slice none 0 0)]⟩, ⟨94, [pl (.int .i64 p0.Code), pl (.int .u64 p0.N), pl (.bool p0.Found), pl (.string p0.Value), sl kEnt none none vz_1, sl kRf (some (s.fr.length + 0)) none v.2, pl (.slice none 0 0)]⟩] [⟨116, 2, v.2.length⟩] ∧ lp (F_rgive_b1 p0) n v = some z_5) fl ⟨(0, ([] : (List Rf))), ⟨le_of_eq (eg oz), le_of_eq (eg (os rfl oz)), le_of_eq (eg (os rfl (os rfl oz))), le_of_eq (eg (os rfl (os rfl (os rfl oz)))), trivial⟩, rfl, hz_5⟩ ?_
      rintro n e st ⟨t_6, hH, rfl, hz_5⟩
      replace hz_5 := lp_some hz_5
      obtain ⟨m_z_7, z_7, rfl, hz_7, hz_5⟩ := hz_5
      unfold F_rgive_b1 at hz_7
      refine aw_keep _ hH ?_
      refine aw_wkN rfl 3 1 rfl rfl ?_
      refine aw_seq ?_
      refine aw_seq ?_
      refine aw_region (by decide) ?_
      refine rts _ rfl (opD_move (os rfl (os rfl (os rfl oz)))) ?_
      refine rts _ rfl (opD_fieldAddr fo88_5_u3c (ls rfl oz)) ?_
      refine rts _ rfl (opD_load_one ag86_u3c lz (loc_getN rfl rfl) rfl) ?_
      refine rts _ rfl (opD_len_sl Tryd.underlying86 lz) ?_
      refine rts _ rfl (opD_lss (ls rfl (ls rfl (ls rfl lz))) lz) ?_
      refine .nil ?_
      refine aw_keep [(1, _), (2, _), (3, _), (5, _), (37, _)] ⟨lg (ls rfl (ls rfl (ls rfl (ls rfl (ls rfl oz))))), lg (ls rfl (ls rfl (ls rfl (ls rfl (ls rfl (os rfl oz)))))), lg (ls rfl (ls rfl (ls rfl (ls rfl (ls rfl (os rfl (os rfl oz))))))), lg (ls rfl (ls rfl (ls rfl (ls rfl (ls rfl (os rfl (os rfl (os rfl oz)))))))), lg lz, trivial⟩ ?_
      refine aw_cond _ (os rfl (os rfl (os rfl (os rfl oz)))) (fun hc => ?_) (fun hc => ?_)
      · skip
        replace hz_7 := ifb_t hz_7 hc
        clear hc
        refine aw_skip ?_
        refine aw_keep [(1, _), (2, _), (3, _), (5, _)] ⟨lg oz, lg (os rfl oz), lg (os rfl (os rfl oz)), lg (os rfl (os rfl (os rfl oz))), trivial⟩ ?_
        refine aw_seq ?_
        refine aw_block ?_
        refine aw_drawn [false, false, false, false, false, false, false, false, true, false, true] [[0], [0], [0], [0], [0], [0], [0], [0], [0, 1], [1], [1, 2]] mixed_u3c (by decide +kernel) ?_
        refine dtp _ rfl (fun s => opD_fieldAddr fo94_5_u3c (os rfl (os rfl oz))) ?_
        refine dtlG1 ag92_u3c lz (loc_getN rfl rfl) rfl rfl ?_
        refine dtp _ rfl (fun s => opD_fieldAddr fo88_5_u3c (ls rfl (ls rfl oz))) ?_
        refine dtlG1 ag86_u3c lz (loc_getN rfl rfl) rfl rfl ?_
        refine dtp _ rfl (fun s => opD_move (ls rfl (ls rfl (ls rfl (ls rfl (os rfl (os rfl (os rfl oz)))))))) ?_
        replace hz_7 := ixb_some hz_7
        obtain ⟨x_8, hx_8, hbx_8, hz_7⟩ := hz_7
        refine dtp _ rfl (fun s => opD_indexAddr_sl (i := t_6.1.toNat) Tryd.underlying86 sz112_u3c (ls rfl lz) lz hbx_8.2.2 hbx_8.2.1) ?_
        refine dtp _ rfl (fun s => opD_load_el_aggX (qs := [_, _]) ag112_u3c sz112_u3c lz hx_8 (zNb rfl) rfl) ?_
        refine dtp _ rfl (fun s => opD_buildSlice (k := kRf) ([x_8] : (List Rf)) Tryd.underlying92 sz116_u3c zt116_u3c (by decide) rfl (parts_cons (cellsA lz) parts_nil) rfl rfl) ?_
        replace hz_7 := grd_some hz_7
        obtain ⟨hg_24, hz_7⟩ := hz_7
        refine dta _ rfl (opD_appendX Tryd.underlying92 el116_u3c (ls rfl (ls rfl (ls rfl (ls rfl (ls rfl (ls rfl lz)))))) lz rfl hg_24.1 hg_24.2 rfl (by simp only [znz] <;> rfl)) ?_
        refine dtp _ rfl (fun s => opD_fieldAddr fo94_5_u3c (ls rfl (ls rfl (ls rfl (ls rfl (ls rfl (ls rfl (ls rfl (ls rfl (ls rfl (os rfl (os rfl oz)))))))))))) ?_
        refine dta _ rfl (storeON rfl sz92_u3c lz (le_of_eq (ls rfl lz)) (one_sl _ _ _ _) rfl (zNb rfl) (sl_ob kb_Rf (by first | omega | (simp only [List.length_append, List.length_cons, List.length_nil, ext_fr_length, upd_fr_length]; omega))) (by simp only [znz] <;> rfl) (by simp only [znz] <;> rfl)) ?_
        refine .nil ?_
        dsimp only [List.nil_append, List.cons_append]
        refine ⟨rfl, ⟨trivial, ⟨(by first | exact loc_getN rfl rfl | exact updx_get hlt | exact upd2_g hgh hlt | exact upd2_h hlt2), trivial⟩, trivial, ⟨(by first | exact loc_getN rfl rfl | exact updx_get hlt | exact upd2_g hgh hlt | exact upd2_h hlt2), trivial⟩, trivial, trivial, trivial, trivial, trivial, trivial, trivial, trivial⟩, ?_⟩
        refine aw_keep [(1, _), (2, _), (3, _), (5, _)] ⟨lg (lx (ls rfl (ls rfl (ls rfl (ls rfl (ls rfl (ls rfl (ls rfl (ls rfl (ls rfl (ls rfl oz))))))))))), lg (lx (ls rfl (ls rfl (ls rfl (ls rfl (ls rfl (ls rfl (ls rfl (ls rfl (ls rfl (ls rfl (os rfl oz)))))))))))), lg (lx (ls rfl (ls rfl (ls rfl (ls rfl (ls rfl (ls rfl (ls rfl (ls rfl (ls rfl (ls rfl (os rfl (os rfl oz))))))))))))), lg (lx (ls rfl (ls rfl (ls rfl (ls rfl (ls rfl (ls rfl (ls rfl (ls rfl (ls rfl (ls rfl (os rfl (os rfl (os rfl oz)))))))))))))), trivial⟩ ?_
        refine aw_region (by decide) ?_
        refine rts _ rfl (opD_move (os rfl (os rfl (os rfl oz)))) ?_
        refine rts _ rfl (opD_add lz (ev_const _ _) rfl) ?_
        refine rts _ rfl (opD_assign lz) ?_
        refine .nil ?_
        obtain rfl := some_of hz_7
        replace hz_5 := ocs_l hz_5
        refine wk_yesN rfl (l := [(1, ptr (s.boxes.length + 0) 0), (2, ptr (s.boxes.length + 1) 0), (3, ptr (s.boxes.length + 2) 0), (5, pl (.int .i64 (IntKind.i64.wrap (t_6.1 + 1))))]) (bs' := [⟨88, [pl (.int .i64 p0.Code), pl (.int .u64 p0.N), pl (.bool p0.Found), pl (.string p0.Value), sl kEnt none none p0.Rows, sl kRf none none p0.Refs, sl kLin none none p0.Lines]⟩, ⟨94, [pl (.int .i64 0), pl (.int .u64 0), pl (.bool false), pl (.string ⟨#[]⟩), pl (.slice none 0 0), pl (.slice none 0 0), pl (.slice none 0 0)]⟩, ⟨94, [pl (.int .i64 p0.Code), pl (.int .u64 p0.N), pl (.bool p0.Found), pl (.string p0.Value), sl kEnt none none vz_1, sl kRf (some (s.fr.length + 0)) none (t_6.2 ++ ([x_8] : (List Rf))), pl (.slice none 0 0)]⟩]) ⟨le_of_eq (eg (ls rfl (ls rfl (ls rfl oz)))), le_of_eq (eg (ls rfl (ls rfl (ls rfl (os rfl oz))))), le_of_eq (eg (ls rfl (ls rfl (ls rfl (os rfl (os rfl oz)))))), le_of_eq (eg lz), trivial⟩ (zbc (ptr_bnd _ (by first | omega | (simp only [List.length_append, List.length_cons, List.length_nil]; omega))) (zbc (ptr_bnd _ (by first | omega | (simp only [List.length_append, List.length_cons, List.length_nil]; omega))) (zbc (ptr_bnd _ (by first | omega | (simp only [List.length_append, List.length_cons, List.length_nil]; omega))) (zbc zPb bnd_nil)))) (zNb rfl) (by simp only [znz] <;> rfl) (bxle_same (bxle_same (bxle_same bxle_nil))) rfl (by simp only [znz] <;> rfl) (bl_cons (zbc zPb (zbc zPb (zbc zPb (zbc zPb (zbc (sl_b kb_Ent) (zbc (sl_b kb_Rf) (zbc (sl_b kb_Lin) bnd_nil))))))) (bl_cons (zbc zPb (zbc zPb (zbc zPb (zbc zPb (zbc zPb (zbc zPb (zbc zPb bnd_nil))))))) (bl_cons (zbc zPb (zbc zPb (zbc zPb (zbc zPb (zbc (sl_b kb_Ent) (zbc (sl_ob kb_Rf (by first | omega | (simp only [List.length_append, List.length_cons, List.length_nil, ext_fr_length, upd_fr_length]; omega))) (zbc zPb bnd_nil))))))) bl_nil))) ?_
        exact ⟨m_z_7, Nat.lt_succ_self _, (IntKind.i64.wrap (t_6.1 + 1), (t_6.2 ++ ([x_8] : (List Rf)))), ⟨le_of_eq (eg oz), le_of_eq (eg (os rfl oz)), le_of_eq (eg (os rfl (os rfl oz))), le_of_eq (eg (os rfl (os rfl (os rfl oz)))), trivial⟩, rfl, hz_5⟩
      · skip
        replace hz_7 := ifb_f hz_7 hc
        clear hc
        refine aw_exit ?_
        obtain rfl := some_of hz_7
        replace hz_5 := ocs_r hz_5
        refine wk_no ?_
        refine wk_yesN rfl (l := [(1, ptr (s.boxes.length + 0) 0), (2, ptr (s.boxes.length + 1) 0), (3, ptr (s.boxes.length + 2) 0)]) (bs' := [⟨88, [pl (.int .i64 p0.Code), pl (.int .u64 p0.N), pl (.bool p0.Found), pl (.string p0.Value), sl kEnt none none p0.Rows, sl kRf none none p0.Refs, sl kLin none none p0.Lines]⟩, ⟨94, [pl (.int .i64 0), pl (.int .u64 0), pl (.bool false), pl (.string ⟨#[]⟩), pl (.slice none 0 0), pl (.slice none 0 0), pl (.slice none 0 0)]⟩, ⟨94, [pl (.int .i64 p0.Code), pl (.int .u64 p0.N), pl (.bool p0.Found), pl (.string p0.Value), sl kEnt none none vz_1, sl kRf none none t_6.2, pl (.slice none 0 0)]⟩]) ⟨le_of_eq (eg oz), le_of_eq (eg (os rfl oz)), le_of_eq (eg (os rfl (os rfl oz))), trivial⟩ (zbc (ptr_bnd _ (by first | omega | (simp only [List.length_append, List.length_cons, List.length_nil]; omega))) (zbc (ptr_bnd _ (by first | omega | (simp only [List.length_append, List.length_cons, List.length_nil]; omega))) (zbc (ptr_bnd _ (by first | omega | (simp only [List.length_append, List.length_cons, List.length_nil]; omega))) bnd_nil))) (zNb rfl) (by simp only [znz] <;> rfl) (bxle_same (bxle_same (bxle_cons (B := ⟨94, [_, _, _, _, _, _, _]⟩) (@Eq.refl TypeId 94) (lel_cons zLr (lel_cons zLr (lel_cons zLr (lel_cons zLr (lel_cons zLr (lel_cons (sl_le _ (some (s.fr.length + 0)) none _) (lel_cons zLr lel_nil))))))) bxle_nil))) rfl (by simp only [znz] <;> rfl) (bl_cons (zbc zPb (zbc zPb (zbc zPb (zbc zPb (zbc (sl_b kb_Ent) (zbc (sl_b kb_Rf) (zbc (sl_b kb_Lin) bnd_nil))))))) (bl_cons (zbc zPb (zbc zPb (zbc zPb (zbc zPb (zbc zPb (zbc zPb (zbc zPb bnd_nil))))))) (bl_cons (zbc zPb (zbc zPb (zbc zPb (zbc zPb (zbc (sl_b kb_Ent) (zbc (sl_b kb_Rf) (zbc zPb bnd_nil))))))) bl_nil))) ?_
        exact ⟨t_6.2, ⟨le_of_eq (eg oz), le_of_eq (eg (os rfl oz)), le_of_eq (eg (os rfl (os rfl oz))), trivial⟩, rfl, some_of hz_5⟩
    · rintro e st ⟨vz_5, hH, rfl, rfl⟩
      refine aw_keep _ hH ?_
      refine aw_keep [(1, _), (2, _), (3, _)] ⟨lg oz, lg (os rfl oz), lg (os rfl (os rfl oz)), trivial⟩ ?_
      refine aw_seq ?_
      refine aw_seq ?_
      refine aw_region (by decide) ?_
      refine rts _ rfl (opD_assign (ev_const _ _)) ?_
      refine .nil ?_
      refine aw_keep [(1, _), (2, _), (3, _), (6, _)] ⟨lg (ls rfl oz), lg (ls rfl (os rfl oz)), lg (ls rfl (os rfl (os rfl oz))), lg lz, trivial⟩ ?_
      replace h0 := bnd_some h0
      obtain ⟨z_9, hz_9, h0⟩ := h0
      refine aw_mid (fun e st => ∃ v : (List Lin), Holds e [(2, ptr (s.boxes.length + 1) 0), (3, ptr (s.boxes.length + 2) 0)] ∧ st = s.ext [⟨88, [pl (.int .i64 p0.Code), pl (.int .u64 p0.N), pl (.bool p0.Found), pl (.string p0.Value), sl kEnt none none p0.Rows, sl kRf none none p0.Refs, sl kLin none none p0.Lines]⟩, ⟨94, [pl (.int .i64 0), pl (.int .u64 0), pl (.bool false), pl (.string ⟨#[]⟩), pl (.slice none 0 0), pl (.slice none 0 0), pl (.slice none 0 0)]⟩, ⟨94, [pl (.int .i64 p0.Code), pl (.int .u64 p0.N), pl (.bool p0.Found), pl (.string p0.Value), sl kEnt none none vz_1, sl kRf none none vz_5, sl kLin none none v]⟩] [] ∧ v = z_9) ?_ ?_
      · skip
        refine aw_wkN rfl 3 0 rfl rfl ?_
        refine aw_block ?_
        refine aw_fr ⟨63, 5, 0⟩ ?_
        refine aw_wkBN rfl (bs' := [⟨88, [pl (.int .i64 p0.Code), pl (.int .u64 p0.N), pl (.bool p0.Found), pl (.string p0.Value), sl kEnt none none p0.Rows, sl kRf none none p0.Refs, sl kLin none none p0.Lines]⟩, ⟨94, [pl (.int .i64 0), pl (.int .u64 0), pl (.bool false), pl (.string ⟨#[]⟩), pl (.slice none 0 0), pl (.slice none 0 0), pl (.slice none 0 0)]⟩, ⟨94, [pl (.int .i64 p0.Code), pl (.int .u64 p0.N), pl (.bool p0.Found), pl (.string p0.Value), sl kEnt none none vz_1, sl kRf none none vz_5, sl kLin (some (s.fr.length + 0)) none []]⟩]) (bxle_same (bxle_same (bxle_cons (B := ⟨94, [_, _, _, _, _, _, _]⟩) (@Eq.refl TypeId 94) (lel_cons zLr (lel_cons zLr (lel_cons zLr (lel_cons zLr (lel_cons zLr (lel_cons zLr (lel_cons (nil_own rfl) lel_nil))))))) bxle_nil))) (bl_cons (zbc zPb (zbc zPb (zbc zPb (zbc zPb (zbc (sl_b kb_Ent) (zbc (sl_b kb_Rf) (zbc (sl_b kb_Lin) bnd_nil))))))) (bl_cons (zbc zPb (zbc zPb (zbc zPb (zbc zPb (zbc zPb (zbc zPb (zbc zPb bnd_nil))))))) (bl_cons (zbc zPb (zbc zPb (zbc zPb (zbc zPb (zbc (sl_b kb_Ent) (zbc (sl_b kb_Rf) (zbc (sl_ob kb_Lin (by first | omega | (simp only [List.length_append, List.length_cons, List.length_nil, ext_fr_length, upd_fr_length]; omega))) bnd_nil))))))) bl_nil))) ?_
        refine aw_loop (fun n e st => ∃ v : Int × (List Lin), Holds e [(1, ptr (s.boxes.length + 0) 0), (2, ptr (s.boxes.length + 1) 0), (3, ptr (s.boxes.length + 2) 0), (6, pl (.int .i64 v.1))] ∧ st = s.ext [⟨88, [pl (.int .i64 p0.Code), pl (.int .u64 p0.N), pl (.bool p0.Found), pl (.string p0.Value), sl kEnt none none p0.Rows, sl kRf none none p0.Refs, sl kLin none none p0.Lines]⟩, ⟨94, [pl (.int .i64 0), pl (.int .u64 0), pl (.bool false), pl (.string ⟨#[]⟩), pl (.slice none 0 0), pl (.slice none 0 0), pl (.slice none 0 0)]⟩, ⟨94, [pl (.int .i64 p0.Code), pl (.int .u64 p0.N), pl (.bool p0.Found), pl (.string p0.Value), sl kEnt none none vz_1, sl kRf none none vz_5, sl kLin (some (s.fr.length + 0)) none v.2]⟩] [⟨63, 5, v.2.length⟩] ∧ lp (F_rgive_b2 p0) n v = some z_9) fl ⟨(0, ([] : (List Lin))), ⟨le_of_eq (eg oz), le_of_eq (eg (os rfl oz)), le_of_eq (eg (os rfl (os rfl oz))), le_of_eq (eg (os rfl (os rfl (os rfl oz)))), trivial⟩, rfl, hz_9⟩ ?_
        rintro n e st ⟨t_10, hH, rfl, hz_9⟩
        replace hz_9 := lp_some hz_9
        obtain ⟨m_z_11, z_11, rfl, hz_11, hz_9⟩ := hz_9
        unfold F_rgive_b2 at hz_11
        refine aw_keep _ hH ?_
        refine aw_wkN rfl 3 1 rfl rfl ?_
        refine aw_seq ?_
        refine aw_seq ?_
        refine aw_region (by decide) ?_
        refine rts _ rfl (opD_move (os rfl (os rfl (os rfl oz)))) ?_
        refine rts _ rfl (opD_fieldAddr fo88_6_u3c (ls rfl oz)) ?_
        refine rts _ rfl (opD_load_one ag54_u3c lz (loc_getN rfl rfl) rfl) ?_
        refine rts _ rfl (opD_len_sl Tryd.underlying54 lz) ?_
        refine rts _ rfl (opD_lss (ls rfl (ls rfl (ls rfl lz))) lz) ?_
        refine .nil ?_
        refine aw_keep [(1, _), (2, _), (3, _), (6, _), (54, _)] ⟨lg (ls rfl (ls rfl (ls rfl (ls rfl (ls rfl oz))))), lg (ls rfl (ls rfl (ls rfl (ls rfl (ls rfl (os rfl oz)))))), lg (ls rfl (ls rfl (ls rfl (ls rfl (ls rfl (os rfl (os rfl oz))))))), lg (ls rfl (ls rfl (ls rfl (ls rfl (ls rfl (os rfl (os rfl (os rfl oz)))))))), lg lz, trivial⟩ ?_
        refine aw_cond _ (os rfl (os rfl (os rfl (os rfl oz)))) (fun hc => ?_) (fun hc => ?_)
        · skip
          replace hz_11 := ifb_t hz_11 hc
          clear hc
          refine aw_skip ?_
          refine aw_keep [(1, _), (2, _), (3, _), (6, _)] ⟨lg oz, lg (os rfl oz), lg (os rfl (os rfl oz)), lg (os rfl (os rfl (os rfl oz))), trivial⟩ ?_
          refine aw_seq ?_
          refine aw_block ?_
          refine aw_drawn [false, false, false, false, false, false, false, false, true, false, true] [[0], [0], [0], [0], [0], [0], [0], [0], [0, 1], [1], [1, 2]] mixed_u3c (by decide +kernel) ?_
          refine dtp _ rfl (fun s => opD_fieldAddr fo94_6_u3c (os rfl (os rfl oz))) ?_
          refine dtlG1 ag55_u3c lz (loc_getN rfl rfl) rfl rfl ?_
          refine dtp _ rfl (fun s => opD_fieldAddr fo88_6_u3c (ls rfl (ls rfl oz))) ?_
          refine dtlG1 ag54_u3c lz (loc_getN rfl rfl) rfl rfl ?_
          refine dtp _ rfl (fun s => opD_move (ls rfl (ls rfl (ls rfl (ls rfl (os rfl (os rfl (os rfl oz)))))))) ?_
          replace hz_11 := ixb_some hz_11
          obtain ⟨x_12, hx_12, hbx_12, hz_11⟩ := hz_11
          refine dtp _ rfl (fun s => opD_indexAddr_sl (i := t_10.1.toNat) Tryd.underlying54 sz60_u3c (ls rfl lz) lz hbx_12.2.2 hbx_12.2.1) ?_
          refine dtp _ rfl (fun s => opD_load_el_aggX (qs := [_, _, _, _, _]) ag60_u3c sz60_u3c lz hx_12 (zNb rfl) rfl) ?_
          refine dtp _ rfl (fun s => opD_buildSlice (k := kLin) ([x_12] : (List Lin)) Tryd.underlying55 sz63_u3c zt63_u3c (by decide) rfl (parts_cons (cellsA lz) parts_nil) rfl rfl) ?_
          replace hz_11 := grd_some hz_11
          obtain ⟨hg_36, hz_11⟩ := hz_11
          refine dta _ rfl (opD_appendX Tryd.underlying55 el63_u3c (ls rfl (ls rfl (ls rfl (ls rfl (ls rfl (ls rfl lz)))))) lz rfl hg_36.1 hg_36.2 rfl (by simp only [znz] <;> rfl)) ?_
          refine dtp _ rfl (fun s => opD_fieldAddr fo94_6_u3c (ls rfl (ls rfl (ls rfl (ls rfl (ls rfl (ls rfl (ls rfl (ls rfl (ls rfl (os rfl (os rfl oz)))))))))))) ?_
          refine dta _ rfl (storeON rfl sz55_u3c lz (le_of_eq (ls rfl lz)) (one_sl _ _ _ _) rfl (zNb rfl) (sl_ob kb_Lin (by first | omega | (simp only [List.length_append, List.length_cons, List.length_nil, ext_fr_length, upd_fr_length]; omega))) (by simp only [znz] <;> rfl) (by simp only [znz] <;> rfl)) ?_
          refine .nil ?_
          dsimp only [List.nil_append, List.cons_append]
          refine ⟨rfl, ⟨trivial, ⟨(by first | exact loc_getN rfl rfl | exact updx_get hlt | exact upd2_g hgh hlt | exact upd2_h hlt2), trivial⟩, trivial, ⟨(by first | exact loc_getN rfl rfl | exact updx_get hlt | exact upd2_g hgh hlt | exact upd2_h hlt2), trivial⟩, trivial, trivial, trivial, trivial, trivial, trivial, trivial, trivial⟩, ?_⟩
          refine aw_keep [(1, _), (2, _), (3, _), (6, _)] ⟨lg (lx (ls rfl (ls rfl (ls rfl (ls rfl (ls rfl (ls rfl (ls rfl (ls rfl (ls rfl (ls rfl oz))))))))))), lg (lx (ls rfl (ls rfl (ls rfl (ls rfl (ls rfl (ls rfl (ls rfl (ls rfl (ls rfl (ls rfl (os rfl oz)))))))))))), lg (lx (ls rfl (ls rfl (ls rfl (ls rfl (ls rfl (ls rfl (ls rfl (ls rfl (ls rfl (ls rfl (os rfl (os rfl oz))))))))))))), lg (lx (ls rfl (ls rfl (ls rfl (ls rfl (ls rfl (ls rfl (ls rfl (ls rfl (ls rfl (ls rfl (os rfl (os rfl (os rfl oz)))))))))))))), trivial⟩ ?_
          refine aw_region (by decide) ?_
          refine rts _ rfl (opD_move (os rfl (os rfl (os rfl oz)))) ?_
          refine rts _ rfl (opD_add lz (ev_const _ _) rfl) ?_
          refine rts _ rfl (opD_assign lz) ?_
          refine .nil ?_
          obtain rfl := some_of hz_11
          replace hz_9 := ocs_l hz_9
          refine wk_yesN rfl (l := [(1, ptr (s.boxes.length + 0) 0), (2, ptr (s.boxes.length + 1) 0), (3, ptr (s.boxes.length + 2) 0), (6, pl (.int .i64 (IntKind.i64.wrap (t_10.1 + 1))))]) (bs' := [⟨88, [pl (.int .i64 p0.Code), pl (.int .u64 p0.N), pl (.bool p0.Found), pl (.string p0.Value), sl kEnt none none p0.Rows, sl kRf none none p0.Refs, sl kLin none none p0.Lines]⟩, ⟨94, [pl (.int .i64 0), pl (.int .u64 0), pl (.bool false), pl (.string ⟨#[]⟩), pl (.slice none 0 0), pl (.slice none 0 0), pl (.slice none 0 0)]⟩, ⟨94, [pl (.int .i64 p0.Code), pl (.int .u64 p0.N), pl (.bool p0.Found), pl (.string p0.Value), sl kEnt none none vz_1, sl kRf none none vz_5, sl kLin (some (s.fr.length + 0)) none (t_10.2 ++ ([x_12] : (List Lin)))]⟩]) ⟨le_of_eq (eg (ls rfl (ls rfl (ls rfl oz)))), le_of_eq (eg (ls rfl (ls rfl (ls rfl (os rfl oz))))), le_of_eq (eg (ls rfl (ls rfl (ls rfl (os rfl (os rfl oz)))))), le_of_eq (eg lz), trivial⟩ (zbc (ptr_bnd _ (by first | omega | (simp only [List.length_append, List.length_cons, List.length_nil]; omega))) (zbc (ptr_bnd _ (by first | omega | (simp only [List.length_append, List.length_cons, List.length_nil]; omega))) (zbc (ptr_bnd _ (by first | omega | (simp only [List.length_append, List.length_cons, List.length_nil]; omega))) (zbc zPb bnd_nil)))) (zNb rfl) (by simp only [znz] <;> rfl) (bxle_same (bxle_same (bxle_same bxle_nil))) rfl (by simp only [znz] <;> rfl) (bl_cons (zbc zPb (zbc zPb (zbc zPb (zbc zPb (zbc (sl_b kb_Ent) (zbc (sl_b kb_Rf) (zbc (sl_b kb_Lin) bnd_nil))))))) (bl_cons (zbc zPb (zbc zPb (zbc zPb (zbc zPb (zbc zPb (zbc zPb (zbc zPb bnd_nil))))))) (bl_cons (zbc zPb (zbc zPb (zbc zPb (zbc zPb (zbc (sl_b kb_Ent) (zbc (sl_b kb_Rf) (zbc (sl_ob kb_Lin (by first | omega | (simp only [List.length_append, List.length_cons, List.length_nil, ext_fr_length, upd_fr_length]; omega))) bnd_nil))))))) bl_nil))) ?_
          exact ⟨m_z_11, Nat.lt_succ_self _, (IntKind.i64.wrap (t_10.1 + 1), (t_10.2 ++ ([x_12] : (List Lin)))), ⟨le_of_eq (eg oz), le_of_eq (eg (os rfl oz)), le_of_eq (eg (os rfl (os rfl oz))), le_of_eq (eg (os rfl (os rfl (os rfl oz)))), trivial⟩, rfl, hz_9⟩
        · skip
          replace hz_11 := ifb_f hz_11 hc
          clear hc
          refine aw_exit ?_
          obtain rfl := some_of hz_11
          replace hz_9 := ocs_r hz_9
          refine wk_no ?_
          refine wk_yesN rfl (l := [(2, ptr (s.boxes.length + 1) 0), (3, ptr (s.boxes.length + 2) 0)]) (bs' := [⟨88, [pl (.int .i64 p0.Code), pl (.int .u64 p0.N), pl (.bool p0.Found), pl (.string p0.Value), sl kEnt none none p0.Rows, sl kRf none none p0.Refs, sl kLin none none p0.Lines]⟩, ⟨94, [pl (.int .i64 0), pl (.int .u64 0), pl (.bool false), pl (.string ⟨#[]⟩), pl (.slice none 0 0), pl (.slice none 0 0), pl (.slice none 0 0)]⟩, ⟨94, [pl (.int .i64 p0.Code), pl (.int .u64 p0.N), pl (.bool p0.Found), pl (.string p0.Value), sl kEnt none none vz_1, sl kRf none none vz_5, sl kLin none none t_10.2]⟩]) ⟨le_of_eq (eg (os rfl oz)), le_of_eq (eg (os rfl (os rfl oz))), trivial⟩ (zbc (ptr_bnd _ (by first | omega | (simp only [List.length_append, List.length_cons, List.length_nil]; omega))) (zbc (ptr_bnd _ (by first | omega | (simp only [List.length_append, List.length_cons, List.length_nil]; omega))) bnd_nil)) (zNb rfl) (by simp only [znz] <;> rfl) (bxle_same (bxle_same (bxle_cons (B := ⟨94, [_, _, _, _, _, _, _]⟩) (@Eq.refl TypeId 94) (lel_cons zLr (lel_cons zLr (lel_cons zLr (lel_cons zLr (lel_cons zLr (lel_cons zLr (lel_cons (sl_le _ (some (s.fr.length + 0)) none _) lel_nil))))))) bxle_nil))) rfl (by simp only [znz] <;> rfl) (bl_cons (zbc zPb (zbc zPb (zbc zPb (zbc zPb (zbc (sl_b kb_Ent) (zbc (sl_b kb_Rf) (zbc (sl_b kb_Lin) bnd_nil))))))) (bl_cons (zbc zPb (zbc zPb (zbc zPb (zbc zPb (zbc zPb (zbc zPb (zbc zPb bnd_nil))))))) (bl_cons (zbc zPb (zbc zPb (zbc zPb (zbc zPb (zbc (sl_b kb_Ent) (zbc (sl_b kb_Rf) (zbc (sl_b kb_Lin) bnd_nil))))))) bl_nil))) ?_
          exact ⟨t_10.2, ⟨le_of_eq (eg oz), le_of_eq (eg (os rfl oz)), trivial⟩, rfl, some_of hz_9⟩
      · rintro e st ⟨vz_9, hH, rfl, rfl⟩
        refine aw_keep _ hH ?_
        refine aw_keep [(2, _), (3, _)] ⟨lg oz, lg (os rfl oz), trivial⟩ ?_
        refine aw_seq ?_
        refine aw_region (by decide) ?_
        refine rts _ rfl (opD_load_aggX (qs := [_, _, _, _, _, _, _]) ag94_u3c sz94_u3c (os rfl oz) (loc_getN rfl rfl) (zNb rfl) rfl) ?_
        refine rts _ rfl (storeAN rfl sz94_u3c (ls rfl oz) lz (ones_cons (one_pl rfl) (ones_cons (one_pl rfl) (ones_cons (one_pl rfl) (ones_cons (one_pl rfl) (ones_cons (one_sl _ _ _ _) (ones_cons (one_sl _ _ _ _) (ones_cons (one_sl _ _ _ _) ones_nil))))))) rfl rfl (zNb rfl) (List.cons_ne_nil _ _) (zbc zPb (zbc zPb (zbc zPb (zbc zPb (zbc (sl_b kb_Ent) (zbc (sl_b kb_Rf) (zbc (sl_b kb_Lin) bnd_nil))))))) (by simp only [znz] <;> rfl) (by simp only [znz] <;> rfl)) ?_
        refine .nil ?_
        refine aw_keep [(2, _)] ⟨lg (lx (ls rfl oz)), trivial⟩ ?_
        refine aw_ret ?_
        obtain rfl := some_of h0
        exact done_ext (.inr rfl) ((res_one rfl (it_cellA (B := ⟨94, [_, _, _, _, _, _, _]⟩) ag94_u3c sz94_u3c oz (loc_getN rfl rfl) rfl)).le (agg_le ⟨zLr, zLr, zLr, zLr, zLr, zLr, zLr, trivial⟩)) (agg_bnd (zbc zPb (zbc zPb (zbc zPb (zbc zPb (zbc (sl_b kb_Ent) (zbc (sl_b kb_Rf) (zbc (sl_b kb_Lin) bnd_nil))))))))

def F_rbig_b0 (p0 : Rpl) (t_2 : Int × Int) : Option ((Int × Int) ⊕ ((Int))) :=
  ifb (decide (t_2.2 < (p0.Rows.length : Int))) (ixb p0.Rows t_2.2 fun x_4 => ixb p0.Rows t_2.2 fun x_5 => some (.inl (IntKind.i64.wrap ((IntKind.i64.wrap (t_2.1 + (if 9000 < (x_4.Key.size : Int) then 9000 else (x_4.Key.size : Int)))) + (if 9000 < (x_5.Value.size : Int) then 9000 else (x_5.Value.size : Int))), IntKind.i64.wrap (t_2.2 + 1)))) (some (.inr t_2.1))
def F_rbig_b1 (p0 : Rpl) (t_7 : Int × Int) : Option ((Int × Int) ⊕ ((Int))) :=
  ifb (decide (t_7.2 < (p0.Lines.length : Int))) (ixb p0.Lines t_7.2 fun x_9 => some (.inl (IntKind.i64.wrap (t_7.1 + (if 9000 < (x_9.Key.size : Int) then 9000 else (x_9.Key.size : Int))), IntKind.i64.wrap (t_7.2 + 1)))) (some (.inr t_7.1))
def F_rbig (fl : Nat) (p0 : Rpl) : Option (Bool) :=
  ifb ((((decide (80 < (p0.Rows.length : Int))) || (decide (80 < (p0.Refs.length : Int)))) || (decide (80 < (p0.Lines.length : Int)))) || (decide (3000 < (p0.Value.size : Int)))) (some true) (bnd (lp (F_rbig_b0 p0) fl (0, 0)) fun z_1 => bnd (lp (F_rbig_b1 p0) fl (z_1, 0)) fun z_6 => some (decide (9000 < z_6)))
set_option maxRecDepth 100000 in
set_option maxHeartbeats 2000000 in
theorem c_rbig {fl : Nat} {p0 : Rpl} {R : Bool} (h0 : F_rbig fl p0 = some R) : Pure Tryd.prog 49 [agg [pl (.int .i64 p0.Code), pl (.int .u64 p0.N), pl (.bool p0.Found), pl (.string p0.Value), sl kEnt none none p0.Rows, sl kRf none none p0.Refs, sl kLin none none p0.Lines]] (pl (.bool R)) := by
  intro s
  unfold F_rbig at h0
  refine ac_of_aw s.boxes.length s.fr.length Tryd.func49 rfl (by simp [Tryd.ntmps49]) ?_
  refine aw_ext0 ?_
  refine aw_keep [(0, _)] ⟨lg ez, trivial⟩ ?_
  refine aw_seq ?_
  refine aw_region (by decide) ?_
  refine rts _ rfl (boxAN rfl oz (zbc zPb (zbc zPb (zbc zPb (zbc zPb (zbc (sl_b kb_Ent) (zbc (sl_b kb_Rf) (zbc (sl_b kb_Lin) bnd_nil))))))) (by first | exact List.length_nil | (simp only [List.length_cons, List.length_nil, Nat.zero_add, Nat.reduceAdd] <;> rfl)) (by simp only [znz] <;> rfl)) ?_
  refine rts _ rfl (opD_assign (ev_const _ _)) ?_
  refine .nil ?_
  refine aw_keep [(1, _)] ⟨lg (ls rfl lz), trivial⟩ ?_
  refine aw_seq ?_
  refine aw_seq ?_
  refine aw_region (by decide) ?_
  refine rts _ rfl (opD_fieldAddr fo88_4_u3c oz) ?_
  refine rts _ rfl (opD_load_one ag85_u3c lz (loc_getN rfl rfl) rfl) ?_
  refine rts _ rfl (opD_len_sl Tryd.underlying85 lz) ?_
  refine rts _ rfl (opD_gtr lz (ev_const _ _)) ?_
  refine rts _ rfl (opD_move lz) ?_
  refine rtg _ rfl lz (fun hg1_5_1 => opD_fieldAddr fo88_5_u3c (ls rfl (ls rfl (ls rfl (ls rfl (ls rfl oz)))))) ?_
  refine rtg _ rfl (ls rfl lz) (fun hg1_6_2 => opD_load_one ag86_u3c (lz.trans (pif_pos hg1_6_2)) (loc_getN rfl rfl) rfl) ?_
  refine rtg _ rfl (ls rfl (ls rfl lz)) (fun hg1_7_3 => opD_len_sl Tryd.underlying86 (lz.trans (pif_pos hg1_7_3))) ?_
  refine rtg _ rfl (ls rfl (ls rfl (ls rfl lz))) (fun hg1_8_4 => opD_gtr (lz.trans (pif_pos hg1_8_4)) (ev_const _ _)) ?_
  refine rts _ rfl (opD_or (ls rfl (ls rfl (ls rfl (ls rfl lz)))) lz) ?_
  refine rts _ rfl (opD_move lz) ?_
  refine rtg _ rfl lz (fun hg1_11_5 => opD_fieldAddr fo88_6_u3c (ls rfl (ls rfl (ls rfl (ls rfl (ls rfl (ls rfl (ls rfl (ls rfl (ls rfl (ls rfl (ls rfl oz)))))))))))) ?_
  refine rtg _ rfl (ls rfl lz) (fun hg1_12_6 => opD_load_one ag54_u3c (lz.trans (pif_pos hg1_12_6)) (loc_getN rfl rfl) rfl) ?_
  refine rtg _ rfl (ls rfl (ls rfl lz)) (fun hg1_13_7 => opD_len_sl Tryd.underlying54 (lz.trans (pif_pos hg1_13_7))) ?_
  refine rtg _ rfl (ls rfl (ls rfl (ls rfl lz))) (fun hg1_14_8 => opD_gtr (lz.trans (pif_pos hg1_14_8)) (ev_const _ _)) ?_
  refine rts _ rfl (opD_or (ls rfl (ls rfl (ls rfl (ls rfl lz)))) lz) ?_
  refine rts _ rfl (opD_move lz) ?_
  refine rtg _ rfl lz (fun hg1_17_9 => opD_fieldAddr fo88_3_u3c (ls rfl (ls rfl (ls rfl (ls rfl (ls rfl (ls rfl (ls rfl (ls rfl (ls rfl (ls rfl (ls rfl (ls rfl (ls rfl (ls rfl (ls rfl (ls rfl (ls rfl oz)))))))))))))))))) ?_
  refine rtg _ rfl (ls rfl lz) (fun hg1_18_10 => opD_load_one ag9_u3c (lz.trans (pif_pos hg1_18_10)) (loc_getN rfl rfl) rfl) ?_
  refine rtg _ rfl (ls rfl (ls rfl lz)) (fun hg1_19_11 => opD_len_str Tryd.underlying9 (lz.trans (pif_pos hg1_19_11))) ?_
  refine rtg _ rfl (ls rfl (ls rfl (ls rfl lz))) (fun hg1_20_12 => opD_gtr (lz.trans (pif_pos hg1_20_12)) (ev_const _ _)) ?_
  refine rts _ rfl (opD_or (ls rfl (ls rfl (ls rfl (ls rfl lz)))) lz) ?_
  refine .nil ?_
  refine aw_keep [(1, _), (27, _)] ⟨lg (ls rfl (ls rfl (ls rfl (ls rfl (ls rfl (ls rfl (ls rfl (ls rfl (ls rfl (ls rfl (ls rfl (ls rfl (ls rfl (ls rfl (ls rfl (ls rfl (ls rfl (ls rfl (ls rfl (ls rfl (ls rfl (ls rfl oz)))))))))))))))))))))), lg lz, trivial⟩ ?_
  refine aw_cond _ (os rfl oz) (fun hc => ?_) (fun hc => ?_)
  · skip
    replace h0 := ifb_t h0 hc
    clear hc
    refine aw_seq ?_
    refine aw_region (by decide) ?_
    refine rts _ rfl (opD_assign (ev_const _ _)) ?_
    refine .nil ?_
    refine aw_keep [(2, _)] ⟨lg lz, trivial⟩ ?_
    refine aw_ret ?_
    obtain rfl := some_of h0
    exact done_ext (.inr rfl) ((res_one rfl (it_tmp oz)).le zLr) zPb
  · skip
    replace h0 := ifb_f h0 hc
    clear hc
    refine aw_skip ?_
    refine aw_keep [(1, _)] ⟨lg oz, trivial⟩ ?_
    refine aw_seq ?_
    refine aw_region (by decide) ?_
    refine rts _ rfl (opD_assign (ev_const _ _)) ?_
    refine .nil ?_
    refine aw_keep [(1, _), (3, _)] ⟨lg (ls rfl oz), lg lz, trivial⟩ ?_
    refine aw_seq ?_
    refine aw_seq ?_
    refine aw_region (by decide) ?_
    refine rts _ rfl (opD_assign (ev_const _ _)) ?_
    refine .nil ?_
    refine aw_keep [(1, _), (3, _), (4, _)] ⟨lg (ls rfl oz), lg (ls rfl (os rfl oz)), lg lz, trivial⟩ ?_
    replace h0 := bnd_some h0
    obtain ⟨z_1, hz_1, h0⟩ := h0
    refine aw_mid (fun e st => ∃ v : Int, Holds e [(1, ptr (s.boxes.length + 0) 0), (3, pl (.int .i64 v))] ∧ st = s.ext [⟨88, [pl (.int .i64 p0.Code), pl (.int .u64 p0.N), pl (.bool p0.Found), pl (.string p0.Value), sl kEnt none none p0.Rows, sl kRf none none p0.Refs, sl kLin none none p0.Lines]⟩] [] ∧ v = z_1) ?_ ?_
    · skip
      refine aw_wkN rfl 1 0 rfl rfl ?_
      refine aw_block ?_
      refine aw_loop (fun n e st => ∃ v : Int × Int, Holds e [(1, ptr (s.boxes.length + 0) 0), (3, pl (.int .i64 v.1)), (4, pl (.int .i64 v.2))] ∧ st = s.ext [⟨88, [pl (.int .i64 p0.Code), pl (.int .u64 p0.N), pl (.bool p0.Found), pl (.string p0.Value), sl kEnt none none p0.Rows, sl kRf none none p0.Refs, sl kLin none none p0.Lines]⟩] [] ∧ lp (F_rbig_b0 p0) n v = some z_1) fl ⟨(0, 0), ⟨le_of_eq (eg oz), le_of_eq (eg (os rfl oz)), le_of_eq (eg (os rfl (os rfl oz))), trivial⟩, rfl, hz_1⟩ ?_
      rintro n e st ⟨t_2, hH, rfl, hz_1⟩
      replace hz_1 := lp_some hz_1
      obtain ⟨m_z_3, z_3, rfl, hz_3, hz_1⟩ := hz_1
      unfold F_rbig_b0 at hz_3
      refine aw_keep _ hH ?_
      refine aw_wkN rfl 1 0 rfl rfl ?_
      refine aw_seq ?_
      refine aw_seq ?_
      refine aw_region (by decide) ?_
      refine rts _ rfl (opD_move (os rfl (os rfl oz))) ?_
      refine rts _ rfl (opD_fieldAddr fo88_4_u3c (ls rfl oz)) ?_
      refine rts _ rfl (opD_load_one ag85_u3c lz (loc_getN rfl rfl) rfl) ?_
      refine rts _ rfl (opD_len_sl Tryd.underlying85 lz) ?_
      refine rts _ rfl (opD_lss (ls rfl (ls rfl (ls rfl lz))) lz) ?_
      refine .nil ?_
      refine aw_keep [(1, _), (3, _), (4, _), (32, _)] ⟨lg (ls rfl (ls rfl (ls rfl (ls rfl (ls rfl oz))))), lg (ls rfl (ls rfl (ls rfl (ls rfl (ls rfl (os rfl oz)))))), lg (ls rfl (ls rfl (ls rfl (ls rfl (ls rfl (os rfl (os rfl oz))))))), lg lz, trivial⟩ ?_
      refine aw_cond _ (os rfl (os rfl (os rfl oz))) (fun hc => ?_) (fun hc => ?_)
      · skip
        replace hz_3 := ifb_t hz_3 hc
        clear hc
        refine aw_skip ?_
        refine aw_keep [(1, _), (3, _), (4, _)] ⟨lg oz, lg (os rfl oz), lg (os rfl (os rfl oz)), trivial⟩ ?_
        refine aw_seq ?_
        refine aw_block ?_
        refine aw_flat mixed_u3c (by decide +kernel) ?_
        refine zts _ rfl (opD_move (os rfl oz)) ?_
        refine zts _ rfl (opD_fieldAddr fo88_4_u3c (ls rfl oz)) ?_
        refine zts _ rfl (opD_load_one ag85_u3c lz (loc_getN rfl rfl) rfl) ?_
        refine zts _ rfl (opD_move (ls rfl (ls rfl (ls rfl (os rfl (os rfl oz)))))) ?_
        replace hz_3 := ixb_some hz_3
        obtain ⟨x_4, hx_4, hbx_4, hz_3⟩ := hz_3
        refine zts _ rfl (opD_indexAddr_sl (i := t_2.2.toNat) Tryd.underlying85 sz174_u3c (ls rfl lz) lz hbx_4.2.2 hbx_4.2.1) ?_
        refine zts _ rfl (opD_fieldAddr_el fo174_0_u3c lz) ?_
        refine zts _ rfl (opD_load_el_one ag9_u3c lz hx_4 rfl) ?_
        refine zts _ rfl (opD_len_str Tryd.underlying9 lz) ?_
        refine zts _ rfl (opD_min lz (ev_const _ _) rfl) ?_
        refine zts _ rfl (opD_add (ls rfl (ls rfl (ls rfl (ls rfl (ls rfl (ls rfl (ls rfl (ls rfl lz)))))))) lz rfl) ?_
        refine zts _ rfl (opD_fieldAddr fo88_4_u3c (ls rfl (ls rfl (ls rfl (ls rfl (ls rfl (ls rfl (ls rfl (ls rfl (ls rfl (ls rfl oz))))))))))) ?_
        refine zts _ rfl (opD_load_one ag85_u3c lz (loc_getN rfl rfl) rfl) ?_
        refine zts _ rfl (opD_move (ls rfl (ls rfl (ls rfl (ls rfl (ls rfl (ls rfl (ls rfl (ls rfl (ls rfl (ls rfl (ls rfl (ls rfl (os rfl (os rfl oz))))))))))))))) ?_
        replace hz_3 := ixb_some hz_3
        obtain ⟨x_5, hx_5, hbx_5, hz_3⟩ := hz_3
        refine zts _ rfl (opD_indexAddr_sl (i := t_2.2.toNat) Tryd.underlying85 sz174_u3c (ls rfl lz) lz hbx_5.2.2 hbx_5.2.1) ?_
        refine zts _ rfl (opD_fieldAddr_el fo174_1_u3c lz) ?_
        refine zts _ rfl (opD_load_el_one ag9_u3c lz hx_5 rfl) ?_
        refine zts _ rfl (opD_len_str Tryd.underlying9 lz) ?_
        refine zts _ rfl (opD_min lz (ev_const _ _) rfl) ?_
        refine zts _ rfl (opD_add (ls rfl (ls rfl (ls rfl (ls rfl (ls rfl (ls rfl (ls rfl (ls rfl lz)))))))) lz rfl) ?_
        refine zts _ rfl (opD_assign lz) ?_
        refine .nil ?_
        refine aw_keep [(1, _), (3, _), (4, _)] ⟨lg (ls rfl (ls rfl (ls rfl (ls rfl (ls rfl (ls rfl (ls rfl (ls rfl (ls rfl (ls rfl (ls rfl (ls rfl (ls rfl (ls rfl (ls rfl (ls rfl (ls rfl (ls rfl (ls rfl (ls rfl oz)))))))))))))))))))), lg lz, lg (ls rfl (ls rfl (ls rfl (ls rfl (ls rfl (ls rfl (ls rfl (ls rfl (ls rfl (ls rfl (ls rfl (ls rfl (ls rfl (ls rfl (ls rfl (ls rfl (ls rfl (ls rfl (ls rfl (ls rfl (os rfl (os rfl oz)))))))))))))))))))))), trivial⟩ ?_
        refine aw_region (by decide) ?_
        refine rts _ rfl (opD_move (os rfl (os rfl oz))) ?_
        refine rts _ rfl (opD_add lz (ev_const _ _) rfl) ?_
        refine rts _ rfl (opD_assign lz) ?_
        refine .nil ?_
        obtain rfl := some_of hz_3
        replace hz_1 := ocs_l hz_1
        refine wk_yesN rfl (l := [(1, ptr (s.boxes.length + 0) 0), (3, pl (.int .i64 (IntKind.i64.wrap ((IntKind.i64.wrap (t_2.1 + (if 9000 < (x_4.Key.size : Int) then 9000 else (x_4.Key.size : Int)))) + (if 9000 < (x_5.Value.size : Int) then 9000 else (x_5.Value.size : Int)))))), (4, pl (.int .i64 (IntKind.i64.wrap (t_2.2 + 1))))]) (bs' := [⟨88, [pl (.int .i64 p0.Code), pl (.int .u64 p0.N), pl (.bool p0.Found), pl (.string p0.Value), sl kEnt none none p0.Rows, sl kRf none none p0.Refs, sl kLin none none p0.Lines]⟩]) ⟨le_of_eq (eg (ls rfl (ls rfl (ls rfl oz)))), le_of_eq (eg (ls rfl (ls rfl (ls rfl (os rfl oz))))), le_of_eq (eg lz), trivial⟩ (zbc (ptr_bnd _ (by first | omega | (simp only [List.length_append, List.length_cons, List.length_nil]; omega))) (zbc zPb (zbc zPb bnd_nil))) (zNb rfl) (by simp only [znz] <;> rfl) (bxle_same bxle_nil) rfl (by simp only [znz] <;> rfl) (bl_cons (zbc zPb (zbc zPb (zbc zPb (zbc zPb (zbc (sl_b kb_Ent) (zbc (sl_b kb_Rf) (zbc (sl_b kb_Lin) bnd_nil))))))) bl_nil) ?_
        exact ⟨m_z_3, Nat.lt_succ_self _, (IntKind.i64.wrap ((IntKind.i64.wrap (t_2.1 + (if 9000 < (x_4.Key.size : Int) then 9000 else (x_4.Key.size : Int)))) + (if 9000 < (x_5.Value.size : Int) then 9000 else (x_5.Value.size : Int))), IntKind.i64.wrap (t_2.2 + 1)), ⟨le_of_eq (eg oz), le_of_eq (eg (os rfl oz)), le_of_eq (eg (os rfl (os rfl oz))), trivial⟩, rfl, hz_1⟩
      · skip
        replace hz_3 := ifb_f hz_3 hc
        clear hc
        refine aw_exit ?_
        obtain rfl := some_of hz_3
        replace hz_1 := ocs_r hz_1
        refine wk_no ?_
        refine wk_yesN rfl (l := [(1, ptr (s.boxes.length + 0) 0), (3, pl (.int .i64 t_2.1))]) (bs' := [⟨88, [pl (.int .i64 p0.Code), pl (.int .u64 p0.N), pl (.bool p0.Found), pl (.string p0.Value), sl kEnt none none p0.Rows, sl kRf none none p0.Refs, sl kLin none none p0.Lines]⟩]) ⟨le_of_eq (eg oz), le_of_eq (eg (os rfl oz)), trivial⟩ (zbc (ptr_bnd _ (by first | omega | (simp only [List.length_append, List.length_cons, List.length_nil]; omega))) (zbc zPb bnd_nil)) (zNb rfl) (by simp only [znz] <;> rfl) (bxle_same bxle_nil) rfl (by simp only [znz] <;> rfl) (bl_cons (zbc zPb (zbc zPb (zbc zPb (zbc zPb (zbc (sl_b kb_Ent) (zbc (sl_b kb_Rf) (zbc (sl_b kb_Lin) bnd_nil))))))) bl_nil) ?_
        exact ⟨t_2.1, ⟨le_of_eq (eg oz), le_of_eq (eg (os rfl oz)), trivial⟩, rfl, some_of hz_1⟩
    · rintro e st ⟨vz_1, hH, rfl, rfl⟩
      refine aw_keep _ hH ?_
      refine aw_keep [(1, _), (3, _)] ⟨lg oz, lg (os rfl oz), trivial⟩ ?_
      refine aw_seq ?_
      refine aw_seq ?_
      refine aw_region (by decide) ?_
      refine rts _ rfl (opD_assign (ev_const _ _)) ?_
      refine .nil ?_
      refine aw_keep [(1, _), (3, _), (5, _)] ⟨lg (ls rfl oz), lg (ls rfl (os rfl oz)), lg lz, trivial⟩ ?_
      replace h0 := bnd_some h0
      obtain ⟨z_6, hz_6, h0⟩ := h0
      refine aw_mid (fun e st => ∃ v : Int, Holds e [(3, pl (.int .i64 v))] ∧ st = s.ext [⟨88, [pl (.int .i64 p0.Code), pl (.int .u64 p0.N), pl (.bool p0.Found), pl (.string p0.Value), sl kEnt none none p0.Rows, sl kRf none none p0.Refs, sl kLin none none p0.Lines]⟩] [] ∧ v = z_6) ?_ ?_
      · skip
        refine aw_wkN rfl 1 0 rfl rfl ?_
        refine aw_block ?_
        refine aw_loop (fun n e st => ∃ v : Int × Int, Holds e [(1, ptr (s.boxes.length + 0) 0), (3, pl (.int .i64 v.1)), (5, pl (.int .i64 v.2))] ∧ st = s.ext [⟨88, [pl (.int .i64 p0.Code), pl (.int .u64 p0.N), pl (.bool p0.Found), pl (.string p0.Value), sl kEnt none none p0.Rows, sl kRf none none p0.Refs, sl kLin none none p0.Lines]⟩] [] ∧ lp (F_rbig_b1 p0) n v = some z_6) fl ⟨(vz_1, 0), ⟨le_of_eq (eg oz), le_of_eq (eg (os rfl oz)), le_of_eq (eg (os rfl (os rfl oz))), trivial⟩, rfl, hz_6⟩ ?_
        rintro n e st ⟨t_7, hH, rfl, hz_6⟩
        replace hz_6 := lp_some hz_6
        obtain ⟨m_z_8, z_8, rfl, hz_8, hz_6⟩ := hz_6
        unfold F_rbig_b1 at hz_8
        refine aw_keep _ hH ?_
        refine aw_wkN rfl 1 0 rfl rfl ?_
        refine aw_seq ?_
        refine aw_seq ?_
        refine aw_region (by decide) ?_
        refine rts _ rfl (opD_move (os rfl (os rfl oz))) ?_
        refine rts _ rfl (opD_fieldAddr fo88_6_u3c (ls rfl oz)) ?_
        refine rts _ rfl (opD_load_one ag54_u3c lz (loc_getN rfl rfl) rfl) ?_
        refine rts _ rfl (opD_len_sl Tryd.underlying54 lz) ?_
        refine rts _ rfl (opD_lss (ls rfl (ls rfl (ls rfl lz))) lz) ?_
        refine .nil ?_
        refine aw_keep [(1, _), (3, _), (5, _), (58, _)] ⟨lg (ls rfl (ls rfl (ls rfl (ls rfl (ls rfl oz))))), lg (ls rfl (ls rfl (ls rfl (ls rfl (ls rfl (os rfl oz)))))), lg (ls rfl (ls rfl (ls rfl (ls rfl (ls rfl (os rfl (os rfl oz))))))), lg lz, trivial⟩ ?_
        refine aw_cond _ (os rfl (os rfl (os rfl oz))) (fun hc => ?_) (fun hc => ?_)
        · skip
          replace hz_8 := ifb_t hz_8 hc
          clear hc
          refine aw_skip ?_
          refine aw_keep [(1, _), (3, _), (5, _)] ⟨lg oz, lg (os rfl oz), lg (os rfl (os rfl oz)), trivial⟩ ?_
          refine aw_seq ?_
          refine aw_block ?_
          refine aw_region (by decide) ?_
          refine rts _ rfl (opD_move (os rfl oz)) ?_
          refine rts _ rfl (opD_fieldAddr fo88_6_u3c (ls rfl oz)) ?_
          refine rts _ rfl (opD_load_one ag54_u3c lz (loc_getN rfl rfl) rfl) ?_
          refine rts _ rfl (opD_move (ls rfl (ls rfl (ls rfl (os rfl (os rfl oz)))))) ?_
          replace hz_8 := ixb_some hz_8
          obtain ⟨x_9, hx_9, hbx_9, hz_8⟩ := hz_8
          refine rts _ rfl (opD_indexAddr_sl (i := t_7.2.toNat) Tryd.underlying54 sz60_u3c (ls rfl lz) lz hbx_9.2.2 hbx_9.2.1) ?_
          refine rts _ rfl (opD_fieldAddr_el fo60_4_u3c lz) ?_
          refine rts _ rfl (opD_load_el_one ag9_u3c lz hx_9 rfl) ?_
          refine rts _ rfl (opD_len_str Tryd.underlying9 lz) ?_
          refine rts _ rfl (opD_min lz (ev_const _ _) rfl) ?_
          refine rts _ rfl (opD_add (ls rfl (ls rfl (ls rfl (ls rfl (ls rfl (ls rfl (ls rfl (ls rfl lz)))))))) lz rfl) ?_
          refine rts _ rfl (opD_assign lz) ?_
          refine .nil ?_
          refine aw_keep [(1, _), (3, _), (5, _)] ⟨lg (ls rfl (ls rfl (ls rfl (ls rfl (ls rfl (ls rfl (ls rfl (ls rfl (ls rfl (ls rfl (ls rfl oz))))))))))), lg lz, lg (ls rfl (ls rfl (ls rfl (ls rfl (ls rfl (ls rfl (ls rfl (ls rfl (ls rfl (ls rfl (ls rfl (os rfl (os rfl oz))))))))))))), trivial⟩ ?_
          refine aw_region (by decide) ?_
          refine rts _ rfl (opD_move (os rfl (os rfl oz))) ?_
          refine rts _ rfl (opD_add lz (ev_const _ _) rfl) ?_
          refine rts _ rfl (opD_assign lz) ?_
          refine .nil ?_
          obtain rfl := some_of hz_8
          replace hz_6 := ocs_l hz_6
          refine wk_yesN rfl (l := [(1, ptr (s.boxes.length + 0) 0), (3, pl (.int .i64 (IntKind.i64.wrap (t_7.1 + (if 9000 < (x_9.Key.size : Int) then 9000 else (x_9.Key.size : Int)))))), (5, pl (.int .i64 (IntKind.i64.wrap (t_7.2 + 1))))]) (bs' := [⟨88, [pl (.int .i64 p0.Code), pl (.int .u64 p0.N), pl (.bool p0.Found), pl (.string p0.Value), sl kEnt none none p0.Rows, sl kRf none none p0.Refs, sl kLin none none p0.Lines]⟩]) ⟨le_of_eq (eg (ls rfl (ls rfl (ls rfl oz)))), le_of_eq (eg (ls rfl (ls rfl (ls rfl (os rfl oz))))), le_of_eq (eg lz), trivial⟩ (zbc (ptr_bnd _ (by first | omega | (simp only [List.length_append, List.length_cons, List.length_nil]; omega))) (zbc zPb (zbc zPb bnd_nil))) (zNb rfl) (by simp only [znz] <;> rfl) (bxle_same bxle_nil) rfl (by simp only [znz] <;> rfl) (bl_cons (zbc zPb (zbc zPb (zbc zPb (zbc zPb (zbc (sl_b kb_Ent) (zbc (sl_b kb_Rf) (zbc (sl_b kb_Lin) bnd_nil))))))) bl_nil) ?_
          exact ⟨m_z_8, Nat.lt_succ_self _, (IntKind.i64.wrap (t_7.1 + (if 9000 < (x_9.Key.size : Int) then 9000 else (x_9.Key.size : Int))), IntKind.i64.wrap (t_7.2 + 1)), ⟨le_of_eq (eg oz), le_of_eq (eg (os rfl oz)), le_of_eq (eg (os rfl (os rfl oz))), trivial⟩, rfl, hz_6⟩
        · skip
          replace hz_8 := ifb_f hz_8 hc
          clear hc
          refine aw_exit ?_
          obtain rfl := some_of hz_8
          replace hz_6 := ocs_r hz_6
          refine wk_no ?_
          refine wk_yesN rfl (l := [(3, pl (.int .i64 t_7.1))]) (bs' := [⟨88, [pl (.int .i64 p0.Code), pl (.int .u64 p0.N), pl (.bool p0.Found), pl (.string p0.Value), sl kEnt none none p0.Rows, sl kRf none none p0.Refs, sl kLin none none p0.Lines]⟩]) ⟨le_of_eq (eg (os rfl oz)), trivial⟩ (zbc zPb bnd_nil) (zNb rfl) (by simp only [znz] <;> rfl) (bxle_same bxle_nil) rfl (by simp only [znz] <;> rfl) (bl_cons (zbc zPb (zbc zPb (zbc zPb (zbc zPb (zbc (sl_b kb_Ent) (zbc (sl_b kb_Rf) (zbc (sl_b kb_Lin) bnd_nil))))))) bl_nil) ?_
          exact ⟨t_7.1, ⟨le_of_eq (eg oz), trivial⟩, rfl, some_of hz_6⟩
      · rintro e st ⟨vz_6, hH, rfl, rfl⟩
        refine aw_keep _ hH ?_
        refine aw_keep [(3, _)] ⟨lg oz, trivial⟩ ?_
        refine aw_seq ?_
        refine aw_region (by decide) ?_
        refine rts _ rfl (opD_move oz) ?_
        refine rts _ rfl (opD_gtr lz (ev_const _ _)) ?_
        refine rts _ rfl (opD_assign lz) ?_
        refine .nil ?_
        refine aw_keep [(2, _)] ⟨lg lz, trivial⟩ ?_
        refine aw_ret ?_
        obtain rfl := some_of h0
        exact done_ext (.inr rfl) ((res_one rfl (it_tmp oz)).le zLr) zPb

theorem eq_Ent (a0 : ByteArray) (a1 : ByteArray) (b0 : ByteArray) (b1 : ByteArray) (w : World) : (binOp .eql 109 (.agg [.string a0, .string a1].toArray) (.agg [.string b0, .string b1].toArray)).run Tryd.prog w = .ok (.bool (decide (a0 = b0) && (decide (a1 = b1) && true))) w ∧ (binOp .neq 109 (.agg [.string a0, .string a1].toArray) (.agg [.string b0, .string b1].toArray)).run Tryd.prog w = .ok (.bool (!(decide (a0 = b0) && (decide (a1 = b1) && true)))) w := by
  have h := eqS (P := Tryd.prog) (t := 109) (xs := [.string a0, .string a1].toArray) (ys := [.string b0, .string b1].toArray) (w := w) Tryd.underlying109 (by kernel_rfl) (eqf_cons (by decide) (run_part_one ag9_u3c rfl w) (run_part_one ag9_u3c rfl w) (run_equalIn_string w _ _ _ _ Tryd.underlying9) (eqf_cons (by decide) (run_part_one ag9_u3c rfl w) (run_part_one ag9_u3c rfl w) (run_equalIn_string w _ _ _ _ Tryd.underlying9) eqf_nil))
  simp only [str_beq, beq_dec, Bool.and_assoc, Bool.true_and] at h
  exact h

theorem eq_Ent_g (op : BinOp) (t u : Operand) (xs ys : Array Value) (w : World) : (eqGuard op 109 t u (.agg xs) (.agg ys)).run Tryd.prog w = .ok () w := run_eqGuard_agg w op 109 t u _ _ (by kernel_rfl)

theorem eq_Rf (a0 : Int) (a1 : Int) (b0 : Int) (b1 : Int) (w : World) : (binOp .eql 116 (.agg [.int .i64 a0, .int .u64 a1].toArray) (.agg [.int .i64 b0, .int .u64 b1].toArray)).run Tryd.prog w = .ok (.bool (decide (a0 = b0) && (decide (a1 = b1) && true))) w ∧ (binOp .neq 116 (.agg [.int .i64 a0, .int .u64 a1].toArray) (.agg [.int .i64 b0, .int .u64 b1].toArray)).run Tryd.prog w = .ok (.bool (!(decide (a0 = b0) && (decide (a1 = b1) && true)))) w := by
  have h := eqS (P := Tryd.prog) (t := 116) (xs := [.int .i64 a0, .int .u64 a1].toArray) (ys := [.int .i64 b0, .int .u64 b1].toArray) (w := w) Tryd.underlying116 (by kernel_rfl) (eqf_cons (by decide) (run_part_one ag3_u3c rfl w) (run_part_one ag3_u3c rfl w) (run_equalIn_int w _ _ _ _ _ _ Tryd.underlying3) (eqf_cons (by decide) (run_part_one ag22_u3c rfl w) (run_part_one ag22_u3c rfl w) (run_equalIn_int w _ _ _ _ _ _ Tryd.underlying22) eqf_nil))
  simp only [str_beq, beq_dec, Bool.and_assoc, Bool.true_and] at h
  exact h

theorem eq_Rf_g (op : BinOp) (t u : Operand) (xs ys : Array Value) (w : World) : (eqGuard op 116 t u (.agg xs) (.agg ys)).run Tryd.prog w = .ok () w := run_eqGuard_agg w op 116 t u _ _ (by kernel_rfl)

theorem eq_Lin (a0 : Int) (a1 : Int) (a2 : Int) (a3 : Int) (a4 : ByteArray) (b0 : Int) (b1 : Int) (b2 : Int) (b3 : Int) (b4 : ByteArray) (w : World) : (binOp .eql 63 (.agg [.int .u64 a0, .int .u64 a1, .int .u8 a2, .int .u16 a3, .string a4].toArray) (.agg [.int .u64 b0, .int .u64 b1, .int .u8 b2, .int .u16 b3, .string b4].toArray)).run Tryd.prog w = .ok (.bool (decide (a0 = b0) && (decide (a1 = b1) && (decide (a2 = b2) && (decide (a3 = b3) && (decide (a4 = b4) && true)))))) w ∧ (binOp .neq 63 (.agg [.int .u64 a0, .int .u64 a1, .int .u8 a2, .int .u16 a3, .string a4].toArray) (.agg [.int .u64 b0, .int .u64 b1, .int .u8 b2, .int .u16 b3, .string b4].toArray)).run Tryd.prog w = .ok (.bool (!(decide (a0 = b0) && (decide (a1 = b1) && (decide (a2 = b2) && (decide (a3 = b3) && (decide (a4 = b4) && true))))))) w := by
  have h := eqS (P := Tryd.prog) (t := 63) (xs := [.int .u64 a0, .int .u64 a1, .int .u8 a2, .int .u16 a3, .string a4].toArray) (ys := [.int .u64 b0, .int .u64 b1, .int .u8 b2, .int .u16 b3, .string b4].toArray) (w := w) Tryd.underlying63 (by kernel_rfl) (eqf_cons (by decide) (run_part_one ag22_u3c rfl w) (run_part_one ag22_u3c rfl w) (run_equalIn_int w _ _ _ _ _ _ Tryd.underlying22) (eqf_cons (by decide) (run_part_one ag22_u3c rfl w) (run_part_one ag22_u3c rfl w) (run_equalIn_int w _ _ _ _ _ _ Tryd.underlying22) (eqf_cons (by decide) (run_part_one ag5_u3c rfl w) (run_part_one ag5_u3c rfl w) (run_equalIn_int w _ _ _ _ _ _ Tryd.underlying5) (eqf_cons (by decide) (run_part_one ag58_u3c rfl w) (run_part_one ag58_u3c rfl w) (run_equalIn_int w _ _ _ _ _ _ Tryd.underlying58) (eqf_cons (by decide) (run_part_one ag9_u3c rfl w) (run_part_one ag9_u3c rfl w) (run_equalIn_string w _ _ _ _ Tryd.underlying9) eqf_nil)))))
  simp only [str_beq, beq_dec, Bool.and_assoc, Bool.true_and] at h
  exact h

theorem eq_Lin_g (op : BinOp) (t u : Operand) (xs ys : Array Value) (w : World) : (eqGuard op 63 t u (.agg xs) (.agg ys)).run Tryd.prog w = .ok () w := run_eqGuard_agg w op 63 t u _ _ (by kernel_rfl)

def F_ris_b0 (p0 : Rpl) (x_1 : (Rpl)) (t_3 : Int) : Option ((Int) ⊕ ((Bool) ⊕ (Unit))) :=
  ifb (decide (t_3 < (p0.Rows.length : Int))) (ixb p0.Rows t_3 fun x_5 => ixb x_1.Rows t_3 fun x_6 => ifb (!(decide (x_5.Key = x_6.Key) && (decide (x_5.Value = x_6.Value) && true))) (some (.inr (.inl false))) (some (.inl (IntKind.i64.wrap (t_3 + 1))))) (some (.inr (.inr ())))
def F_ris_b1 (p0 : Rpl) (x_1 : (Rpl)) (t_8 : Int) : Option ((Int) ⊕ ((Bool) ⊕ (Unit))) :=
  ifb (decide (t_8 < (p0.Refs.length : Int))) (ixb p0.Refs t_8 fun x_10 => ixb x_1.Refs t_8 fun x_11 => ifb (!(decide (x_10.Slot = x_11.Slot) && (decide (x_10.Gen = x_11.Gen) && true))) (some (.inr (.inl false))) (some (.inl (IntKind.i64.wrap (t_8 + 1))))) (some (.inr (.inr ())))
def F_ris_b2 (p0 : Rpl) (x_1 : (Rpl)) (t_13 : Int) : Option ((Int) ⊕ ((Bool) ⊕ (Unit))) :=
  ifb (decide (t_13 < (p0.Lines.length : Int))) (ixb p0.Lines t_13 fun x_15 => ixb x_1.Lines t_13 fun x_16 => ifb (!(decide (x_15.Seq = x_16.Seq) && (decide (x_15.Who = x_16.Who) && (decide (x_15.What = x_16.What) && (decide (x_15.Code = x_16.Code) && (decide (x_15.Key = x_16.Key) && true)))))) (some (.inr (.inl false))) (some (.inl (IntKind.i64.wrap (t_13 + 1))))) (some (.inr (.inr ())))
def F_ris (fl : Nat) (p0 : Rpl) (p1 : Rpl) : Option (Bool) :=
  bnd (F_rgive fl p1) fun x_1 => ifb (((((((decide (p0.Code ≠ x_1.Code)) || (decide (p0.N ≠ x_1.N))) || (p0.Found != x_1.Found)) || (decide (p0.Value ≠ x_1.Value))) || (decide ((p0.Rows.length : Int) ≠ (x_1.Rows.length : Int)))) || (decide ((p0.Refs.length : Int) ≠ (x_1.Refs.length : Int)))) || (decide ((p0.Lines.length : Int) ≠ (x_1.Lines.length : Int)))) (some false) (bnd (lp (F_ris_b0 p0 x_1) fl 0) fun z_2 => ocs z_2 (fun qz_2_0 => some qz_2_0) fun z_2_0 => bnd (lp (F_ris_b1 p0 x_1) fl 0) fun z_7 => ocs z_7 (fun qz_7_0 => some qz_7_0) fun z_7_0 => bnd (lp (F_ris_b2 p0 x_1) fl 0) fun z_12 => ocs z_12 (fun qz_12_0 => some qz_12_0) fun z_12_0 => some true)
set_option maxRecDepth 100000 in
set_option maxHeartbeats 2000000 in
theorem c_ris {fl : Nat} {p0 : Rpl} {p1 : Rpl} {R : Bool} (h0 : F_ris fl p0 p1 = some R) : Pure Tryd.prog 57 [agg [pl (.int .i64 p0.Code), pl (.int .u64 p0.N), pl (.bool p0.Found), pl (.string p0.Value), sl kEnt none none p0.Rows, sl kRf none none p0.Refs, sl kLin none none p0.Lines], agg [pl (.int .i64 p1.Code), pl (.int .u64 p1.N), pl (.bool p1.Found), pl (.string p1.Value), sl kEnt none none p1.Rows, sl kRf none none p1.Refs, sl kLin none none p1.Lines]] (pl (.bool R)) := by
  intro s
  unfold F_ris at h0
  refine ac_of_aw s.boxes.length s.fr.length Tryd.func57 rfl (by simp [Tryd.ntmps57]) ?_
  refine aw_ext0 ?_
  refine aw_keep [(0, _), (1, _)] ⟨lg ez, lg (es ez), trivial⟩ ?_
  refine aw_seq ?_
  refine aw_region (by decide) ?_
  refine rts _ rfl (boxAN rfl oz (zbc zPb (zbc zPb (zbc zPb (zbc zPb (zbc (sl_b kb_Ent) (zbc (sl_b kb_Rf) (zbc (sl_b kb_Lin) bnd_nil))))))) (by first | exact List.length_nil | (simp only [List.length_cons, List.length_nil, Nat.zero_add, Nat.reduceAdd] <;> rfl)) (by simp only [znz] <;> rfl)) ?_
  refine rts _ rfl (boxAN rfl (ls rfl (os rfl oz)) (zbc zPb (zbc zPb (zbc zPb (zbc zPb (zbc (sl_b kb_Ent) (zbc (sl_b kb_Rf) (zbc (sl_b kb_Lin) bnd_nil))))))) (by first | exact List.length_nil | (simp only [List.length_cons, List.length_nil, Nat.zero_add, Nat.reduceAdd] <;> rfl)) (by simp only [znz] <;> rfl)) ?_
  refine rts _ rfl (opD_assign (ev_const _ _)) ?_
  refine .nil ?_
  refine aw_keep [(2, _), (3, _)] ⟨lg (ls rfl (ls rfl lz)), lg (ls rfl lz), trivial⟩ ?_
  refine aw_seq ?_
  refine aw_region (by decide) ?_
  refine rts _ rfl (opD_load_aggX (qs := [_, _, _, _, _, _, _]) ag88_u3c sz88_u3c (os rfl oz) (loc_getN rfl rfl) (zNb rfl) rfl) ?_
  replace h0 := bnd_some h0
  obtain ⟨x_1, hx_1, h0⟩ := h0
  refine rts _ rfl (opD_pure ht52_u3c (c_rgive hx_1) ⟨(le_of_eq lz).trans (agg_le ⟨zLr, zLr, zLr, zLr, zLr, zLr, zLr, trivial⟩), trivial⟩) ?_
  refine rts _ rfl (allocN rfl zt94_u3c (by first | exact List.length_nil | (simp only [List.length_cons, List.length_nil, Nat.zero_add, Nat.reduceAdd] <;> rfl)) (by simp only [znz] <;> rfl)) ?_
  refine rts _ rfl (storeAN rfl sz94_u3c lz (ls rfl lz) (ones_cons (one_pl rfl) (ones_cons (one_pl rfl) (ones_cons (one_pl rfl) (ones_cons (one_pl rfl) (ones_cons (one_sl _ _ _ _) (ones_cons (one_sl _ _ _ _) (ones_cons (one_sl _ _ _ _) ones_nil))))))) rfl rfl (zNb rfl) (List.cons_ne_nil _ _) (zbc zPb (zbc zPb (zbc zPb (zbc zPb (zbc (sl_b kb_Ent) (zbc (sl_b kb_Rf) (zbc (sl_b kb_Lin) bnd_nil))))))) (by simp only [znz] <;> rfl) (by simp only [znz] <;> rfl)) ?_
  refine .nil ?_
  refine aw_keep [(2, _), (5, _)] ⟨lg (lx (ls rfl (ls rfl (ls rfl oz)))), lg (lx lz), trivial⟩ ?_
  refine aw_seq ?_
  refine aw_seq ?_
  refine aw_region (by decide) ?_
  refine rts _ rfl (opD_fieldAddr fo94_0_u3c oz) ?_
  refine rts _ rfl (opD_load_one ag3_u3c lz (loc_getN rfl rfl) rfl) ?_
  refine rts _ rfl (opD_fieldAddr fo94_0_u3c (ls rfl (ls rfl (os rfl oz)))) ?_
  refine rts _ rfl (opD_load_one ag3_u3c lz (loc_getN rfl rfl) rfl) ?_
  refine rts _ rfl (opD_neq (ls rfl (ls rfl lz)) lz) ?_
  refine rts _ rfl (opD_move lz) ?_
  refine rtg _ rfl lz (fun hg2_6_1 => opD_fieldAddr fo94_1_u3c (ls rfl (ls rfl (ls rfl (ls rfl (ls rfl (ls rfl oz))))))) ?_
  refine rtg _ rfl (ls rfl lz) (fun hg2_7_2 => opD_load_one ag22_u3c (lz.trans (pif_pos hg2_7_2)) (loc_getN rfl rfl) rfl) ?_
  refine rtg _ rfl (ls rfl (ls rfl lz)) (fun hg2_8_3 => opD_fieldAddr fo94_1_u3c (ls rfl (ls rfl (ls rfl (ls rfl (ls rfl (ls rfl (ls rfl (ls rfl (os rfl oz)))))))))) ?_
  refine rtg _ rfl (ls rfl (ls rfl (ls rfl lz))) (fun hg2_9_4 => opD_load_one ag22_u3c (lz.trans (pif_pos hg2_9_4)) (loc_getN rfl rfl) rfl) ?_
  refine rtg _ rfl (ls rfl (ls rfl (ls rfl (ls rfl lz)))) (fun hg2_10_5 => opD_neq ((ls rfl (ls rfl lz)).trans (pif_pos hg2_10_5)) (lz.trans (pif_pos hg2_10_5))) ?_
  refine rts _ rfl (opD_or (ls rfl (ls rfl (ls rfl (ls rfl (ls rfl lz))))) lz) ?_
  refine rts _ rfl (opD_move lz) ?_
  refine rtg _ rfl lz (fun hg2_13_6 => opD_fieldAddr fo94_2_u3c (ls rfl (ls rfl (ls rfl (ls rfl (ls rfl (ls rfl (ls rfl (ls rfl (ls rfl (ls rfl (ls rfl (ls rfl (ls rfl oz)))))))))))))) ?_
  refine rtg _ rfl (ls rfl lz) (fun hg2_14_7 => opD_load_one ag4_u3c (lz.trans (pif_pos hg2_14_7)) (loc_getN rfl rfl) rfl) ?_
  refine rtg _ rfl (ls rfl (ls rfl lz)) (fun hg2_15_8 => opD_fieldAddr fo94_2_u3c (ls rfl (ls rfl (ls rfl (ls rfl (ls rfl (ls rfl (ls rfl (ls rfl (ls rfl (ls rfl (ls rfl (ls rfl (ls rfl (ls rfl (ls rfl (os rfl oz))))))))))))))))) ?_
  refine rtg _ rfl (ls rfl (ls rfl (ls rfl lz))) (fun hg2_16_9 => opD_load_one ag4_u3c (lz.trans (pif_pos hg2_16_9)) (loc_getN rfl rfl) rfl) ?_
  refine rtg _ rfl (ls rfl (ls rfl (ls rfl (ls rfl lz)))) (fun hg2_17_10 => opD_bneq Tryd.underlying4 ((ls rfl (ls rfl lz)).trans (pif_pos hg2_17_10)) (lz.trans (pif_pos hg2_17_10))) ?_
  refine rts _ rfl (opD_or (ls rfl (ls rfl (ls rfl (ls rfl (ls rfl lz))))) lz) ?_
  refine rts _ rfl (opD_move lz) ?_
  refine rtg _ rfl lz (fun hg2_20_11 => opD_fieldAddr fo94_3_u3c (ls rfl (ls rfl (ls rfl (ls rfl (ls rfl (ls rfl (ls rfl (ls rfl (ls rfl (ls rfl (ls rfl (ls rfl (ls rfl (ls rfl (ls rfl (ls rfl (ls rfl (ls rfl (ls rfl (ls rfl oz))))))))))))))))))))) ?_
  refine rtg _ rfl (ls rfl lz) (fun hg2_21_12 => opD_load_one ag9_u3c (lz.trans (pif_pos hg2_21_12)) (loc_getN rfl rfl) rfl) ?_
  refine rtg _ rfl (ls rfl (ls rfl lz)) (fun hg2_22_13 => opD_fieldAddr fo94_3_u3c (ls rfl (ls rfl (ls rfl (ls rfl (ls rfl (ls rfl (ls rfl (ls rfl (ls rfl (ls rfl (ls rfl (ls rfl (ls rfl (ls rfl (ls rfl (ls rfl (ls rfl (ls rfl (ls rfl (ls rfl (ls rfl (ls rfl (os rfl oz)))))))))))))))))))))))) ?_
  refine rtg _ rfl (ls rfl (ls rfl (ls rfl lz))) (fun hg2_23_14 => opD_load_one ag9_u3c (lz.trans (pif_pos hg2_23_14)) (loc_getN rfl rfl) rfl) ?_
  refine rtg _ rfl (ls rfl (ls rfl (ls rfl (ls rfl lz)))) (fun hg2_24_15 => opD_sneq ((ls rfl (ls rfl lz)).trans (pif_pos hg2_24_15)) (lz.trans (pif_pos hg2_24_15))) ?_
  refine rts _ rfl (opD_or (ls rfl (ls rfl (ls rfl (ls rfl (ls rfl lz))))) lz) ?_
  refine rts _ rfl (opD_move lz) ?_
  refine rtg _ rfl lz (fun hg2_27_16 => opD_fieldAddr fo94_4_u3c (ls rfl (ls rfl (ls rfl (ls rfl (ls rfl (ls rfl (ls rfl (ls rfl (ls rfl (ls rfl (ls rfl (ls rfl (ls rfl (ls rfl (ls rfl (ls rfl (ls rfl (ls rfl (ls rfl (ls rfl (ls rfl (ls rfl (ls rfl (ls rfl (ls rfl (ls rfl (ls rfl oz)))))))))))))))))))))))))))) ?_
  refine rtg _ rfl (ls rfl lz) (fun hg2_28_17 => opD_load_one ag91_u3c (lz.trans (pif_pos hg2_28_17)) (loc_getN rfl rfl) rfl) ?_
  refine rtg _ rfl (ls rfl (ls rfl lz)) (fun hg2_29_18 => opD_len_sl Tryd.underlying91 (lz.trans (pif_pos hg2_29_18))) ?_
  refine rtg _ rfl (ls rfl (ls rfl (ls rfl lz))) (fun hg2_30_19 => opD_fieldAddr fo94_4_u3c (ls rfl (ls rfl (ls rfl (ls rfl (ls rfl (ls rfl (ls rfl (ls rfl (ls rfl (ls rfl (ls rfl (ls rfl (ls rfl (ls rfl (ls rfl (ls rfl (ls rfl (ls rfl (ls rfl (ls rfl (ls rfl (ls rfl (ls rfl (ls rfl (ls rfl (ls rfl (ls rfl (ls rfl (ls rfl (ls rfl (os rfl oz)))))))))))))))))))))))))))))))) ?_
  refine rtg _ rfl (ls rfl (ls rfl (ls rfl (ls rfl lz)))) (fun hg2_31_20 => opD_load_one ag91_u3c (lz.trans (pif_pos hg2_31_20)) (loc_getN rfl rfl) rfl) ?_
  refine rtg _ rfl (ls rfl (ls rfl (ls rfl (ls rfl (ls rfl lz))))) (fun hg2_32_21 => opD_len_sl Tryd.underlying91 (lz.trans (pif_pos hg2_32_21))) ?_
  refine rtg _ rfl (ls rfl (ls rfl (ls rfl (ls rfl (ls rfl (ls rfl lz)))))) (fun hg2_33_22 => opD_neq ((ls rfl (ls rfl (ls rfl lz))).trans (pif_pos hg2_33_22)) (lz.trans (pif_pos hg2_33_22))) ?_
  refine rts _ rfl (opD_or (ls rfl (ls rfl (ls rfl (ls rfl (ls rfl (ls rfl (ls rfl lz))))))) lz) ?_
  refine rts _ rfl (opD_move lz) ?_
  refine rtg _ rfl lz (fun hg2_36_23 => opD_fieldAddr fo94_5_u3c (ls rfl (ls rfl (ls rfl (ls rfl (ls rfl (ls rfl (ls rfl (ls rfl (ls rfl (ls rfl (ls rfl (ls rfl (ls rfl (ls rfl (ls rfl (ls rfl (ls rfl (ls rfl (ls rfl (ls rfl (ls rfl (ls rfl (ls rfl (ls rfl (ls rfl (ls rfl (ls rfl (ls rfl (ls rfl (ls rfl (ls rfl (ls rfl (ls rfl (ls rfl (ls rfl (ls rfl oz))))))))))))))))))))))))))))))))))))) ?_
  refine rtg _ rfl (ls rfl lz) (fun hg2_37_24 => opD_load_one ag92_u3c (lz.trans (pif_pos hg2_37_24)) (loc_getN rfl rfl) rfl) ?_
  refine rtg _ rfl (ls rfl (ls rfl lz)) (fun hg2_38_25 => opD_len_sl Tryd.underlying92 (lz.trans (pif_pos hg2_38_25))) ?_
  refine rtg _ rfl (ls rfl (ls rfl (ls rfl lz))) (fun hg2_39_26 => opD_fieldAddr fo94_5_u3c (ls rfl (ls rfl (ls rfl (ls rfl (ls rfl (ls rfl (ls rfl (ls rfl (ls rfl (ls rfl (ls rfl (ls rfl (ls rfl (ls rfl (ls rfl (ls rfl (ls rfl (ls rfl (ls rfl (ls rfl (ls rfl (ls rfl (ls rfl (ls rfl (ls rfl (ls rfl (ls rfl (ls rfl (ls rfl (ls rfl (ls rfl (ls rfl (ls rfl (ls rfl (ls rfl (ls rfl (ls rfl (ls rfl (ls rfl (os rfl oz))))))))))))))))))))))))))))))))))))))))) ?_
  refine rtg _ rfl (ls rfl (ls rfl (ls rfl (ls rfl lz)))) (fun hg2_40_27 => opD_load_one ag92_u3c (lz.trans (pif_pos hg2_40_27)) (loc_getN rfl rfl) rfl) ?_
  refine rtg _ rfl (ls rfl (ls rfl (ls rfl (ls rfl (ls rfl lz))))) (fun hg2_41_28 => opD_len_sl Tryd.underlying92 (lz.trans (pif_pos hg2_41_28))) ?_
  refine rtg _ rfl (ls rfl (ls rfl (ls rfl (ls rfl (ls rfl (ls rfl lz)))))) (fun hg2_42_29 => opD_neq ((ls rfl (ls rfl (ls rfl lz))).trans (pif_pos hg2_42_29)) (lz.trans (pif_pos hg2_42_29))) ?_
  refine rts _ rfl (opD_or (ls rfl (ls rfl (ls rfl (ls rfl (ls rfl (ls rfl (ls rfl lz))))))) lz) ?_
  refine rts _ rfl (opD_move lz) ?_
  refine rtg _ rfl lz (fun hg2_45_30 => opD_fieldAddr fo94_6_u3c (ls rfl (ls rfl (ls rfl (ls rfl (ls rfl (ls rfl (ls rfl (ls rfl (ls rfl (ls rfl (ls rfl (ls rfl (ls rfl (ls rfl (ls rfl (ls rfl (ls rfl (ls rfl (ls rfl (ls rfl (ls rfl (ls rfl (ls rfl (ls rfl (ls rfl (ls rfl (ls rfl (ls rfl (ls rfl (ls rfl (ls rfl (ls rfl (ls rfl (ls rfl (ls rfl (ls rfl (ls rfl (ls rfl (ls rfl (ls rfl (ls rfl (ls rfl (ls rfl (ls rfl (ls rfl oz)))))))))))))))))))))))))))))))))))))))))))))) ?_
  refine rtg _ rfl (ls rfl lz) (fun hg2_46_31 => opD_load_one ag55_u3c (lz.trans (pif_pos hg2_46_31)) (loc_getN rfl rfl) rfl) ?_
  refine rtg _ rfl (ls rfl (ls rfl lz)) (fun hg2_47_32 => opD_len_sl Tryd.underlying55 (lz.trans (pif_pos hg2_47_32))) ?_
  refine rtg _ rfl (ls rfl (ls rfl (ls rfl lz))) (fun hg2_48_33 => opD_fieldAddr fo94_6_u3c (ls rfl (ls rfl (ls rfl (ls rfl (ls rfl (ls rfl (ls rfl (ls rfl (ls rfl (ls rfl (ls rfl (ls rfl (ls rfl (ls rfl (ls rfl (ls rfl (ls rfl (ls rfl (ls rfl (ls rfl (ls rfl (ls rfl (ls rfl (ls rfl (ls rfl (ls rfl (ls rfl (ls rfl (ls rfl (ls rfl (ls rfl (ls rfl (ls rfl (ls rfl (ls rfl (ls rfl (ls rfl (ls rfl (ls rfl (ls rfl (ls rfl (ls rfl (ls rfl (ls rfl (ls rfl (ls rfl (ls rfl (ls rfl (os rfl oz)))))))))))))))))))))))))))))))))))))))))))))))))) ?_
  refine rtg _ rfl (ls rfl (ls rfl (ls rfl (ls rfl lz)))) (fun hg2_49_34 => opD_load_one ag55_u3c (lz.trans (pif_pos hg2_49_34)) (loc_getN rfl rfl) rfl) ?_
  refine rtg _ rfl (ls rfl (ls rfl (ls rfl (ls rfl (ls rfl lz))))) (fun hg2_50_35 => opD_len_sl Tryd.underlying55 (lz.trans (pif_pos hg2_50_35))) ?_
  refine rtg _ rfl (ls rfl (ls rfl (ls rfl (ls rfl (ls rfl (ls rfl lz)))))) (fun hg2_51_36 => opD_neq ((ls rfl (ls rfl (ls rfl lz))).trans (pif_pos hg2_51_36)) (lz.trans (pif_pos hg2_51_36))) ?_
  refine rts _ rfl (opD_or (ls rfl (ls rfl (ls rfl (ls rfl (ls rfl (ls rfl (ls rfl lz))))))) lz) ?_
  refine .nil ?_
  refine aw_keep [(2, _), (5, _), (63, _)] ⟨lg (ls rfl (ls rfl (ls rfl (ls rfl (ls rfl (ls rfl (ls rfl (ls rfl (ls rfl (ls rfl (ls rfl (ls rfl (ls rfl (ls rfl (ls rfl (ls rfl (ls rfl (ls rfl (ls rfl (ls rfl (ls rfl (ls rfl (ls rfl (ls rfl (ls rfl (ls rfl (ls rfl (ls rfl (ls rfl (ls rfl (ls rfl (ls rfl (ls rfl (ls rfl (ls rfl (ls rfl (ls rfl (ls rfl (ls rfl (ls rfl (ls rfl (ls rfl (ls rfl (ls rfl (ls rfl (ls rfl (ls rfl (ls rfl (ls rfl (ls rfl (ls rfl (ls rfl (ls rfl oz))))))))))))))))))))))))))))))))))))))))))))))))))))), lg (ls rfl (ls rfl (ls rfl (ls rfl (ls rfl (ls rfl (ls rfl (ls rfl (ls rfl (ls rfl (ls rfl (ls rfl (ls rfl (ls rfl (ls rfl (ls rfl (ls rfl (ls rfl (ls rfl (ls rfl (ls rfl (ls rfl (ls rfl (ls rfl (ls rfl (ls rfl (ls rfl (ls rfl (ls rfl (ls rfl (ls rfl (ls rfl (ls rfl (ls rfl (ls rfl (ls rfl (ls rfl (ls rfl (ls rfl (ls rfl (ls rfl (ls rfl (ls rfl (ls rfl (ls rfl (ls rfl (ls rfl (ls rfl (ls rfl (ls rfl (ls rfl (ls rfl (ls rfl (os rfl oz)))))))))))))))))))))))))))))))))))))))))))))))))))))), lg lz, trivial⟩ ?_
  refine aw_cond _ (os rfl (os rfl oz)) (fun hc => ?_) (fun hc => ?_)
  · skip
    replace h0 := ifb_t h0 hc
    clear hc
    refine aw_seq ?_
    refine aw_region (by decide) ?_
    refine rts _ rfl (opD_assign (ev_const _ _)) ?_
    refine .nil ?_
    refine aw_keep [(4, _)] ⟨lg lz, trivial⟩ ?_
    refine aw_ret ?_
    obtain rfl := some_of h0
    exact done_ext (.inr rfl) ((res_one rfl (it_tmp oz)).le zLr) zPb
  · skip
    replace h0 := ifb_f h0 hc
    clear hc
    refine aw_skip ?_
    refine aw_keep [(2, _), (5, _)] ⟨lg oz, lg (os rfl oz), trivial⟩ ?_
    refine aw_seq ?_
    refine aw_seq ?_
    refine aw_region (by decide) ?_
    refine rts _ rfl (opD_assign (ev_const _ _)) ?_
    refine .nil ?_
    refine aw_keep [(2, _), (5, _), (6, _)] ⟨lg (ls rfl oz), lg (ls rfl (os rfl oz)), lg lz, trivial⟩ ?_
    replace h0 := bnd_some h0
    obtain ⟨z_2, hz_2, h0⟩ := h0
    refine aw_mid (fun e st => ∃ v : Unit, Holds e [(2, ptr (s.boxes.length + 0) 0), (5, ptr (s.boxes.length + 2) 0)] ∧ st = s.ext [⟨94, [pl (.int .i64 p0.Code), pl (.int .u64 p0.N), pl (.bool p0.Found), pl (.string p0.Value), sl kEnt none none p0.Rows, sl kRf none none p0.Refs, sl kLin none none p0.Lines]⟩, ⟨88, [pl (.int .i64 p1.Code), pl (.int .u64 p1.N), pl (.bool p1.Found), pl (.string p1.Value), sl kEnt none none p1.Rows, sl kRf none none p1.Refs, sl kLin none none p1.Lines]⟩, ⟨94, [pl (.int .i64 x_1.Code), pl (.int .u64 x_1.N), pl (.bool x_1.Found), pl (.string x_1.Value), sl kEnt none none x_1.Rows, sl kRf none none x_1.Refs, sl kLin none none x_1.Lines]⟩] [] ∧ (.inr v) = z_2) ?_ ?_
    · skip
      refine aw_wkN rfl 3 0 rfl rfl ?_
      refine aw_block ?_
      refine aw_loop (fun n e st => ∃ v : Int, Holds e [(2, ptr (s.boxes.length + 0) 0), (5, ptr (s.boxes.length + 2) 0), (6, pl (.int .i64 v))] ∧ st = s.ext [⟨94, [pl (.int .i64 p0.Code), pl (.int .u64 p0.N), pl (.bool p0.Found), pl (.string p0.Value), sl kEnt none none p0.Rows, sl kRf none none p0.Refs, sl kLin none none p0.Lines]⟩, ⟨88, [pl (.int .i64 p1.Code), pl (.int .u64 p1.N), pl (.bool p1.Found), pl (.string p1.Value), sl kEnt none none p1.Rows, sl kRf none none p1.Refs, sl kLin none none p1.Lines]⟩, ⟨94, [pl (.int .i64 x_1.Code), pl (.int .u64 x_1.N), pl (.bool x_1.Found), pl (.string x_1.Value), sl kEnt none none x_1.Rows, sl kRf none none x_1.Refs, sl kLin none none x_1.Lines]⟩] [] ∧ lp (F_ris_b0 p0 x_1) n v = some z_2) fl ⟨0, ⟨le_of_eq (eg oz), le_of_eq (eg (os rfl oz)), le_of_eq (eg (os rfl (os rfl oz))), trivial⟩, rfl, hz_2⟩ ?_
      rintro n e st ⟨t_3, hH, rfl, hz_2⟩
      replace hz_2 := lp_some hz_2
      obtain ⟨m_z_4, z_4, rfl, hz_4, hz_2⟩ := hz_2
      unfold F_ris_b0 at hz_4
      refine aw_keep _ hH ?_
      refine aw_wkN rfl 3 0 rfl rfl ?_
      refine aw_seq ?_
      refine aw_seq ?_
      refine aw_region (by decide) ?_
      refine rts _ rfl (opD_move (os rfl (os rfl oz))) ?_
      refine rts _ rfl (opD_fieldAddr fo94_4_u3c (ls rfl oz)) ?_
      refine rts _ rfl (opD_load_one ag91_u3c lz (loc_getN rfl rfl) rfl) ?_
      refine rts _ rfl (opD_len_sl Tryd.underlying91 lz) ?_
      refine rts _ rfl (opD_lss (ls rfl (ls rfl (ls rfl lz))) lz) ?_
      refine .nil ?_
      refine aw_keep [(2, _), (5, _), (6, _), (68, _)] ⟨lg (ls rfl (ls rfl (ls rfl (ls rfl (ls rfl oz))))), lg (ls rfl (ls rfl (ls rfl (ls rfl (ls rfl (os rfl oz)))))), lg (ls rfl (ls rfl (ls rfl (ls rfl (ls rfl (os rfl (os rfl oz))))))), lg lz, trivial⟩ ?_
      refine aw_cond _ (os rfl (os rfl (os rfl oz))) (fun hc => ?_) (fun hc => ?_)
      · skip
        replace hz_4 := ifb_t hz_4 hc
        clear hc
        refine aw_skip ?_
        refine aw_keep [(2, _), (5, _), (6, _)] ⟨lg oz, lg (os rfl oz), lg (os rfl (os rfl oz)), trivial⟩ ?_
        refine aw_seq ?_
        refine aw_block ?_
        refine aw_seq ?_
        refine aw_flat mixed_u3c (by decide +kernel) ?_
        refine zts _ rfl (opD_fieldAddr fo94_4_u3c oz) ?_
        refine zts _ rfl (opD_load_one ag91_u3c lz (loc_getN rfl rfl) rfl) ?_
        refine zts _ rfl (opD_move (ls rfl (ls rfl (os rfl (os rfl oz))))) ?_
        replace hz_4 := ixb_some hz_4
        obtain ⟨x_5, hx_5, hbx_5, hz_4⟩ := hz_4
        refine zts _ rfl (opD_indexAddr_sl (i := t_3.toNat) Tryd.underlying91 sz109_u3c (ls rfl lz) lz hbx_5.2.2 hbx_5.2.1) ?_
        refine zts _ rfl (opD_load_el_aggX (qs := [_, _]) ag109_u3c sz109_u3c lz hx_5 (zNb rfl) rfl) ?_
        refine zts _ rfl (opD_fieldAddr fo94_4_u3c (ls rfl (ls rfl (ls rfl (ls rfl (ls rfl (os rfl oz))))))) ?_
        refine zts _ rfl (opD_load_one ag91_u3c lz (loc_getN rfl rfl) rfl) ?_
        refine zts _ rfl (opD_move (ls rfl (ls rfl (ls rfl (ls rfl (ls rfl (ls rfl (ls rfl (os rfl (os rfl oz)))))))))) ?_
        replace hz_4 := ixb_some hz_4
        obtain ⟨x_6, hx_6, hbx_6, hz_4⟩ := hz_4
        refine zts _ rfl (opD_indexAddr_sl (i := t_3.toNat) Tryd.underlying91 sz109_u3c (ls rfl lz) lz hbx_6.2.2 hbx_6.2.1) ?_
        refine zts _ rfl (opD_load_el_aggX (qs := [_, _]) ag109_u3c sz109_u3c lz hx_6 (zNb rfl) rfl) ?_
        refine zts _ rfl (opD_binA [.string x_5.Key, .string x_5.Value] [.string x_6.Key, .string x_6.Value] (ls rfl (ls rfl (ls rfl (ls rfl (ls rfl lz))))) lz (fun w => (eq_Ent_g _ _ _ _ _ w)) (fun w => (eq_Ent _ _ _ _ w).2)) ?_
        refine .nil ?_
        refine aw_keep [(2, _), (5, _), (6, _), (81, _)] ⟨lg (ls rfl (ls rfl (ls rfl (ls rfl (ls rfl (ls rfl (ls rfl (ls rfl (ls rfl (ls rfl (ls rfl oz))))))))))), lg (ls rfl (ls rfl (ls rfl (ls rfl (ls rfl (ls rfl (ls rfl (ls rfl (ls rfl (ls rfl (ls rfl (os rfl oz)))))))))))), lg (ls rfl (ls rfl (ls rfl (ls rfl (ls rfl (ls rfl (ls rfl (ls rfl (ls rfl (ls rfl (ls rfl (os rfl (os rfl oz))))))))))))), lg lz, trivial⟩ ?_
        refine aw_cond _ (os rfl (os rfl (os rfl oz))) (fun hc => ?_) (fun hc => ?_)
        · skip
          replace hz_4 := ifb_t hz_4 hc
          clear hc
          refine aw_seq ?_
          refine aw_region (by decide) ?_
          refine rts _ rfl (opD_assign (ev_const _ _)) ?_
          refine .nil ?_
          refine aw_keep [(4, _)] ⟨lg lz, trivial⟩ ?_
          refine aw_ret ?_
          obtain rfl := some_of hz_4
          replace hz_2 := ocs_r hz_2
          obtain rfl := some_of hz_2
          replace h0 := ocs_l h0
          refine wk_no ?_
          refine wk_no ?_
          obtain rfl := some_of h0
          exact done_ext (.inr rfl) ((res_one rfl (it_tmp oz)).le zLr) zPb
        · skip
          replace hz_4 := ifb_f hz_4 hc
          clear hc
          refine aw_skip ?_
          refine aw_keep [(2, _), (5, _), (6, _)] ⟨lg oz, lg (os rfl oz), lg (os rfl (os rfl oz)), trivial⟩ ?_
          refine aw_region (by decide) ?_
          refine rts _ rfl (opD_move (os rfl (os rfl oz))) ?_
          refine rts _ rfl (opD_add lz (ev_const _ _) rfl) ?_
          refine rts _ rfl (opD_assign lz) ?_
          refine .nil ?_
          obtain rfl := some_of hz_4
          replace hz_2 := ocs_l hz_2
          refine wk_yesN rfl (l := [(2, ptr (s.boxes.length + 0) 0), (5, ptr (s.boxes.length + 2) 0), (6, pl (.int .i64 (IntKind.i64.wrap (t_3 + 1))))]) (bs' := [⟨94, [pl (.int .i64 p0.Code), pl (.int .u64 p0.N), pl (.bool p0.Found), pl (.string p0.Value), sl kEnt none none p0.Rows, sl kRf none none p0.Refs, sl kLin none none p0.Lines]⟩, ⟨88, [pl (.int .i64 p1.Code), pl (.int .u64 p1.N), pl (.bool p1.Found), pl (.string p1.Value), sl kEnt none none p1.Rows, sl kRf none none p1.Refs, sl kLin none none p1.Lines]⟩, ⟨94, [pl (.int .i64 x_1.Code), pl (.int .u64 x_1.N), pl (.bool x_1.Found), pl (.string x_1.Value), sl kEnt none none x_1.Rows, sl kRf none none x_1.Refs, sl kLin none none x_1.Lines]⟩]) ⟨le_of_eq (eg (ls rfl (ls rfl (ls rfl oz)))), le_of_eq (eg (ls rfl (ls rfl (ls rfl (os rfl oz))))), le_of_eq (eg lz), trivial⟩ (zbc (ptr_bnd _ (by first | omega | (simp only [List.length_append, List.length_cons, List.length_nil]; omega))) (zbc (ptr_bnd _ (by first | omega | (simp only [List.length_append, List.length_cons, List.length_nil]; omega))) (zbc zPb bnd_nil))) (zNb rfl) (by simp only [znz] <;> rfl) (bxle_same (bxle_same (bxle_same bxle_nil))) rfl (by simp only [znz] <;> rfl) (bl_cons (zbc zPb (zbc zPb (zbc zPb (zbc zPb (zbc (sl_b kb_Ent) (zbc (sl_b kb_Rf) (zbc (sl_b kb_Lin) bnd_nil))))))) (bl_cons (zbc zPb (zbc zPb (zbc zPb (zbc zPb (zbc (sl_b kb_Ent) (zbc (sl_b kb_Rf) (zbc (sl_b kb_Lin) bnd_nil))))))) (bl_cons (zbc zPb (zbc zPb (zbc zPb (zbc zPb (zbc (sl_b kb_Ent) (zbc (sl_b kb_Rf) (zbc (sl_b kb_Lin) bnd_nil))))))) bl_nil))) ?_
          exact ⟨m_z_4, Nat.lt_succ_self _, IntKind.i64.wrap (t_3 + 1), ⟨le_of_eq (eg oz), le_of_eq (eg (os rfl oz)), le_of_eq (eg (os rfl (os rfl oz))), trivial⟩, rfl, hz_2⟩
      · skip
        replace hz_4 := ifb_f hz_4 hc
        clear hc
        refine aw_exit ?_
        obtain rfl := some_of hz_4
        replace hz_2 := ocs_r hz_2
        refine wk_no ?_
        refine wk_yesN rfl (l := [(2, ptr (s.boxes.length + 0) 0), (5, ptr (s.boxes.length + 2) 0)]) (bs' := [⟨94, [pl (.int .i64 p0.Code), pl (.int .u64 p0.N), pl (.bool p0.Found), pl (.string p0.Value), sl kEnt none none p0.Rows, sl kRf none none p0.Refs, sl kLin none none p0.Lines]⟩, ⟨88, [pl (.int .i64 p1.Code), pl (.int .u64 p1.N), pl (.bool p1.Found), pl (.string p1.Value), sl kEnt none none p1.Rows, sl kRf none none p1.Refs, sl kLin none none p1.Lines]⟩, ⟨94, [pl (.int .i64 x_1.Code), pl (.int .u64 x_1.N), pl (.bool x_1.Found), pl (.string x_1.Value), sl kEnt none none x_1.Rows, sl kRf none none x_1.Refs, sl kLin none none x_1.Lines]⟩]) ⟨le_of_eq (eg oz), le_of_eq (eg (os rfl oz)), trivial⟩ (zbc (ptr_bnd _ (by first | omega | (simp only [List.length_append, List.length_cons, List.length_nil]; omega))) (zbc (ptr_bnd _ (by first | omega | (simp only [List.length_append, List.length_cons, List.length_nil]; omega))) bnd_nil)) (zNb rfl) (by simp only [znz] <;> rfl) (bxle_same (bxle_same (bxle_same bxle_nil))) rfl (by simp only [znz] <;> rfl) (bl_cons (zbc zPb (zbc zPb (zbc zPb (zbc zPb (zbc (sl_b kb_Ent) (zbc (sl_b kb_Rf) (zbc (sl_b kb_Lin) bnd_nil))))))) (bl_cons (zbc zPb (zbc zPb (zbc zPb (zbc zPb (zbc (sl_b kb_Ent) (zbc (sl_b kb_Rf) (zbc (sl_b kb_Lin) bnd_nil))))))) (bl_cons (zbc zPb (zbc zPb (zbc zPb (zbc zPb (zbc (sl_b kb_Ent) (zbc (sl_b kb_Rf) (zbc (sl_b kb_Lin) bnd_nil))))))) bl_nil))) ?_
        exact ⟨(), ⟨le_of_eq (eg oz), le_of_eq (eg (os rfl oz)), trivial⟩, rfl, some_of hz_2⟩
    · rintro e st ⟨vz_2, hH, rfl, rfl⟩
      refine aw_keep _ hH ?_
      replace h0 := ocs_r h0
      refine aw_keep [(2, _), (5, _)] ⟨lg oz, lg (os rfl oz), trivial⟩ ?_
      refine aw_seq ?_
      refine aw_seq ?_
      refine aw_region (by decide) ?_
      refine rts _ rfl (opD_assign (ev_const _ _)) ?_
      refine .nil ?_
      refine aw_keep [(2, _), (5, _), (7, _)] ⟨lg (ls rfl oz), lg (ls rfl (os rfl oz)), lg lz, trivial⟩ ?_
      replace h0 := bnd_some h0
      obtain ⟨z_7, hz_7, h0⟩ := h0
      refine aw_mid (fun e st => ∃ v : Unit, Holds e [(2, ptr (s.boxes.length + 0) 0), (5, ptr (s.boxes.length + 2) 0)] ∧ st = s.ext [⟨94, [pl (.int .i64 p0.Code), pl (.int .u64 p0.N), pl (.bool p0.Found), pl (.string p0.Value), sl kEnt none none p0.Rows, sl kRf none none p0.Refs, sl kLin none none p0.Lines]⟩, ⟨88, [pl (.int .i64 p1.Code), pl (.int .u64 p1.N), pl (.bool p1.Found), pl (.string p1.Value), sl kEnt none none p1.Rows, sl kRf none none p1.Refs, sl kLin none none p1.Lines]⟩, ⟨94, [pl (.int .i64 x_1.Code), pl (.int .u64 x_1.N), pl (.bool x_1.Found), pl (.string x_1.Value), sl kEnt none none x_1.Rows, sl kRf none none x_1.Refs, sl kLin none none x_1.Lines]⟩] [] ∧ (.inr v) = z_7) ?_ ?_
      · skip
        refine aw_wkN rfl 3 0 rfl rfl ?_
        refine aw_block ?_
        refine aw_loop (fun n e st => ∃ v : Int, Holds e [(2, ptr (s.boxes.length + 0) 0), (5, ptr (s.boxes.length + 2) 0), (7, pl (.int .i64 v))] ∧ st = s.ext [⟨94, [pl (.int .i64 p0.Code), pl (.int .u64 p0.N), pl (.bool p0.Found), pl (.string p0.Value), sl kEnt none none p0.Rows, sl kRf none none p0.Refs, sl kLin none none p0.Lines]⟩, ⟨88, [pl (.int .i64 p1.Code), pl (.int .u64 p1.N), pl (.bool p1.Found), pl (.string p1.Value), sl kEnt none none p1.Rows, sl kRf none none p1.Refs, sl kLin none none p1.Lines]⟩, ⟨94, [pl (.int .i64 x_1.Code), pl (.int .u64 x_1.N), pl (.bool x_1.Found), pl (.string x_1.Value), sl kEnt none none x_1.Rows, sl kRf none none x_1.Refs, sl kLin none none x_1.Lines]⟩] [] ∧ lp (F_ris_b1 p0 x_1) n v = some z_7) fl ⟨0, ⟨le_of_eq (eg oz), le_of_eq (eg (os rfl oz)), le_of_eq (eg (os rfl (os rfl oz))), trivial⟩, rfl, hz_7⟩ ?_
        rintro n e st ⟨t_8, hH, rfl, hz_7⟩
        replace hz_7 := lp_some hz_7
        obtain ⟨m_z_9, z_9, rfl, hz_9, hz_7⟩ := hz_7
        unfold F_ris_b1 at hz_9
        refine aw_keep _ hH ?_
        refine aw_wkN rfl 3 0 rfl rfl ?_
        refine aw_seq ?_
        refine aw_seq ?_
        refine aw_region (by decide) ?_
        refine rts _ rfl (opD_move (os rfl (os rfl oz))) ?_
        refine rts _ rfl (opD_fieldAddr fo94_5_u3c (ls rfl oz)) ?_
        refine rts _ rfl (opD_load_one ag92_u3c lz (loc_getN rfl rfl) rfl) ?_
        refine rts _ rfl (opD_len_sl Tryd.underlying92 lz) ?_
        refine rts _ rfl (opD_lss (ls rfl (ls rfl (ls rfl lz))) lz) ?_
        refine .nil ?_
        refine aw_keep [(2, _), (5, _), (7, _), (86, _)] ⟨lg (ls rfl (ls rfl (ls rfl (ls rfl (ls rfl oz))))), lg (ls rfl (ls rfl (ls rfl (ls rfl (ls rfl (os rfl oz)))))), lg (ls rfl (ls rfl (ls rfl (ls rfl (ls rfl (os rfl (os rfl oz))))))), lg lz, trivial⟩ ?_
        refine aw_cond _ (os rfl (os rfl (os rfl oz))) (fun hc => ?_) (fun hc => ?_)
        · skip
          replace hz_9 := ifb_t hz_9 hc
          clear hc
          refine aw_skip ?_
          refine aw_keep [(2, _), (5, _), (7, _)] ⟨lg oz, lg (os rfl oz), lg (os rfl (os rfl oz)), trivial⟩ ?_
          refine aw_seq ?_
          refine aw_block ?_
          refine aw_seq ?_
          refine aw_flat mixed_u3c (by decide +kernel) ?_
          refine zts _ rfl (opD_fieldAddr fo94_5_u3c oz) ?_
          refine zts _ rfl (opD_load_one ag92_u3c lz (loc_getN rfl rfl) rfl) ?_
          refine zts _ rfl (opD_move (ls rfl (ls rfl (os rfl (os rfl oz))))) ?_
          replace hz_9 := ixb_some hz_9
          obtain ⟨x_10, hx_10, hbx_10, hz_9⟩ := hz_9
          refine zts _ rfl (opD_indexAddr_sl (i := t_8.toNat) Tryd.underlying92 sz116_u3c (ls rfl lz) lz hbx_10.2.2 hbx_10.2.1) ?_
          refine zts _ rfl (opD_load_el_aggX (qs := [_, _]) ag116_u3c sz116_u3c lz hx_10 (zNb rfl) rfl) ?_
          refine zts _ rfl (opD_fieldAddr fo94_5_u3c (ls rfl (ls rfl (ls rfl (ls rfl (ls rfl (os rfl oz))))))) ?_
          refine zts _ rfl (opD_load_one ag92_u3c lz (loc_getN rfl rfl) rfl) ?_
          refine zts _ rfl (opD_move (ls rfl (ls rfl (ls rfl (ls rfl (ls rfl (ls rfl (ls rfl (os rfl (os rfl oz)))))))))) ?_
          replace hz_9 := ixb_some hz_9
          obtain ⟨x_11, hx_11, hbx_11, hz_9⟩ := hz_9
          refine zts _ rfl (opD_indexAddr_sl (i := t_8.toNat) Tryd.underlying92 sz116_u3c (ls rfl lz) lz hbx_11.2.2 hbx_11.2.1) ?_
          refine zts _ rfl (opD_load_el_aggX (qs := [_, _]) ag116_u3c sz116_u3c lz hx_11 (zNb rfl) rfl) ?_
          refine zts _ rfl (opD_binA [.int .i64 x_10.Slot, .int .u64 x_10.Gen] [.int .i64 x_11.Slot, .int .u64 x_11.Gen] (ls rfl (ls rfl (ls rfl (ls rfl (ls rfl lz))))) lz (fun w => (eq_Rf_g _ _ _ _ _ w)) (fun w => (eq_Rf _ _ _ _ w).2)) ?_
          refine .nil ?_
          refine aw_keep [(2, _), (5, _), (7, _), (99, _)] ⟨lg (ls rfl (ls rfl (ls rfl (ls rfl (ls rfl (ls rfl (ls rfl (ls rfl (ls rfl (ls rfl (ls rfl oz))))))))))), lg (ls rfl (ls rfl (ls rfl (ls rfl (ls rfl (ls rfl (ls rfl (ls rfl (ls rfl (ls rfl (ls rfl (os rfl oz)))))))))))), lg (ls rfl (ls rfl (ls rfl (ls rfl (ls rfl (ls rfl (ls rfl (ls rfl (ls rfl (ls rfl (ls rfl (os rfl (os rfl oz))))))))))))), lg lz, trivial⟩ ?_
          refine aw_cond _ (os rfl (os rfl (os rfl oz))) (fun hc => ?_) (fun hc => ?_)
          · skip
            replace hz_9 := ifb_t hz_9 hc
            clear hc
            refine aw_seq ?_
            refine aw_region (by decide) ?_
            refine rts _ rfl (opD_assign (ev_const _ _)) ?_
            refine .nil ?_
            refine aw_keep [(4, _)] ⟨lg lz, trivial⟩ ?_
            refine aw_ret ?_
            obtain rfl := some_of hz_9
            replace hz_7 := ocs_r hz_7
            obtain rfl := some_of hz_7
            replace h0 := ocs_l h0
            refine wk_no ?_
            refine wk_no ?_
            obtain rfl := some_of h0
            exact done_ext (.inr rfl) ((res_one rfl (it_tmp oz)).le zLr) zPb
          · skip
            replace hz_9 := ifb_f hz_9 hc
            clear hc
            refine aw_skip ?_
            refine aw_keep [(2, _), (5, _), (7, _)] ⟨lg oz, lg (os rfl oz), lg (os rfl (os rfl oz)), trivial⟩ ?_
            refine aw_region (by decide) ?_
            refine rts _ rfl (opD_move (os rfl (os rfl oz))) ?_
            refine rts _ rfl (opD_add lz (ev_const _ _) rfl) ?_
            refine rts _ rfl (opD_assign lz) ?_
            refine .nil ?_
            obtain rfl := some_of hz_9
            replace hz_7 := ocs_l hz_7
            refine wk_yesN rfl (l := [(2, ptr (s.boxes.length + 0) 0), (5, ptr (s.boxes.length + 2) 0), (7, pl (.int .i64 (IntKind.i64.wrap (t_8 + 1))))]) (bs' := [⟨94, [pl (.int .i64 p0.Code), pl (.int .u64 p0.N), pl (.bool p0.Found), pl (.string p0.Value), sl kEnt none none p0.Rows, sl kRf none none p0.Refs, sl kLin none none p0.Lines]⟩, ⟨88, [pl (.int .i64 p1.Code), pl (.int .u64 p1.N), pl (.bool p1.Found), pl (.string p1.Value), sl kEnt none none p1.Rows, sl kRf none none p1.Refs, sl kLin none none p1.Lines]⟩, ⟨94, [pl (.int .i64 x_1.Code), pl (.int .u64 x_1.N), pl (.bool x_1.Found), pl (.string x_1.Value), sl kEnt none none x_1.Rows, sl kRf none none x_1.Refs, sl kLin none none x_1.Lines]⟩]) ⟨le_of_eq (eg (ls rfl (ls rfl (ls rfl oz)))), le_of_eq (eg (ls rfl (ls rfl (ls rfl (os rfl oz))))), le_of_eq (eg lz), trivial⟩ (zbc (ptr_bnd _ (by first | omega | (simp only [List.length_append, List.length_cons, List.length_nil]; omega))) (zbc (ptr_bnd _ (by first | omega | (simp only [List.length_append, List.length_cons, List.length_nil]; omega))) (zbc zPb bnd_nil))) (zNb rfl) (by simp only [znz] <;> rfl) (bxle_same (bxle_same (bxle_same bxle_nil))) rfl (by simp only [znz] <;> rfl) (bl_cons (zbc zPb (zbc zPb (zbc zPb (zbc zPb (zbc (sl_b kb_Ent) (zbc (sl_b kb_Rf) (zbc (sl_b kb_Lin) bnd_nil))))))) (bl_cons (zbc zPb (zbc zPb (zbc zPb (zbc zPb (zbc (sl_b kb_Ent) (zbc (sl_b kb_Rf) (zbc (sl_b kb_Lin) bnd_nil))))))) (bl_cons (zbc zPb (zbc zPb (zbc zPb (zbc zPb (zbc (sl_b kb_Ent) (zbc (sl_b kb_Rf) (zbc (sl_b kb_Lin) bnd_nil))))))) bl_nil))) ?_
            exact ⟨m_z_9, Nat.lt_succ_self _, IntKind.i64.wrap (t_8 + 1), ⟨le_of_eq (eg oz), le_of_eq (eg (os rfl oz)), le_of_eq (eg (os rfl (os rfl oz))), trivial⟩, rfl, hz_7⟩
        · skip
          replace hz_9 := ifb_f hz_9 hc
          clear hc
          refine aw_exit ?_
          obtain rfl := some_of hz_9
          replace hz_7 := ocs_r hz_7
          refine wk_no ?_
          refine wk_yesN rfl (l := [(2, ptr (s.boxes.length + 0) 0), (5, ptr (s.boxes.length + 2) 0)]) (bs' := [⟨94, [pl (.int .i64 p0.Code), pl (.int .u64 p0.N), pl (.bool p0.Found), pl (.string p0.Value), sl kEnt none none p0.Rows, sl kRf none none p0.Refs, sl kLin none none p0.Lines]⟩, ⟨88, [pl (.int .i64 p1.Code), pl (.int .u64 p1.N), pl (.bool p1.Found), pl (.string p1.Value), sl kEnt none none p1.Rows, sl kRf none none p1.Refs, sl kLin none none p1.Lines]⟩, ⟨94, [pl (.int .i64 x_1.Code), pl (.int .u64 x_1.N), pl (.bool x_1.Found), pl (.string x_1.Value), sl kEnt none none x_1.Rows, sl kRf none none x_1.Refs, sl kLin none none x_1.Lines]⟩]) ⟨le_of_eq (eg oz), le_of_eq (eg (os rfl oz)), trivial⟩ (zbc (ptr_bnd _ (by first | omega | (simp only [List.length_append, List.length_cons, List.length_nil]; omega))) (zbc (ptr_bnd _ (by first | omega | (simp only [List.length_append, List.length_cons, List.length_nil]; omega))) bnd_nil)) (zNb rfl) (by simp only [znz] <;> rfl) (bxle_same (bxle_same (bxle_same bxle_nil))) rfl (by simp only [znz] <;> rfl) (bl_cons (zbc zPb (zbc zPb (zbc zPb (zbc zPb (zbc (sl_b kb_Ent) (zbc (sl_b kb_Rf) (zbc (sl_b kb_Lin) bnd_nil))))))) (bl_cons (zbc zPb (zbc zPb (zbc zPb (zbc zPb (zbc (sl_b kb_Ent) (zbc (sl_b kb_Rf) (zbc (sl_b kb_Lin) bnd_nil))))))) (bl_cons (zbc zPb (zbc zPb (zbc zPb (zbc zPb (zbc (sl_b kb_Ent) (zbc (sl_b kb_Rf) (zbc (sl_b kb_Lin) bnd_nil))))))) bl_nil))) ?_
          exact ⟨(), ⟨le_of_eq (eg oz), le_of_eq (eg (os rfl oz)), trivial⟩, rfl, some_of hz_7⟩
      · rintro e st ⟨vz_7, hH, rfl, rfl⟩
        refine aw_keep _ hH ?_
        replace h0 := ocs_r h0
        refine aw_keep [(2, _), (5, _)] ⟨lg oz, lg (os rfl oz), trivial⟩ ?_
        refine aw_seq ?_
        refine aw_seq ?_
        refine aw_region (by decide) ?_
        refine rts _ rfl (opD_assign (ev_const _ _)) ?_
        refine .nil ?_
        refine aw_keep [(2, _), (5, _), (8, _)] ⟨lg (ls rfl oz), lg (ls rfl (os rfl oz)), lg lz, trivial⟩ ?_
        replace h0 := bnd_some h0
        obtain ⟨z_12, hz_12, h0⟩ := h0
        refine aw_mid (fun e st => ∃ v : Unit, Holds e [] ∧ st = s.ext [⟨94, [pl (.int .i64 p0.Code), pl (.int .u64 p0.N), pl (.bool p0.Found), pl (.string p0.Value), sl kEnt none none p0.Rows, sl kRf none none p0.Refs, sl kLin none none p0.Lines]⟩, ⟨88, [pl (.int .i64 p1.Code), pl (.int .u64 p1.N), pl (.bool p1.Found), pl (.string p1.Value), sl kEnt none none p1.Rows, sl kRf none none p1.Refs, sl kLin none none p1.Lines]⟩, ⟨94, [pl (.int .i64 x_1.Code), pl (.int .u64 x_1.N), pl (.bool x_1.Found), pl (.string x_1.Value), sl kEnt none none x_1.Rows, sl kRf none none x_1.Refs, sl kLin none none x_1.Lines]⟩] [] ∧ (.inr v) = z_12) ?_ ?_
        · skip
          refine aw_wkN rfl 3 0 rfl rfl ?_
          refine aw_block ?_
          refine aw_loop (fun n e st => ∃ v : Int, Holds e [(2, ptr (s.boxes.length + 0) 0), (5, ptr (s.boxes.length + 2) 0), (8, pl (.int .i64 v))] ∧ st = s.ext [⟨94, [pl (.int .i64 p0.Code), pl (.int .u64 p0.N), pl (.bool p0.Found), pl (.string p0.Value), sl kEnt none none p0.Rows, sl kRf none none p0.Refs, sl kLin none none p0.Lines]⟩, ⟨88, [pl (.int .i64 p1.Code), pl (.int .u64 p1.N), pl (.bool p1.Found), pl (.string p1.Value), sl kEnt none none p1.Rows, sl kRf none none p1.Refs, sl kLin none none p1.Lines]⟩, ⟨94, [pl (.int .i64 x_1.Code), pl (.int .u64 x_1.N), pl (.bool x_1.Found), pl (.string x_1.Value), sl kEnt none none x_1.Rows, sl kRf none none x_1.Refs, sl kLin none none x_1.Lines]⟩] [] ∧ lp (F_ris_b2 p0 x_1) n v = some z_12) fl ⟨0, ⟨le_of_eq (eg oz), le_of_eq (eg (os rfl oz)), le_of_eq (eg (os rfl (os rfl oz))), trivial⟩, rfl, hz_12⟩ ?_
          rintro n e st ⟨t_13, hH, rfl, hz_12⟩
          replace hz_12 := lp_some hz_12
          obtain ⟨m_z_14, z_14, rfl, hz_14, hz_12⟩ := hz_12
          unfold F_ris_b2 at hz_14
          refine aw_keep _ hH ?_
          refine aw_wkN rfl 3 0 rfl rfl ?_
          refine aw_seq ?_
          refine aw_seq ?_
          refine aw_region (by decide) ?_
          refine rts _ rfl (opD_move (os rfl (os rfl oz))) ?_
          refine rts _ rfl (opD_fieldAddr fo94_6_u3c (ls rfl oz)) ?_
          refine rts _ rfl (opD_load_one ag55_u3c lz (loc_getN rfl rfl) rfl) ?_
          refine rts _ rfl (opD_len_sl Tryd.underlying55 lz) ?_
          refine rts _ rfl (opD_lss (ls rfl (ls rfl (ls rfl lz))) lz) ?_
          refine .nil ?_
          refine aw_keep [(2, _), (5, _), (8, _), (104, _)] ⟨lg (ls rfl (ls rfl (ls rfl (ls rfl (ls rfl oz))))), lg (ls rfl (ls rfl (ls rfl (ls rfl (ls rfl (os rfl oz)))))), lg (ls rfl (ls rfl (ls rfl (ls rfl (ls rfl (os rfl (os rfl oz))))))), lg lz, trivial⟩ ?_
          refine aw_cond _ (os rfl (os rfl (os rfl oz))) (fun hc => ?_) (fun hc => ?_)
          · skip
            replace hz_14 := ifb_t hz_14 hc
            clear hc
            refine aw_skip ?_
            refine aw_keep [(2, _), (5, _), (8, _)] ⟨lg oz, lg (os rfl oz), lg (os rfl (os rfl oz)), trivial⟩ ?_
            refine aw_seq ?_
            refine aw_block ?_
            refine aw_seq ?_
            refine aw_flat mixed_u3c (by decide +kernel) ?_
            refine zts _ rfl (opD_fieldAddr fo94_6_u3c oz) ?_
            refine zts _ rfl (opD_load_one ag55_u3c lz (loc_getN rfl rfl) rfl) ?_
            refine zts _ rfl (opD_move (ls rfl (ls rfl (os rfl (os rfl oz))))) ?_
            replace hz_14 := ixb_some hz_14
            obtain ⟨x_15, hx_15, hbx_15, hz_14⟩ := hz_14
            refine zts _ rfl (opD_indexAddr_sl (i := t_13.toNat) Tryd.underlying55 sz63_u3c (ls rfl lz) lz hbx_15.2.2 hbx_15.2.1) ?_
            refine zts _ rfl (opD_load_el_aggX (qs := [_, _, _, _, _]) ag63_u3c sz63_u3c lz hx_15 (zNb rfl) rfl) ?_
            refine zts _ rfl (opD_fieldAddr fo94_6_u3c (ls rfl (ls rfl (ls rfl (ls rfl (ls rfl (os rfl oz))))))) ?_
            refine zts _ rfl (opD_load_one ag55_u3c lz (loc_getN rfl rfl) rfl) ?_
            refine zts _ rfl (opD_move (ls rfl (ls rfl (ls rfl (ls rfl (ls rfl (ls rfl (ls rfl (os rfl (os rfl oz)))))))))) ?_
            replace hz_14 := ixb_some hz_14
            obtain ⟨x_16, hx_16, hbx_16, hz_14⟩ := hz_14
            refine zts _ rfl (opD_indexAddr_sl (i := t_13.toNat) Tryd.underlying55 sz63_u3c (ls rfl lz) lz hbx_16.2.2 hbx_16.2.1) ?_
            refine zts _ rfl (opD_load_el_aggX (qs := [_, _, _, _, _]) ag63_u3c sz63_u3c lz hx_16 (zNb rfl) rfl) ?_
            refine zts _ rfl (opD_binA [.int .u64 x_15.Seq, .int .u64 x_15.Who, .int .u8 x_15.What, .int .u16 x_15.Code, .string x_15.Key] [.int .u64 x_16.Seq, .int .u64 x_16.Who, .int .u8 x_16.What, .int .u16 x_16.Code, .string x_16.Key] (ls rfl (ls rfl (ls rfl (ls rfl (ls rfl lz))))) lz (fun w => (eq_Lin_g _ _ _ _ _ w)) (fun w => (eq_Lin _ _ _ _ _ _ _ _ _ _ w).2)) ?_
            refine .nil ?_
            refine aw_keep [(2, _), (5, _), (8, _), (117, _)] ⟨lg (ls rfl (ls rfl (ls rfl (ls rfl (ls rfl (ls rfl (ls rfl (ls rfl (ls rfl (ls rfl (ls rfl oz))))))))))), lg (ls rfl (ls rfl (ls rfl (ls rfl (ls rfl (ls rfl (ls rfl (ls rfl (ls rfl (ls rfl (ls rfl (os rfl oz)))))))))))), lg (ls rfl (ls rfl (ls rfl (ls rfl (ls rfl (ls rfl (ls rfl (ls rfl (ls rfl (ls rfl (ls rfl (os rfl (os rfl oz))))))))))))), lg lz, trivial⟩ ?_
            refine aw_cond _ (os rfl (os rfl (os rfl oz))) (fun hc => ?_) (fun hc => ?_)
            · skip
              replace hz_14 := ifb_t hz_14 hc
              clear hc
              refine aw_seq ?_
              refine aw_region (by decide) ?_
              refine rts _ rfl (opD_assign (ev_const _ _)) ?_
              refine .nil ?_
              refine aw_keep [(4, _)] ⟨lg lz, trivial⟩ ?_
              refine aw_ret ?_
              obtain rfl := some_of hz_14
              replace hz_12 := ocs_r hz_12
              obtain rfl := some_of hz_12
              replace h0 := ocs_l h0
              refine wk_no ?_
              refine wk_no ?_
              obtain rfl := some_of h0
              exact done_ext (.inr rfl) ((res_one rfl (it_tmp oz)).le zLr) zPb
            · skip
              replace hz_14 := ifb_f hz_14 hc
              clear hc
              refine aw_skip ?_
              refine aw_keep [(2, _), (5, _), (8, _)] ⟨lg oz, lg (os rfl oz), lg (os rfl (os rfl oz)), trivial⟩ ?_
              refine aw_region (by decide) ?_
              refine rts _ rfl (opD_move (os rfl (os rfl oz))) ?_
              refine rts _ rfl (opD_add lz (ev_const _ _) rfl) ?_
              refine rts _ rfl (opD_assign lz) ?_
              refine .nil ?_
              obtain rfl := some_of hz_14
              replace hz_12 := ocs_l hz_12
              refine wk_yesN rfl (l := [(2, ptr (s.boxes.length + 0) 0), (5, ptr (s.boxes.length + 2) 0), (8, pl (.int .i64 (IntKind.i64.wrap (t_13 + 1))))]) (bs' := [⟨94, [pl (.int .i64 p0.Code), pl (.int .u64 p0.N), pl (.bool p0.Found), pl (.string p0.Value), sl kEnt none none p0.Rows, sl kRf none none p0.Refs, sl kLin none none p0.Lines]⟩, ⟨88, [pl (.int .i64 p1.Code), pl (.int .u64 p1.N), pl (.bool p1.Found), pl (.string p1.Value), sl kEnt none none p1.Rows, sl kRf none none p1.Refs, sl kLin none none p1.Lines]⟩, ⟨94, [pl (.int .i64 x_1.Code), pl (.int .u64 x_1.N), pl (.bool x_1.Found), pl (.string x_1.Value), sl kEnt none none x_1.Rows, sl kRf none none x_1.Refs, sl kLin none none x_1.Lines]⟩]) ⟨le_of_eq (eg (ls rfl (ls rfl (ls rfl oz)))), le_of_eq (eg (ls rfl (ls rfl (ls rfl (os rfl oz))))), le_of_eq (eg lz), trivial⟩ (zbc (ptr_bnd _ (by first | omega | (simp only [List.length_append, List.length_cons, List.length_nil]; omega))) (zbc (ptr_bnd _ (by first | omega | (simp only [List.length_append, List.length_cons, List.length_nil]; omega))) (zbc zPb bnd_nil))) (zNb rfl) (by simp only [znz] <;> rfl) (bxle_same (bxle_same (bxle_same bxle_nil))) rfl (by simp only [znz] <;> rfl) (bl_cons (zbc zPb (zbc zPb (zbc zPb (zbc zPb (zbc (sl_b kb_Ent) (zbc (sl_b kb_Rf) (zbc (sl_b kb_Lin) bnd_nil))))))) (bl_cons (zbc zPb (zbc zPb (zbc zPb (zbc zPb (zbc (sl_b kb_Ent) (zbc (sl_b kb_Rf) (zbc (sl_b kb_Lin) bnd_nil))))))) (bl_cons (zbc zPb (zbc zPb (zbc zPb (zbc zPb (zbc (sl_b kb_Ent) (zbc (sl_b kb_Rf) (zbc (sl_b kb_Lin) bnd_nil))))))) bl_nil))) ?_
              exact ⟨m_z_14, Nat.lt_succ_self _, IntKind.i64.wrap (t_13 + 1), ⟨le_of_eq (eg oz), le_of_eq (eg (os rfl oz)), le_of_eq (eg (os rfl (os rfl oz))), trivial⟩, rfl, hz_12⟩
          · skip
            replace hz_14 := ifb_f hz_14 hc
            clear hc
            refine aw_exit ?_
            obtain rfl := some_of hz_14
            replace hz_12 := ocs_r hz_12
            refine wk_no ?_
            refine wk_yesN rfl (l := []) (bs' := [⟨94, [pl (.int .i64 p0.Code), pl (.int .u64 p0.N), pl (.bool p0.Found), pl (.string p0.Value), sl kEnt none none p0.Rows, sl kRf none none p0.Refs, sl kLin none none p0.Lines]⟩, ⟨88, [pl (.int .i64 p1.Code), pl (.int .u64 p1.N), pl (.bool p1.Found), pl (.string p1.Value), sl kEnt none none p1.Rows, sl kRf none none p1.Refs, sl kLin none none p1.Lines]⟩, ⟨94, [pl (.int .i64 x_1.Code), pl (.int .u64 x_1.N), pl (.bool x_1.Found), pl (.string x_1.Value), sl kEnt none none x_1.Rows, sl kRf none none x_1.Refs, sl kLin none none x_1.Lines]⟩]) trivial bnd_nil (zNb rfl) (by simp only [znz] <;> rfl) (bxle_same (bxle_same (bxle_same bxle_nil))) rfl (by simp only [znz] <;> rfl) (bl_cons (zbc zPb (zbc zPb (zbc zPb (zbc zPb (zbc (sl_b kb_Ent) (zbc (sl_b kb_Rf) (zbc (sl_b kb_Lin) bnd_nil))))))) (bl_cons (zbc zPb (zbc zPb (zbc zPb (zbc zPb (zbc (sl_b kb_Ent) (zbc (sl_b kb_Rf) (zbc (sl_b kb_Lin) bnd_nil))))))) (bl_cons (zbc zPb (zbc zPb (zbc zPb (zbc zPb (zbc (sl_b kb_Ent) (zbc (sl_b kb_Rf) (zbc (sl_b kb_Lin) bnd_nil))))))) bl_nil))) ?_
            exact ⟨(), trivial, rfl, some_of hz_12⟩
        · rintro e st ⟨vz_12, hH, rfl, rfl⟩
          refine aw_keep _ hH ?_
          replace h0 := ocs_r h0
          refine aw_keep [] trivial ?_
          refine aw_seq ?_
          refine aw_region (by decide) ?_
          refine rts _ rfl (opD_assign (ev_const _ _)) ?_
          refine .nil ?_
          refine aw_keep [(4, _)] ⟨lg lz, trivial⟩ ?_
          refine aw_ret ?_
          obtain rfl := some_of h0
          exact done_ext (.inr rfl) ((res_one rfl (it_tmp oz)).le zLr) zPb

def F_eqlE_b0 (p0 : (List Ent)) (p1 : (List Ent)) (t_2 : Int) : Option ((Int) ⊕ ((Bool) ⊕ (Unit))) :=
  ifb (decide (t_2 < (p0.length : Int))) (ixb p0 t_2 fun x_4 => ixb p1 t_2 fun x_5 => ifb (!(decide (x_4.Key = x_5.Key) && (decide (x_4.Value = x_5.Value) && true))) (some (.inr (.inl false))) (some (.inl (IntKind.i64.wrap (t_2 + 1))))) (some (.inr (.inr ())))
def F_eqlE (fl : Nat) (p0 : (List Ent)) (p1 : (List Ent)) : Option (Bool) :=
  ifb (decide ((p0.length : Int) ≠ (p1.length : Int))) (some false) (bnd (lp (F_eqlE_b0 p0 p1) fl 0) fun z_1 => ocs z_1 (fun qz_1_0 => some qz_1_0) fun z_1_0 => some true)
set_option maxRecDepth 100000 in
set_option maxHeartbeats 2000000 in
theorem c_eqlE {fl : Nat} {p0 : (List Ent)} {p1 : (List Ent)} {R : Bool} (h0 : F_eqlE fl p0 p1 = some R) : Pure Tryd.prog 108 [sl kEnt none none p0, sl kEnt none none p1] (pl (.bool R)) := by
  intro s
  unfold F_eqlE at h0
  refine ac_of_aw s.boxes.length s.fr.length Tryd.func108 rfl (by simp [Tryd.ntmps108]) ?_
  refine aw_ext0 ?_
  refine aw_keep [(0, _), (1, _)] ⟨lg ez, lg (es ez), trivial⟩ ?_
  refine aw_seq ?_
  refine aw_region (by decide) ?_
  refine rts _ rfl (opD_assign (ev_const _ _)) ?_
  refine .nil ?_
  refine aw_keep [(0, _), (1, _)] ⟨lg (ls rfl oz), lg (ls rfl (os rfl oz)), trivial⟩ ?_
  refine aw_seq ?_
  refine aw_seq ?_
  refine aw_region (by decide) ?_
  refine rts _ rfl (opD_move oz) ?_
  refine rts _ rfl (opD_len_sl Tryd.underlying91 lz) ?_
  refine rts _ rfl (opD_move (ls rfl (ls rfl (os rfl oz)))) ?_
  refine rts _ rfl (opD_len_sl Tryd.underlying91 lz) ?_
  refine rts _ rfl (opD_neq (ls rfl (ls rfl lz)) lz) ?_
  refine .nil ?_
  refine aw_keep [(0, _), (1, _), (10, _)] ⟨lg (ls rfl (ls rfl (ls rfl (ls rfl (ls rfl oz))))), lg (ls rfl (ls rfl (ls rfl (ls rfl (ls rfl (os rfl oz)))))), lg lz, trivial⟩ ?_
  refine aw_cond _ (os rfl (os rfl oz)) (fun hc => ?_) (fun hc => ?_)
  · skip
    replace h0 := ifb_t h0 hc
    clear hc
    refine aw_seq ?_
    refine aw_region (by decide) ?_
    refine rts _ rfl (opD_assign (ev_const _ _)) ?_
    refine .nil ?_
    refine aw_keep [(4, _)] ⟨lg lz, trivial⟩ ?_
    refine aw_ret ?_
    obtain rfl := some_of h0
    exact done_ext (.inr rfl) ((res_one rfl (it_tmp oz)).le zLr) zPb
  · skip
    replace h0 := ifb_f h0 hc
    clear hc
    refine aw_skip ?_
    refine aw_keep [(0, _), (1, _)] ⟨lg oz, lg (os rfl oz), trivial⟩ ?_
    refine aw_seq ?_
    refine aw_seq ?_
    refine aw_region (by decide) ?_
    refine rts _ rfl (opD_move oz) ?_
    refine rts _ rfl (opD_len_sl Tryd.underlying91 lz) ?_
    refine rts _ rfl (opD_move (ev_const _ _)) ?_
    refine .nil ?_
    refine aw_keep [(0, _), (1, _), (12, _), (13, _)] ⟨lg (ls rfl (ls rfl (ls rfl oz))), lg (ls rfl (ls rfl (ls rfl (os rfl oz)))), lg (ls rfl lz), lg lz, trivial⟩ ?_
    replace h0 := bnd_some h0
    obtain ⟨z_1, hz_1, h0⟩ := h0
    refine aw_mid (fun e st => ∃ v : Unit, Holds e [] ∧ st = s.ext [] [] ∧ (.inr v) = z_1) ?_ ?_
    · skip
      refine aw_wkN rfl 0 0 rfl rfl ?_
      refine aw_block ?_
      refine aw_loop (fun n e st => ∃ v : Int, Holds e [(0, sl kEnt none none p0), (1, sl kEnt none none p1), (12, pl (.int .i64 (p0.length : Int))), (13, pl (.int .i64 v))] ∧ st = s.ext [] [] ∧ lp (F_eqlE_b0 p0 p1) n v = some z_1) fl ⟨0, ⟨le_of_eq (eg oz), le_of_eq (eg (os rfl oz)), le_of_eq (eg (os rfl (os rfl oz))), le_of_eq (eg (os rfl (os rfl (os rfl oz)))), trivial⟩, rfl, hz_1⟩ ?_
      rintro n e st ⟨t_2, hH, rfl, hz_1⟩
      replace hz_1 := lp_some hz_1
      obtain ⟨m_z_3, z_3, rfl, hz_3, hz_1⟩ := hz_1
      unfold F_eqlE_b0 at hz_3
      refine aw_keep _ hH ?_
      refine aw_wkN rfl 0 0 rfl rfl ?_
      refine aw_seq ?_
      refine aw_region (by decide) ?_
      refine rts _ rfl (opD_lss (os rfl (os rfl (os rfl oz))) (os rfl (os rfl oz))) ?_
      refine .nil ?_
      refine aw_keep [(0, _), (1, _), (12, _), (13, _), (14, _)] ⟨lg (ls rfl oz), lg (ls rfl (os rfl oz)), lg (ls rfl (os rfl (os rfl oz))), lg (ls rfl (os rfl (os rfl (os rfl oz)))), lg lz, trivial⟩ ?_
      refine aw_seq ?_
      refine aw_cond _ (os rfl (os rfl (os rfl (os rfl oz)))) (fun hc => ?_) (fun hc => ?_)
      · skip
        replace hz_3 := ifb_t hz_3 hc
        clear hc
        refine aw_skip ?_
        refine aw_keep [(0, _), (1, _), (12, _), (13, _)] ⟨lg oz, lg (os rfl oz), lg (os rfl (os rfl oz)), lg (os rfl (os rfl (os rfl oz))), trivial⟩ ?_
        refine aw_seq ?_
        refine aw_block ?_
        refine aw_seq ?_
        refine aw_region (by decide) ?_
        refine rts _ rfl (opD_move (os rfl (os rfl (os rfl oz)))) ?_
        refine rts _ rfl (opD_assign lz) ?_
        refine .nil ?_
        refine aw_keep [(0, _), (1, _), (5, _), (12, _), (13, _)] ⟨lg (ls rfl (ls rfl oz)), lg (ls rfl (ls rfl (os rfl oz))), lg lz, lg (ls rfl (ls rfl (os rfl (os rfl oz)))), lg (ls rfl (ls rfl (os rfl (os rfl (os rfl oz))))), trivial⟩ ?_
        refine aw_seq ?_
        refine aw_flat mixed_u3c (by decide +kernel) ?_
        refine zts _ rfl (opD_move oz) ?_
        refine zts _ rfl (opD_move (ls rfl (os rfl (os rfl oz)))) ?_
        replace hz_3 := ixb_some hz_3
        obtain ⟨x_4, hx_4, hbx_4, hz_3⟩ := hz_3
        refine zts _ rfl (opD_indexAddr_sl (i := t_2.toNat) Tryd.underlying91 sz109_u3c (ls rfl lz) lz hbx_4.2.2 hbx_4.2.1) ?_
        refine zts _ rfl (opD_load_el_aggX (qs := [_, _]) ag109_u3c sz109_u3c lz hx_4 (zNb rfl) rfl) ?_
        refine zts _ rfl (opD_move (ls rfl (ls rfl (ls rfl (ls rfl (os rfl oz)))))) ?_
        refine zts _ rfl (opD_move (ls rfl (ls rfl (ls rfl (ls rfl (ls rfl (os rfl (os rfl oz)))))))) ?_
        replace hz_3 := ixb_some hz_3
        obtain ⟨x_5, hx_5, hbx_5, hz_3⟩ := hz_3
        refine zts _ rfl (opD_indexAddr_sl (i := t_2.toNat) Tryd.underlying91 sz109_u3c (ls rfl lz) lz hbx_5.2.2 hbx_5.2.1) ?_
        refine zts _ rfl (opD_load_el_aggX (qs := [_, _]) ag109_u3c sz109_u3c lz hx_5 (zNb rfl) rfl) ?_
        refine zts _ rfl (opD_binA [.string x_4.Key, .string x_4.Value] [.string x_5.Key, .string x_5.Value] (ls rfl (ls rfl (ls rfl (ls rfl lz)))) lz (fun w => (eq_Ent_g _ _ _ _ _ w)) (fun w => (eq_Ent _ _ _ _ w).2)) ?_
        refine .nil ?_
        refine aw_keep [(0, _), (1, _), (12, _), (13, _), (24, _)] ⟨lg (ls rfl (ls rfl (ls rfl (ls rfl (ls rfl (ls rfl (ls rfl (ls rfl (ls rfl oz))))))))), lg (ls rfl (ls rfl (ls rfl (ls rfl (ls rfl (ls rfl (ls rfl (ls rfl (ls rfl (os rfl oz)))))))))), lg (ls rfl (ls rfl (ls rfl (ls rfl (ls rfl (ls rfl (ls rfl (ls rfl (ls rfl (os rfl (os rfl (os rfl oz)))))))))))), lg (ls rfl (ls rfl (ls rfl (ls rfl (ls rfl (ls rfl (ls rfl (ls rfl (ls rfl (os rfl (os rfl (os rfl (os rfl oz))))))))))))), lg lz, trivial⟩ ?_
        refine aw_cond _ (os rfl (os rfl (os rfl (os rfl oz)))) (fun hc => ?_) (fun hc => ?_)
        · skip
          replace hz_3 := ifb_t hz_3 hc
          clear hc
          refine aw_seq ?_
          refine aw_region (by decide) ?_
          refine rts _ rfl (opD_assign (ev_const _ _)) ?_
          refine .nil ?_
          refine aw_keep [(4, _)] ⟨lg lz, trivial⟩ ?_
          refine aw_ret ?_
          obtain rfl := some_of hz_3
          replace hz_1 := ocs_r hz_1
          obtain rfl := some_of hz_1
          replace h0 := ocs_l h0
          refine wk_no ?_
          refine wk_no ?_
          obtain rfl := some_of h0
          exact done_ext (.inr rfl) ((res_one rfl (it_tmp oz)).le zLr) zPb
        · skip
          replace hz_3 := ifb_f hz_3 hc
          clear hc
          refine aw_skip ?_
          refine aw_keep [(0, _), (1, _), (12, _), (13, _)] ⟨lg oz, lg (os rfl oz), lg (os rfl (os rfl oz)), lg (os rfl (os rfl (os rfl oz))), trivial⟩ ?_
          refine aw_region (by decide) ?_
          refine rts _ rfl (opD_add (os rfl (os rfl (os rfl oz))) (ev_const _ _) rfl) ?_
          refine rts _ rfl (opD_move lz) ?_
          refine .nil ?_
          obtain rfl := some_of hz_3
          replace hz_1 := ocs_l hz_1
          refine wk_yesN rfl (l := [(0, sl kEnt none none p0), (1, sl kEnt none none p1), (12, pl (.int .i64 (p0.length : Int))), (13, pl (.int .i64 (IntKind.i64.wrap (t_2 + 1))))]) (bs' := []) ⟨le_of_eq (eg (ls rfl (ls rfl oz))), le_of_eq (eg (ls rfl (ls rfl (os rfl oz)))), le_of_eq (eg (ls rfl (ls rfl (os rfl (os rfl oz))))), le_of_eq (eg lz), trivial⟩ (zbc (sl_b kb_Ent) (zbc (sl_b kb_Ent) (zbc zPb (zbc zPb bnd_nil)))) (zNb rfl) (by simp only [znz] <;> rfl) bxle_nil rfl (by simp only [znz] <;> rfl) bl_nil ?_
          exact ⟨m_z_3, Nat.lt_succ_self _, IntKind.i64.wrap (t_2 + 1), ⟨le_of_eq (eg oz), le_of_eq (eg (os rfl oz)), le_of_eq (eg (os rfl (os rfl oz))), le_of_eq (eg (os rfl (os rfl (os rfl oz)))), trivial⟩, rfl, hz_1⟩
      · skip
        replace hz_3 := ifb_f hz_3 hc
        clear hc
        refine aw_exit ?_
        obtain rfl := some_of hz_3
        replace hz_1 := ocs_r hz_1
        refine wk_no ?_
        refine wk_yesN rfl (l := []) (bs' := []) trivial bnd_nil (zNb rfl) (by simp only [znz] <;> rfl) bxle_nil rfl (by simp only [znz] <;> rfl) bl_nil ?_
        exact ⟨(), trivial, rfl, some_of hz_1⟩
    · rintro e st ⟨vz_1, hH, rfl, rfl⟩
      refine aw_keep _ hH ?_
      replace h0 := ocs_r h0
      refine aw_keep [] trivial ?_
      refine aw_seq ?_
      refine aw_region (by decide) ?_
      refine rts _ rfl (opD_assign (ev_const _ _)) ?_
      refine .nil ?_
      refine aw_keep [(4, _)] ⟨lg lz, trivial⟩ ?_
      refine aw_ret ?_
      obtain rfl := some_of h0
      exact done_ext (.inr rfl) ((res_one rfl (it_tmp oz)).le zLr) zPb

def F_eqlF_b0 (p0 : (List Rf)) (p1 : (List Rf)) (t_2 : Int) : Option ((Int) ⊕ ((Bool) ⊕ (Unit))) :=
  ifb (decide (t_2 < (p0.length : Int))) (ixb p0 t_2 fun x_4 => ixb p1 t_2 fun x_5 => ifb (!(decide (x_4.Slot = x_5.Slot) && (decide (x_4.Gen = x_5.Gen) && true))) (some (.inr (.inl false))) (some (.inl (IntKind.i64.wrap (t_2 + 1))))) (some (.inr (.inr ())))
def F_eqlF (fl : Nat) (p0 : (List Rf)) (p1 : (List Rf)) : Option (Bool) :=
  ifb (decide ((p0.length : Int) ≠ (p1.length : Int))) (some false) (bnd (lp (F_eqlF_b0 p0 p1) fl 0) fun z_1 => ocs z_1 (fun qz_1_0 => some qz_1_0) fun z_1_0 => some true)
set_option maxRecDepth 100000 in
set_option maxHeartbeats 2000000 in
theorem c_eqlF {fl : Nat} {p0 : (List Rf)} {p1 : (List Rf)} {R : Bool} (h0 : F_eqlF fl p0 p1 = some R) : Pure Tryd.prog 109 [sl kRf none none p0, sl kRf none none p1] (pl (.bool R)) := by
  intro s
  unfold F_eqlF at h0
  refine ac_of_aw s.boxes.length s.fr.length Tryd.func109 rfl (by simp [Tryd.ntmps109]) ?_
  refine aw_ext0 ?_
  refine aw_keep [(0, _), (1, _)] ⟨lg ez, lg (es ez), trivial⟩ ?_
  refine aw_seq ?_
  refine aw_region (by decide) ?_
  refine rts _ rfl (opD_assign (ev_const _ _)) ?_
  refine .nil ?_
  refine aw_keep [(0, _), (1, _)] ⟨lg (ls rfl oz), lg (ls rfl (os rfl oz)), trivial⟩ ?_
  refine aw_seq ?_
  refine aw_seq ?_
  refine aw_region (by decide) ?_
  refine rts _ rfl (opD_move oz) ?_
  refine rts _ rfl (opD_len_sl Tryd.underlying92 lz) ?_
  refine rts _ rfl (opD_move (ls rfl (ls rfl (os rfl oz)))) ?_
  refine rts _ rfl (opD_len_sl Tryd.underlying92 lz) ?_
  refine rts _ rfl (opD_neq (ls rfl (ls rfl lz)) lz) ?_
  refine .nil ?_
  refine aw_keep [(0, _), (1, _), (10, _)] ⟨lg (ls rfl (ls rfl (ls rfl (ls rfl (ls rfl oz))))), lg (ls rfl (ls rfl (ls rfl (ls rfl (ls rfl (os rfl oz)))))), lg lz, trivial⟩ ?_
  refine aw_cond _ (os rfl (os rfl oz)) (fun hc => ?_) (fun hc => ?_)
  · skip
    replace h0 := ifb_t h0 hc
    clear hc
    refine aw_seq ?_
    refine aw_region (by decide) ?_
    refine rts _ rfl (opD_assign (ev_const _ _)) ?_
    refine .nil ?_
    refine aw_keep [(4, _)] ⟨lg lz, trivial⟩ ?_
    refine aw_ret ?_
    obtain rfl := some_of h0
    exact done_ext (.inr rfl) ((res_one rfl (it_tmp oz)).le zLr) zPb
  · skip
    replace h0 := ifb_f h0 hc
    clear hc
    refine aw_skip ?_
    refine aw_keep [(0, _), (1, _)] ⟨lg oz, lg (os rfl oz), trivial⟩ ?_
    refine aw_seq ?_
    refine aw_seq ?_
    refine aw_region (by decide) ?_
    refine rts _ rfl (opD_move oz) ?_
    refine rts _ rfl (opD_len_sl Tryd.underlying92 lz) ?_
    refine rts _ rfl (opD_move (ev_const _ _)) ?_
    refine .nil ?_
    refine aw_keep [(0, _), (1, _), (12, _), (13, _)] ⟨lg (ls rfl (ls rfl (ls rfl oz))), lg (ls rfl (ls rfl (ls rfl (os rfl oz)))), lg (ls rfl lz), lg lz, trivial⟩ ?_
    replace h0 := bnd_some h0
    obtain ⟨z_1, hz_1, h0⟩ := h0
    refine aw_mid (fun e st => ∃ v : Unit, Holds e [] ∧ st = s.ext [] [] ∧ (.inr v) = z_1) ?_ ?_
    · skip
      refine aw_wkN rfl 0 0 rfl rfl ?_
      refine aw_block ?_
      refine aw_loop (fun n e st => ∃ v : Int, Holds e [(0, sl kRf none none p0), (1, sl kRf none none p1), (12, pl (.int .i64 (p0.length : Int))), (13, pl (.int .i64 v))] ∧ st = s.ext [] [] ∧ lp (F_eqlF_b0 p0 p1) n v = some z_1) fl ⟨0, ⟨le_of_eq (eg oz), le_of_eq (eg (os rfl oz)), le_of_eq (eg (os rfl (os rfl oz))), le_of_eq (eg (os rfl (os rfl (os rfl oz)))), trivial⟩, rfl, hz_1⟩ ?_
      rintro n e st ⟨t_2, hH, rfl, hz_1⟩
      replace hz_1 := lp_some hz_1
      obtain ⟨m_z_3, z_3, rfl, hz_3, hz_1⟩ := hz_1
      unfold F_eqlF_b0 at hz_3
      refine aw_keep _ hH ?_
      refine aw_wkN rfl 0 0 rfl rfl ?_
      refine aw_seq ?_
      refine aw_region (by decide) ?_
      refine rts _ rfl (opD_lss (os rfl (os rfl (os rfl oz))) (os rfl (os rfl oz))) ?_
      refine .nil ?_
      refine aw_keep [(0, _), (1, _), (12, _), (13, _), (14, _)] ⟨lg (ls rfl oz), lg (ls rfl (os rfl oz)), lg (ls rfl (os rfl (os rfl oz))), lg (ls rfl (os rfl (os rfl (os rfl oz)))), lg lz, trivial⟩ ?_
      refine aw_seq ?_
      refine aw_cond _ (os rfl (os rfl (os rfl (os rfl oz)))) (fun hc => ?_) (fun hc => ?_)
      · skip
        replace hz_3 := ifb_t hz_3 hc
        clear hc
        refine aw_skip ?_
        refine aw_keep [(0, _), (1, _), (12, _), (13, _)] ⟨lg oz, lg (os rfl oz), lg (os rfl (os rfl oz)), lg (os rfl (os rfl (os rfl oz))), trivial⟩ ?_
        refine aw_seq ?_
        refine aw_block ?_
        refine aw_seq ?_
        refine aw_region (by decide) ?_
        refine rts _ rfl (opD_move (os rfl (os rfl (os rfl oz)))) ?_
        refine rts _ rfl (opD_assign lz) ?_
        refine .nil ?_
        refine aw_keep [(0, _), (1, _), (5, _), (12, _), (13, _)] ⟨lg (ls rfl (ls rfl oz)), lg (ls rfl (ls rfl (os rfl oz))), lg lz, lg (ls rfl (ls rfl (os rfl (os rfl oz)))), lg (ls rfl (ls rfl (os rfl (os rfl (os rfl oz))))), trivial⟩ ?_
        refine aw_seq ?_
        refine aw_flat mixed_u3c (by decide +kernel) ?_
        refine zts _ rfl (opD_move oz) ?_
        refine zts _ rfl (opD_move (ls rfl (os rfl (os rfl oz)))) ?_
        replace hz_3 := ixb_some hz_3
        obtain ⟨x_4, hx_4, hbx_4, hz_3⟩ := hz_3
        refine zts _ rfl (opD_indexAddr_sl (i := t_2.toNat) Tryd.underlying92 sz116_u3c (ls rfl lz) lz hbx_4.2.2 hbx_4.2.1) ?_
        refine zts _ rfl (opD_load_el_aggX (qs := [_, _]) ag116_u3c sz116_u3c lz hx_4 (zNb rfl) rfl) ?_
        refine zts _ rfl (opD_move (ls rfl (ls rfl (ls rfl (ls rfl (os rfl oz)))))) ?_
        refine zts _ rfl (opD_move (ls rfl (ls rfl (ls rfl (ls rfl (ls rfl (os rfl (os rfl oz)))))))) ?_
        replace hz_3 := ixb_some hz_3
        obtain ⟨x_5, hx_5, hbx_5, hz_3⟩ := hz_3
        refine zts _ rfl (opD_indexAddr_sl (i := t_2.toNat) Tryd.underlying92 sz116_u3c (ls rfl lz) lz hbx_5.2.2 hbx_5.2.1) ?_
        refine zts _ rfl (opD_load_el_aggX (qs := [_, _]) ag116_u3c sz116_u3c lz hx_5 (zNb rfl) rfl) ?_
        refine zts _ rfl (opD_binA [.int .i64 x_4.Slot, .int .u64 x_4.Gen] [.int .i64 x_5.Slot, .int .u64 x_5.Gen] (ls rfl (ls rfl (ls rfl (ls rfl lz)))) lz (fun w => (eq_Rf_g _ _ _ _ _ w)) (fun w => (eq_Rf _ _ _ _ w).2)) ?_
        refine .nil ?_
        refine aw_keep [(0, _), (1, _), (12, _), (13, _), (24, _)] ⟨lg (ls rfl (ls rfl (ls rfl (ls rfl (ls rfl (ls rfl (ls rfl (ls rfl (ls rfl oz))))))))), lg (ls rfl (ls rfl (ls rfl (ls rfl (ls rfl (ls rfl (ls rfl (ls rfl (ls rfl (os rfl oz)))))))))), lg (ls rfl (ls rfl (ls rfl (ls rfl (ls rfl (ls rfl (ls rfl (ls rfl (ls rfl (os rfl (os rfl (os rfl oz)))))))))))), lg (ls rfl (ls rfl (ls rfl (ls rfl (ls rfl (ls rfl (ls rfl (ls rfl (ls rfl (os rfl (os rfl (os rfl (os rfl oz))))))))))))), lg lz, trivial⟩ ?_
        refine aw_cond _ (os rfl (os rfl (os rfl (os rfl oz)))) (fun hc => ?_) (fun hc => ?_)
        · skip
          replace hz_3 := ifb_t hz_3 hc
          clear hc
          refine aw_seq ?_
          refine aw_region (by decide) ?_
          refine rts _ rfl (opD_assign (ev_const _ _)) ?_
          refine .nil ?_
          refine aw_keep [(4, _)] ⟨lg lz, trivial⟩ ?_
          refine aw_ret ?_
          obtain rfl := some_of hz_3
          replace hz_1 := ocs_r hz_1
          obtain rfl := some_of hz_1
          replace h0 := ocs_l h0
          refine wk_no ?_
          refine wk_no ?_
          obtain rfl := some_of h0
          exact done_ext (.inr rfl) ((res_one rfl (it_tmp oz)).le zLr) zPb
        · skip
          replace hz_3 := ifb_f hz_3 hc
          clear hc
          refine aw_skip ?_
          refine aw_keep [(0, _), (1, _), (12, _), (13, _)] ⟨lg oz, lg (os rfl oz), lg (os rfl (os rfl oz)), lg (os rfl (os rfl (os rfl oz))), trivial⟩ ?_
          refine aw_region (by decide) ?_
          refine rts _ rfl (opD_add (os rfl (os rfl (os rfl oz))) (ev_const _ _) rfl) ?_
          refine rts _ rfl (opD_move lz) ?_
          refine .nil ?_
          obtain rfl := some_of hz_3
          replace hz_1 := ocs_l hz_1
          refine wk_yesN rfl (l := [(0, sl kRf none none p0), (1, sl kRf none none p1), (12, pl (.int .i64 (p0.length : Int))), (13, pl (.int .i64 (IntKind.i64.wrap (t_2 + 1))))]) (bs' := []) ⟨le_of_eq (eg (ls rfl (ls rfl oz))), le_of_eq (eg (ls rfl (ls rfl (os rfl oz)))), le_of_eq (eg (ls rfl (ls rfl (os rfl (os rfl oz))))), le_of_eq (eg lz), trivial⟩ (zbc (sl_b kb_Rf) (zbc (sl_b kb_Rf) (zbc zPb (zbc zPb bnd_nil)))) (zNb rfl) (by simp only [znz] <;> rfl) bxle_nil rfl (by simp only [znz] <;> rfl) bl_nil ?_
          exact ⟨m_z_3, Nat.lt_succ_self _, IntKind.i64.wrap (t_2 + 1), ⟨le_of_eq (eg oz), le_of_eq (eg (os rfl oz)), le_of_eq (eg (os rfl (os rfl oz))), le_of_eq (eg (os rfl (os rfl (os rfl oz)))), trivial⟩, rfl, hz_1⟩
      · skip
        replace hz_3 := ifb_f hz_3 hc
        clear hc
        refine aw_exit ?_
        obtain rfl := some_of hz_3
        replace hz_1 := ocs_r hz_1
        refine wk_no ?_
        refine wk_yesN rfl (l := []) (bs' := []) trivial bnd_nil (zNb rfl) (by simp only [znz] <;> rfl) bxle_nil rfl (by simp only [znz] <;> rfl) bl_nil ?_
        exact ⟨(), trivial, rfl, some_of hz_1⟩
    · rintro e st ⟨vz_1, hH, rfl, rfl⟩
      refine aw_keep _ hH ?_
      replace h0 := ocs_r h0
      refine aw_keep [] trivial ?_
      refine aw_seq ?_
      refine aw_region (by decide) ?_
      refine rts _ rfl (opD_assign (ev_const _ _)) ?_
      refine .nil ?_
      refine aw_keep [(4, _)] ⟨lg lz, trivial⟩ ?_
      refine aw_ret ?_
      obtain rfl := some_of h0
      exact done_ext (.inr rfl) ((res_one rfl (it_tmp oz)).le zLr) zPb

def F_eqlL_b0 (p0 : (List Lin)) (p1 : (List Lin)) (t_2 : Int) : Option ((Int) ⊕ ((Bool) ⊕ (Unit))) :=
  ifb (decide (t_2 < (p0.length : Int))) (ixb p0 t_2 fun x_4 => ixb p1 t_2 fun x_5 => ifb (!(decide (x_4.Seq = x_5.Seq) && (decide (x_4.Who = x_5.Who) && (decide (x_4.What = x_5.What) && (decide (x_4.Code = x_5.Code) && (decide (x_4.Key = x_5.Key) && true)))))) (some (.inr (.inl false))) (some (.inl (IntKind.i64.wrap (t_2 + 1))))) (some (.inr (.inr ())))
def F_eqlL (fl : Nat) (p0 : (List Lin)) (p1 : (List Lin)) : Option (Bool) :=
  ifb (decide ((p0.length : Int) ≠ (p1.length : Int))) (some false) (bnd (lp (F_eqlL_b0 p0 p1) fl 0) fun z_1 => ocs z_1 (fun qz_1_0 => some qz_1_0) fun z_1_0 => some true)
set_option maxRecDepth 100000 in
set_option maxHeartbeats 2000000 in
theorem c_eqlL {fl : Nat} {p0 : (List Lin)} {p1 : (List Lin)} {R : Bool} (h0 : F_eqlL fl p0 p1 = some R) : Pure Tryd.prog 110 [sl kLin none none p0, sl kLin none none p1] (pl (.bool R)) := by
  intro s
  unfold F_eqlL at h0
  refine ac_of_aw s.boxes.length s.fr.length Tryd.func110 rfl (by simp [Tryd.ntmps110]) ?_
  refine aw_ext0 ?_
  refine aw_keep [(0, _), (1, _)] ⟨lg ez, lg (es ez), trivial⟩ ?_
  refine aw_seq ?_
  refine aw_region (by decide) ?_
  refine rts _ rfl (opD_assign (ev_const _ _)) ?_
  refine .nil ?_
  refine aw_keep [(0, _), (1, _)] ⟨lg (ls rfl oz), lg (ls rfl (os rfl oz)), trivial⟩ ?_
  refine aw_seq ?_
  refine aw_seq ?_
  refine aw_region (by decide) ?_
  refine rts _ rfl (opD_move oz) ?_
  refine rts _ rfl (opD_len_sl Tryd.underlying55 lz) ?_
  refine rts _ rfl (opD_move (ls rfl (ls rfl (os rfl oz)))) ?_
  refine rts _ rfl (opD_len_sl Tryd.underlying55 lz) ?_
  refine rts _ rfl (opD_neq (ls rfl (ls rfl lz)) lz) ?_
  refine .nil ?_
  refine aw_keep [(0, _), (1, _), (10, _)] ⟨lg (ls rfl (ls rfl (ls rfl (ls rfl (ls rfl oz))))), lg (ls rfl (ls rfl (ls rfl (ls rfl (ls rfl (os rfl oz)))))), lg lz, trivial⟩ ?_
  refine aw_cond _ (os rfl (os rfl oz)) (fun hc => ?_) (fun hc => ?_)
  · skip
    replace h0 := ifb_t h0 hc
    clear hc
    refine aw_seq ?_
    refine aw_region (by decide) ?_
    refine rts _ rfl (opD_assign (ev_const _ _)) ?_
    refine .nil ?_
    refine aw_keep [(4, _)] ⟨lg lz, trivial⟩ ?_
    refine aw_ret ?_
    obtain rfl := some_of h0
    exact done_ext (.inr rfl) ((res_one rfl (it_tmp oz)).le zLr) zPb
  · skip
    replace h0 := ifb_f h0 hc
    clear hc
    refine aw_skip ?_
    refine aw_keep [(0, _), (1, _)] ⟨lg oz, lg (os rfl oz), trivial⟩ ?_
    refine aw_seq ?_
    refine aw_seq ?_
    refine aw_region (by decide) ?_
    refine rts _ rfl (opD_move oz) ?_
    refine rts _ rfl (opD_len_sl Tryd.underlying55 lz) ?_
    refine rts _ rfl (opD_move (ev_const _ _)) ?_
    refine .nil ?_
    refine aw_keep [(0, _), (1, _), (12, _), (13, _)] ⟨lg (ls rfl (ls rfl (ls rfl oz))), lg (ls rfl (ls rfl (ls rfl (os rfl oz)))), lg (ls rfl lz), lg lz, trivial⟩ ?_
    replace h0 := bnd_some h0
    obtain ⟨z_1, hz_1, h0⟩ := h0
    refine aw_mid (fun e st => ∃ v : Unit, Holds e [] ∧ st = s.ext [] [] ∧ (.inr v) = z_1) ?_ ?_
    · skip
      refine aw_wkN rfl 0 0 rfl rfl ?_
      refine aw_block ?_
      refine aw_loop (fun n e st => ∃ v : Int, Holds e [(0, sl kLin none none p0), (1, sl kLin none none p1), (12, pl (.int .i64 (p0.length : Int))), (13, pl (.int .i64 v))] ∧ st = s.ext [] [] ∧ lp (F_eqlL_b0 p0 p1) n v = some z_1) fl ⟨0, ⟨le_of_eq (eg oz), le_of_eq (eg (os rfl oz)), le_of_eq (eg (os rfl (os rfl oz))), le_of_eq (eg (os rfl (os rfl (os rfl oz)))), trivial⟩, rfl, hz_1⟩ ?_
      rintro n e st ⟨t_2, hH, rfl, hz_1⟩
      replace hz_1 := lp_some hz_1
      obtain ⟨m_z_3, z_3, rfl, hz_3, hz_1⟩ := hz_1
      unfold F_eqlL_b0 at hz_3
      refine aw_keep _ hH ?_
      refine aw_wkN rfl 0 0 rfl rfl ?_
      refine aw_seq ?_
      refine aw_region (by decide) ?_
      refine rts _ rfl (opD_lss (os rfl (os rfl (os rfl oz))) (os rfl (os rfl oz))) ?_
      refine .nil ?_
      refine aw_keep [(0, _), (1, _), (12, _), (13, _), (14, _)] ⟨lg (ls rfl oz), lg (ls rfl (os rfl oz)), lg (ls rfl (os rfl (os rfl oz))), lg (ls rfl (os rfl (os rfl (os rfl oz)))), lg lz, trivial⟩ ?_
      refine aw_seq ?_
      refine aw_cond _ (os rfl (os rfl (os rfl (os rfl oz)))) (fun hc => ?_) (fun hc => ?_)
      · skip
        replace hz_3 := ifb_t hz_3 hc
        clear hc
        refine aw_skip ?_
        refine aw_keep [(0, _), (1, _), (12, _), (13, _)] ⟨lg oz, lg (os rfl oz), lg (os rfl (os rfl oz)), lg (os rfl (os rfl (os rfl oz))), trivial⟩ ?_
        refine aw_seq ?_
        refine aw_block ?_
        refine aw_seq ?_
        refine aw_region (by decide) ?_
        refine rts _ rfl (opD_move (os rfl (os rfl (os rfl oz)))) ?_
        refine rts _ rfl (opD_assign lz) ?_
        refine .nil ?_
        refine aw_keep [(0, _), (1, _), (5, _), (12, _), (13, _)] ⟨lg (ls rfl (ls rfl oz)), lg (ls rfl (ls rfl (os rfl oz))), lg lz, lg (ls rfl (ls rfl (os rfl (os rfl oz)))), lg (ls rfl (ls rfl (os rfl (os rfl (os rfl oz))))), trivial⟩ ?_
        refine aw_seq ?_
        refine aw_flat mixed_u3c (by decide +kernel) ?_
        refine zts _ rfl (opD_move oz) ?_
        refine zts _ rfl (opD_move (ls rfl (os rfl (os rfl oz)))) ?_
        replace hz_3 := ixb_some hz_3
        obtain ⟨x_4, hx_4, hbx_4, hz_3⟩ := hz_3
        refine zts _ rfl (opD_indexAddr_sl (i := t_2.toNat) Tryd.underlying55 sz63_u3c (ls rfl lz) lz hbx_4.2.2 hbx_4.2.1) ?_
        refine zts _ rfl (opD_load_el_aggX (qs := [_, _, _, _, _]) ag63_u3c sz63_u3c lz hx_4 (zNb rfl) rfl) ?_
        refine zts _ rfl (opD_move (ls rfl (ls rfl (ls rfl (ls rfl (os rfl oz)))))) ?_
        refine zts _ rfl (opD_move (ls rfl (ls rfl (ls rfl (ls rfl (ls rfl (os rfl (os rfl oz)))))))) ?_
        replace hz_3 := ixb_some hz_3
        obtain ⟨x_5, hx_5, hbx_5, hz_3⟩ := hz_3
        refine zts _ rfl (opD_indexAddr_sl (i := t_2.toNat) Tryd.underlying55 sz63_u3c (ls rfl lz) lz hbx_5.2.2 hbx_5.2.1) ?_
        refine zts _ rfl (opD_load_el_aggX (qs := [_, _, _, _, _]) ag63_u3c sz63_u3c lz hx_5 (zNb rfl) rfl) ?_
        refine zts _ rfl (opD_binA [.int .u64 x_4.Seq, .int .u64 x_4.Who, .int .u8 x_4.What, .int .u16 x_4.Code, .string x_4.Key] [.int .u64 x_5.Seq, .int .u64 x_5.Who, .int .u8 x_5.What, .int .u16 x_5.Code, .string x_5.Key] (ls rfl (ls rfl (ls rfl (ls rfl lz)))) lz (fun w => (eq_Lin_g _ _ _ _ _ w)) (fun w => (eq_Lin _ _ _ _ _ _ _ _ _ _ w).2)) ?_
        refine .nil ?_
        refine aw_keep [(0, _), (1, _), (12, _), (13, _), (24, _)] ⟨lg (ls rfl (ls rfl (ls rfl (ls rfl (ls rfl (ls rfl (ls rfl (ls rfl (ls rfl oz))))))))), lg (ls rfl (ls rfl (ls rfl (ls rfl (ls rfl (ls rfl (ls rfl (ls rfl (ls rfl (os rfl oz)))))))))), lg (ls rfl (ls rfl (ls rfl (ls rfl (ls rfl (ls rfl (ls rfl (ls rfl (ls rfl (os rfl (os rfl (os rfl oz)))))))))))), lg (ls rfl (ls rfl (ls rfl (ls rfl (ls rfl (ls rfl (ls rfl (ls rfl (ls rfl (os rfl (os rfl (os rfl (os rfl oz))))))))))))), lg lz, trivial⟩ ?_
        refine aw_cond _ (os rfl (os rfl (os rfl (os rfl oz)))) (fun hc => ?_) (fun hc => ?_)
        · skip
          replace hz_3 := ifb_t hz_3 hc
          clear hc
          refine aw_seq ?_
          refine aw_region (by decide) ?_
          refine rts _ rfl (opD_assign (ev_const _ _)) ?_
          refine .nil ?_
          refine aw_keep [(4, _)] ⟨lg lz, trivial⟩ ?_
          refine aw_ret ?_
          obtain rfl := some_of hz_3
          replace hz_1 := ocs_r hz_1
          obtain rfl := some_of hz_1
          replace h0 := ocs_l h0
          refine wk_no ?_
          refine wk_no ?_
          obtain rfl := some_of h0
          exact done_ext (.inr rfl) ((res_one rfl (it_tmp oz)).le zLr) zPb
        · skip
          replace hz_3 := ifb_f hz_3 hc
          clear hc
          refine aw_skip ?_
          refine aw_keep [(0, _), (1, _), (12, _), (13, _)] ⟨lg oz, lg (os rfl oz), lg (os rfl (os rfl oz)), lg (os rfl (os rfl (os rfl oz))), trivial⟩ ?_
          refine aw_region (by decide) ?_
          refine rts _ rfl (opD_add (os rfl (os rfl (os rfl oz))) (ev_const _ _) rfl) ?_
          refine rts _ rfl (opD_move lz) ?_
          refine .nil ?_
          obtain rfl := some_of hz_3
          replace hz_1 := ocs_l hz_1
          refine wk_yesN rfl (l := [(0, sl kLin none none p0), (1, sl kLin none none p1), (12, pl (.int .i64 (p0.length : Int))), (13, pl (.int .i64 (IntKind.i64.wrap (t_2 + 1))))]) (bs' := []) ⟨le_of_eq (eg (ls rfl (ls rfl oz))), le_of_eq (eg (ls rfl (ls rfl (os rfl oz)))), le_of_eq (eg (ls rfl (ls rfl (os rfl (os rfl oz))))), le_of_eq (eg lz), trivial⟩ (zbc (sl_b kb_Lin) (zbc (sl_b kb_Lin) (zbc zPb (zbc zPb bnd_nil)))) (zNb rfl) (by simp only [znz] <;> rfl) bxle_nil rfl (by simp only [znz] <;> rfl) bl_nil ?_
          exact ⟨m_z_3, Nat.lt_succ_self _, IntKind.i64.wrap (t_2 + 1), ⟨le_of_eq (eg oz), le_of_eq (eg (os rfl oz)), le_of_eq (eg (os rfl (os rfl oz))), le_of_eq (eg (os rfl (os rfl (os rfl oz)))), trivial⟩, rfl, hz_1⟩
      · skip
        replace hz_3 := ifb_f hz_3 hc
        clear hc
        refine aw_exit ?_
        obtain rfl := some_of hz_3
        replace hz_1 := ocs_r hz_1
        refine wk_no ?_
        refine wk_yesN rfl (l := []) (bs' := []) trivial bnd_nil (zNb rfl) (by simp only [znz] <;> rfl) bxle_nil rfl (by simp only [znz] <;> rfl) bl_nil ?_
        exact ⟨(), trivial, rfl, some_of hz_1⟩
    · rintro e st ⟨vz_1, hH, rfl, rfl⟩
      refine aw_keep _ hH ?_
      replace h0 := ocs_r h0
      refine aw_keep [] trivial ?_
      refine aw_seq ?_
      refine aw_region (by decide) ?_
      refine rts _ rfl (opD_assign (ev_const _ _)) ?_
      refine .nil ?_
      refine aw_keep [(4, _)] ⟨lg lz, trivial⟩ ?_
      refine aw_ret ?_
      obtain rfl := some_of h0
      exact done_ext (.inr rfl) ((res_one rfl (it_tmp oz)).le zLr) zPb

def F_rsame (fl : Nat) (p0 : Rpl) (p1 : Rpl) : Option (Bool) :=
  bnd (gif (((((decide (p0.Code = p1.Code)) && (decide (p0.N = p1.N))) && (p0.Found == p1.Found)) && (decide (p0.Value = p1.Value))) == true) (F_eqlE fl p0.Rows p1.Rows)) fun x_1 => bnd (gif ((((((decide (p0.Code = p1.Code)) && (decide (p0.N = p1.N))) && (p0.Found == p1.Found)) && (decide (p0.Value = p1.Value))) && x_1) == true) (F_eqlF fl p0.Refs p1.Refs)) fun x_2 => bnd (gif (((((((decide (p0.Code = p1.Code)) && (decide (p0.N = p1.N))) && (p0.Found == p1.Found)) && (decide (p0.Value = p1.Value))) && x_1) && x_2) == true) (F_eqlL fl p0.Lines p1.Lines)) fun x_3 => some (((((((decide (p0.Code = p1.Code)) && (decide (p0.N = p1.N))) && (p0.Found == p1.Found)) && (decide (p0.Value = p1.Value))) && x_1) && x_2) && x_3)
set_option maxRecDepth 100000 in
set_option maxHeartbeats 2000000 in
theorem c_rsame {fl : Nat} {p0 : Rpl} {p1 : Rpl} {R : Bool} (h0 : F_rsame fl p0 p1 = some R) : Pure Tryd.prog 60 [agg [pl (.int .i64 p0.Code), pl (.int .u64 p0.N), pl (.bool p0.Found), pl (.string p0.Value), sl kEnt none none p0.Rows, sl kRf none none p0.Refs, sl kLin none none p0.Lines], agg [pl (.int .i64 p1.Code), pl (.int .u64 p1.N), pl (.bool p1.Found), pl (.string p1.Value), sl kEnt none none p1.Rows, sl kRf none none p1.Refs, sl kLin none none p1.Lines]] (pl (.bool R)) := by
  intro s
  unfold F_rsame at h0
  refine ac_of_aw s.boxes.length s.fr.length Tryd.func60 rfl (by simp [Tryd.ntmps60]) ?_
  refine aw_ext0 ?_
  refine aw_keep [(0, _), (1, _)] ⟨lg ez, lg (es ez), trivial⟩ ?_
  refine aw_seq ?_
  refine aw_region (by decide) ?_
  refine rts _ rfl (boxAN rfl oz (zbc zPb (zbc zPb (zbc zPb (zbc zPb (zbc (sl_b kb_Ent) (zbc (sl_b kb_Rf) (zbc (sl_b kb_Lin) bnd_nil))))))) (by first | exact List.length_nil | (simp only [List.length_cons, List.length_nil, Nat.zero_add, Nat.reduceAdd] <;> rfl)) (by simp only [znz] <;> rfl)) ?_
  refine rts _ rfl (boxAN rfl (ls rfl (os rfl oz)) (zbc zPb (zbc zPb (zbc zPb (zbc zPb (zbc (sl_b kb_Ent) (zbc (sl_b kb_Rf) (zbc (sl_b kb_Lin) bnd_nil))))))) (by first | exact List.length_nil | (simp only [List.length_cons, List.length_nil, Nat.zero_add, Nat.reduceAdd] <;> rfl)) (by simp only [znz] <;> rfl)) ?_
  refine rts _ rfl (opD_assign (ev_const _ _)) ?_
  refine .nil ?_
  refine aw_keep [(2, _), (3, _)] ⟨lg (ls rfl (ls rfl lz)), lg (ls rfl lz), trivial⟩ ?_
  refine aw_seq ?_
  refine aw_region (by decide) ?_
  refine rts _ rfl (opD_fieldAddr fo94_0_u3c oz) ?_
  refine rts _ rfl (opD_load_one ag3_u3c lz (loc_getN rfl rfl) rfl) ?_
  refine rts _ rfl (opD_fieldAddr fo94_0_u3c (ls rfl (ls rfl (os rfl oz)))) ?_
  refine rts _ rfl (opD_load_one ag3_u3c lz (loc_getN rfl rfl) rfl) ?_
  refine rts _ rfl (opD_eql (ls rfl (ls rfl lz)) lz) ?_
  refine rts _ rfl (opD_move lz) ?_
  refine rtg _ rfl lz (fun hg1_6_1 => opD_fieldAddr fo94_1_u3c (ls rfl (ls rfl (ls rfl (ls rfl (ls rfl (ls rfl oz))))))) ?_
  refine rtg _ rfl (ls rfl lz) (fun hg1_7_2 => opD_load_one ag22_u3c (lz.trans (pif_pos hg1_7_2)) (loc_getN rfl rfl) rfl) ?_
  refine rtg _ rfl (ls rfl (ls rfl lz)) (fun hg1_8_3 => opD_fieldAddr fo94_1_u3c (ls rfl (ls rfl (ls rfl (ls rfl (ls rfl (ls rfl (ls rfl (ls rfl (os rfl oz)))))))))) ?_
  refine rtg _ rfl (ls rfl (ls rfl (ls rfl lz))) (fun hg1_9_4 => opD_load_one ag22_u3c (lz.trans (pif_pos hg1_9_4)) (loc_getN rfl rfl) rfl) ?_
  refine rtg _ rfl (ls rfl (ls rfl (ls rfl (ls rfl lz)))) (fun hg1_10_5 => opD_eql ((ls rfl (ls rfl lz)).trans (pif_pos hg1_10_5)) (lz.trans (pif_pos hg1_10_5))) ?_
  refine rts _ rfl (opD_and (ls rfl (ls rfl (ls rfl (ls rfl (ls rfl lz))))) lz) ?_
  refine rts _ rfl (opD_move lz) ?_
  refine rtg _ rfl lz (fun hg1_13_6 => opD_fieldAddr fo94_2_u3c (ls rfl (ls rfl (ls rfl (ls rfl (ls rfl (ls rfl (ls rfl (ls rfl (ls rfl (ls rfl (ls rfl (ls rfl (ls rfl oz)))))))))))))) ?_
  refine rtg _ rfl (ls rfl lz) (fun hg1_14_7 => opD_load_one ag4_u3c (lz.trans (pif_pos hg1_14_7)) (loc_getN rfl rfl) rfl) ?_
  refine rtg _ rfl (ls rfl (ls rfl lz)) (fun hg1_15_8 => opD_fieldAddr fo94_2_u3c (ls rfl (ls rfl (ls rfl (ls rfl (ls rfl (ls rfl (ls rfl (ls rfl (ls rfl (ls rfl (ls rfl (ls rfl (ls rfl (ls rfl (ls rfl (os rfl oz))))))))))))))))) ?_
  refine rtg _ rfl (ls rfl (ls rfl (ls rfl lz))) (fun hg1_16_9 => opD_load_one ag4_u3c (lz.trans (pif_pos hg1_16_9)) (loc_getN rfl rfl) rfl) ?_
  refine rtg _ rfl (ls rfl (ls rfl (ls rfl (ls rfl lz)))) (fun hg1_17_10 => opD_beql Tryd.underlying4 ((ls rfl (ls rfl lz)).trans (pif_pos hg1_17_10)) (lz.trans (pif_pos hg1_17_10))) ?_
  refine rts _ rfl (opD_and (ls rfl (ls rfl (ls rfl (ls rfl (ls rfl lz))))) lz) ?_
  refine rts _ rfl (opD_move lz) ?_
  refine rtg _ rfl lz (fun hg1_20_11 => opD_fieldAddr fo94_3_u3c (ls rfl (ls rfl (ls rfl (ls rfl (ls rfl (ls rfl (ls rfl (ls rfl (ls rfl (ls rfl (ls rfl (ls rfl (ls rfl (ls rfl (ls rfl (ls rfl (ls rfl (ls rfl (ls rfl (ls rfl oz))))))))))))))))))))) ?_
  refine rtg _ rfl (ls rfl lz) (fun hg1_21_12 => opD_load_one ag9_u3c (lz.trans (pif_pos hg1_21_12)) (loc_getN rfl rfl) rfl) ?_
  refine rtg _ rfl (ls rfl (ls rfl lz)) (fun hg1_22_13 => opD_fieldAddr fo94_3_u3c (ls rfl (ls rfl (ls rfl (ls rfl (ls rfl (ls rfl (ls rfl (ls rfl (ls rfl (ls rfl (ls rfl (ls rfl (ls rfl (ls rfl (ls rfl (ls rfl (ls rfl (ls rfl (ls rfl (ls rfl (ls rfl (ls rfl (os rfl oz)))))))))))))))))))))))) ?_
  refine rtg _ rfl (ls rfl (ls rfl (ls rfl lz))) (fun hg1_23_14 => opD_load_one ag9_u3c (lz.trans (pif_pos hg1_23_14)) (loc_getN rfl rfl) rfl) ?_
  refine rtg _ rfl (ls rfl (ls rfl (ls rfl (ls rfl lz)))) (fun hg1_24_15 => opD_seql ((ls rfl (ls rfl lz)).trans (pif_pos hg1_24_15)) (lz.trans (pif_pos hg1_24_15))) ?_
  refine rts _ rfl (opD_and (ls rfl (ls rfl (ls rfl (ls rfl (ls rfl lz))))) lz) ?_
  refine rts _ rfl (opD_move lz) ?_
  refine rtg _ rfl lz (fun hg1_27_16 => opD_fieldAddr fo94_4_u3c (ls rfl (ls rfl (ls rfl (ls rfl (ls rfl (ls rfl (ls rfl (ls rfl (ls rfl (ls rfl (ls rfl (ls rfl (ls rfl (ls rfl (ls rfl (ls rfl (ls rfl (ls rfl (ls rfl (ls rfl (ls rfl (ls rfl (ls rfl (ls rfl (ls rfl (ls rfl (ls rfl oz)))))))))))))))))))))))))))) ?_
  refine rtg _ rfl (ls rfl lz) (fun hg1_28_17 => opD_load_one ag91_u3c (lz.trans (pif_pos hg1_28_17)) (loc_getN rfl rfl) rfl) ?_
  refine rtg _ rfl (ls rfl (ls rfl lz)) (fun hg1_29_18 => opD_fieldAddr fo94_4_u3c (ls rfl (ls rfl (ls rfl (ls rfl (ls rfl (ls rfl (ls rfl (ls rfl (ls rfl (ls rfl (ls rfl (ls rfl (ls rfl (ls rfl (ls rfl (ls rfl (ls rfl (ls rfl (ls rfl (ls rfl (ls rfl (ls rfl (ls rfl (ls rfl (ls rfl (ls rfl (ls rfl (ls rfl (ls rfl (os rfl oz))))))))))))))))))))))))))))))) ?_
  refine rtg _ rfl (ls rfl (ls rfl (ls rfl lz))) (fun hg1_30_19 => opD_load_one ag91_u3c (lz.trans (pif_pos hg1_30_19)) (loc_getN rfl rfl) rfl) ?_
  replace h0 := bnd_some h0
  obtain ⟨x_1, hx_1, h0⟩ := h0
  refine rtg _ rfl (ls rfl (ls rfl (ls rfl (ls rfl lz)))) (fun hg1_31_20 => opD_pure ht108_u3c (c_eqlE (gif_some hx_1 hg1_31_20)) ⟨le_of_eq ((ls rfl (ls rfl lz)).trans (pif_pos hg1_31_20)), le_of_eq (lz.trans (pif_pos hg1_31_20)), trivial⟩) ?_
  refine rts _ rfl (opD_and (ls rfl (ls rfl (ls rfl (ls rfl (ls rfl lz))))) lz) ?_
  refine rts _ rfl (opD_move lz) ?_
  refine rtg _ rfl lz (fun hg1_34_21 => opD_fieldAddr fo94_5_u3c (ls rfl (ls rfl (ls rfl (ls rfl (ls rfl (ls rfl (ls rfl (ls rfl (ls rfl (ls rfl (ls rfl (ls rfl (ls rfl (ls rfl (ls rfl (ls rfl (ls rfl (ls rfl (ls rfl (ls rfl (ls rfl (ls rfl (ls rfl (ls rfl (ls rfl (ls rfl (ls rfl (ls rfl (ls rfl (ls rfl (ls rfl (ls rfl (ls rfl (ls rfl oz))))))))))))))))))))))))))))))))))) ?_
  refine rtg _ rfl (ls rfl lz) (fun hg1_35_22 => opD_load_one ag92_u3c (lz.trans (pif_pos hg1_35_22)) (loc_getN rfl rfl) rfl) ?_
  refine rtg _ rfl (ls rfl (ls rfl lz)) (fun hg1_36_23 => opD_fieldAddr fo94_5_u3c (ls rfl (ls rfl (ls rfl (ls rfl (ls rfl (ls rfl (ls rfl (ls rfl (ls rfl (ls rfl (ls rfl (ls rfl (ls rfl (ls rfl (ls rfl (ls rfl (ls rfl (ls rfl (ls rfl (ls rfl (ls rfl (ls rfl (ls rfl (ls rfl (ls rfl (ls rfl (ls rfl (ls rfl (ls rfl (ls rfl (ls rfl (ls rfl (ls rfl (ls rfl (ls rfl (ls rfl (os rfl oz)))))))))))))))))))))))))))))))))))))) ?_
  refine rtg _ rfl (ls rfl (ls rfl (ls rfl lz))) (fun hg1_37_24 => opD_load_one ag92_u3c (lz.trans (pif_pos hg1_37_24)) (loc_getN rfl rfl) rfl) ?_
  replace h0 := bnd_some h0
  obtain ⟨x_2, hx_2, h0⟩ := h0
  refine rtg _ rfl (ls rfl (ls rfl (ls rfl (ls rfl lz)))) (fun hg1_38_25 => opD_pure ht109_u3c (c_eqlF (gif_some hx_2 hg1_38_25)) ⟨le_of_eq ((ls rfl (ls rfl lz)).trans (pif_pos hg1_38_25)), le_of_eq (lz.trans (pif_pos hg1_38_25)), trivial⟩) ?_
  refine rts _ rfl (opD_and (ls rfl (ls rfl (ls rfl (ls rfl (ls rfl lz))))) lz) ?_
  refine rts _ rfl (opD_move lz) ?_
  refine rtg _ rfl lz (fun hg1_41_26 => opD_fieldAddr fo94_6_u3c (ls rfl (ls rfl (ls rfl (ls rfl (ls rfl (ls rfl (ls rfl (ls rfl (ls rfl (ls rfl (ls rfl (ls rfl (ls rfl (ls rfl (ls rfl (ls rfl (ls rfl (ls rfl (ls rfl (ls rfl (ls rfl (ls rfl (ls rfl (ls rfl (ls rfl (ls rfl (ls rfl (ls rfl (ls rfl (ls rfl (ls rfl (ls rfl (ls rfl (ls rfl (ls rfl (ls rfl (ls rfl (ls rfl (ls rfl (ls rfl (ls rfl oz)))))))))))))))))))))))))))))))))))))))))) ?_
  refine rtg _ rfl (ls rfl lz) (fun hg1_42_27 => opD_load_one ag55_u3c (lz.trans (pif_pos hg1_42_27)) (loc_getN rfl rfl) rfl) ?_
  refine rtg _ rfl (ls rfl (ls rfl lz)) (fun hg1_43_28 => opD_fieldAddr fo94_6_u3c (ls rfl (ls rfl (ls rfl (ls rfl (ls rfl (ls rfl (ls rfl (ls rfl (ls rfl (ls rfl (ls rfl (ls rfl (ls rfl (ls rfl (ls rfl (ls rfl (ls rfl (ls rfl (ls rfl (ls rfl (ls rfl (ls rfl (ls rfl (ls rfl (ls rfl (ls rfl (ls rfl (ls rfl (ls rfl (ls rfl (ls rfl (ls rfl (ls rfl (ls rfl (ls rfl (ls rfl (ls rfl (ls rfl (ls rfl (ls rfl (ls rfl (ls rfl (ls rfl (os rfl oz))))))))))))))))))))))))))))))))))))))))))))) ?_
  refine rtg _ rfl (ls rfl (ls rfl (ls rfl lz))) (fun hg1_44_29 => opD_load_one ag55_u3c (lz.trans (pif_pos hg1_44_29)) (loc_getN rfl rfl) rfl) ?_
  replace h0 := bnd_some h0
  obtain ⟨x_3, hx_3, h0⟩ := h0
  refine rtg _ rfl (ls rfl (ls rfl (ls rfl (ls rfl lz)))) (fun hg1_45_30 => opD_pure ht110_u3c (c_eqlL (gif_some hx_3 hg1_45_30)) ⟨le_of_eq ((ls rfl (ls rfl lz)).trans (pif_pos hg1_45_30)), le_of_eq (lz.trans (pif_pos hg1_45_30)), trivial⟩) ?_
  refine rts _ rfl (opD_and (ls rfl (ls rfl (ls rfl (ls rfl (ls rfl lz))))) lz) ?_
  refine rts _ rfl (opD_assign lz) ?_
  refine .nil ?_
  refine aw_keep [(4, _)] ⟨lg lz, trivial⟩ ?_
  refine aw_ret ?_
  obtain rfl := some_of h0
  exact done_ext (.inr rfl) ((res_one rfl (it_tmp oz)).le zLr) zPb
end Go.Proofs.YtmnhfpcbfdgbcaaDoor.Eng.A
