/- EC4: what functions do, walked; used by the laws of this seat. -/
import Derived.Test.YtokcgacehdgkcaaDoorEC3
namespace Go.Proofs.YtokcgacehdgkcaaDoor.Eng.A
set_option linter.unusedVariables false
set_option linter.unusedSimpArgs false
open Go.RowKit Go.Proofs.YtokcgacehdgkcaaDoor.Plain Go.Proofs.YtokcgacehdgkcaaDoor.Eng Go.Proofs.YtokcgacehdgkcaaDoor.Eng.Pk Go.Proofs.YtokcgacehdgkcaaDoor.Eng.Rd

theorem zt66_C4 : zeroT Tryd.prog 66 = some [.int .u64 0, .bool false, .int .u64 0, .int .i64 0, .int .u64 0, .string ⟨#[]⟩, .int .u8 0] := by kernel_rfl
theorem fo62_0_C4 : fieldOff Tryd.prog 62 0 = some 0 := by kernel_rfl
theorem ag56_C4 : aggT Tryd.prog 56 = some false := by kernel_rfl
theorem fo62_1_C4 : fieldOff Tryd.prog 62 1 = some 1 := by kernel_rfl
theorem ag4_C4 : aggT Tryd.prog 4 = some false := by kernel_rfl
theorem fo62_2_C4 : fieldOff Tryd.prog 62 2 = some 2 := by kernel_rfl
theorem fo62_3_C4 : fieldOff Tryd.prog 62 3 = some 3 := by kernel_rfl
theorem ag58_C4 : aggT Tryd.prog 58 = some true := by kernel_rfl
theorem sz58_C4 : sizeT Tryd.prog 58 = some 2 := by kernel_rfl
theorem fo62_4_C4 : fieldOff Tryd.prog 62 4 = some 5 := by kernel_rfl
theorem ag60_C4 : aggT Tryd.prog 60 = some true := by kernel_rfl
theorem sz60_C4 : sizeT Tryd.prog 60 = some 2 := by kernel_rfl
theorem pt66_C4 : placesT Tryd.prog 66 5 = some [(0, 1), (1, 1), (2, 1), (3, 2), (5, 2)] := by kernel_rfl
theorem sz66_C4 : sizeT Tryd.prog 66 = some 7 := by kernel_rfl
theorem ag66_C4 : aggT Tryd.prog 66 = some true := by kernel_rfl
theorem pt63_C4 : placesT Tryd.prog 63 2 = some [(0, 1), (1, 1)] := by kernel_rfl
theorem zt63_C4 : zeroT Tryd.prog 63 = some [.int .i64 0, .int .u64 0] := by kernel_rfl
theorem pt64_C4 : placesT Tryd.prog 64 2 = some [(0, 1), (1, 1)] := by kernel_rfl
theorem zt64_C4 : zeroT Tryd.prog 64 = some [.string ⟨#[]⟩, .int .u8 0] := by kernel_rfl
theorem ht36_C4 : hasText Tryd.prog 36 = true := by kernel_rfl
theorem ht37_C4 : hasText Tryd.prog 37 = true := by kernel_rfl
theorem ht38_C4 : hasText Tryd.prog 38 = true := by kernel_rfl
theorem ht39_C4 : hasText Tryd.prog 39 = true := by kernel_rfl
theorem sz63_C4 : sizeT Tryd.prog 63 = some 2 := by kernel_rfl
theorem ht40_C4 : hasText Tryd.prog 40 = true := by kernel_rfl
theorem fo63_1_C4 : fieldOff Tryd.prog 63 1 = some 1 := by kernel_rfl
theorem ag62_C4 : aggT Tryd.prog 62 = some true := by kernel_rfl
theorem sz62_C4 : sizeT Tryd.prog 62 = some 7 := by kernel_rfl
theorem ht33_C4 : hasText Tryd.prog 33 = true := by kernel_rfl
theorem ht34_C4 : hasText Tryd.prog 34 = true := by kernel_rfl
theorem ht35_C4 : hasText Tryd.prog 35 = true := by kernel_rfl
theorem sz5_C4 : sizeT Tryd.prog 5 = some 1 := by kernel_rfl
theorem fo66_0_C4 : fieldOff Tryd.prog 66 0 = some 0 := by kernel_rfl
theorem ag63_C4 : aggT Tryd.prog 63 = some true := by kernel_rfl

open Go.Proofs.YtokcgacehdgkcaaDoor.Eng.Er Go.Proofs.YtokcgacehdgkcaaDoor.Eng.Er2 Go.Proofs.YtokcgacehdgkcaaDoor.Eng.Pb

def oNum28 (o : Option Int) : Option Int := some (numV o)
theorem c_num28 {p0 : Option Int} {R : Int} {s : St} (h0 : oNum28 p0 = some R) (hst : StC s) : AC Tryd.prog 40 [pl (errV p0)] s (pl (.int .i64 R)) s := by obtain rfl := some_of h0; exact num28 hst.1

def F_l28giveCap (p0 : Cap) : Option (Cap) :=
  some p0
set_option maxRecDepth 100000 in
set_option maxHeartbeats 2000000 in
theorem c_l28giveCap {p0 : Cap} {R : Cap} (h0 : F_l28giveCap p0 = some R) : Pure Tryd.prog 33 [agg [pl (.int .u64 p0.Gen), pl (.bool p0.Live), pl (.int .u64 p0.Holder), pl (.int .i64 p0.From.Slot), pl (.int .u64 p0.From.Gen), pl (.string p0.Scope.Prefix), pl (.int .u8 p0.Scope.Rights)]] (agg [pl (.int .u64 R.Gen), pl (.bool R.Live), pl (.int .u64 R.Holder), pl (.int .i64 R.From.Slot), pl (.int .u64 R.From.Gen), pl (.string R.Scope.Prefix), pl (.int .u8 R.Scope.Rights)]) := by
  intro s
  unfold F_l28giveCap at h0
  refine ac_of_aw s.boxes.length s.fr.length Tryd.func33 rfl (by simp [Tryd.ntmps33]) ?_
  refine aw_ext0 ?_
  refine aw_keep [(0, _)] ⟨lg ez, trivial⟩ ?_
  refine aw_seq ?_
  refine aw_region (by decide) ?_
  refine rts _ rfl (boxAN (n := 0) rfl oz (zbc zPb (zbc zPb (zbc zPb (zbc zPb (zbc zPb (zbc zPb (zbc zPb bnd_nil))))))) (by first | exact List.length_nil | (simp only [List.length_cons, List.length_nil, Nat.zero_add, Nat.reduceAdd] <;> rfl)) (by simp only [znz] <;> rfl)) ?_
  refine rts _ rfl (allocN rfl zt66_C4 (by first | exact List.length_nil | (simp only [List.length_cons, List.length_nil, Nat.zero_add, Nat.reduceAdd] <;> rfl)) (by simp only [znz] <;> rfl)) ?_
  refine .nil ?_
  refine aw_keep [(1, _), (2, _)] ⟨lg (ls rfl lz), lg lz, trivial⟩ ?_
  refine aw_seq ?_
  refine aw_region (by decide) ?_
  refine rts _ rfl (opD_fieldAddr fo62_0_C4 oz) ?_
  refine rts _ rfl (opD_load_one ag56_C4 lz (loc_getN rfl rfl) rfl) ?_
  refine rts _ rfl (opD_fieldAddr fo62_1_C4 (ls rfl (ls rfl oz))) ?_
  refine rts _ rfl (opD_load_one ag4_C4 lz (loc_getN rfl rfl) rfl) ?_
  refine rts _ rfl (opD_fieldAddr fo62_2_C4 (ls rfl (ls rfl (ls rfl (ls rfl oz))))) ?_
  refine rts _ rfl (opD_load_one ag56_C4 lz (loc_getN rfl rfl) rfl) ?_
  refine rts _ rfl (opD_fieldAddr fo62_3_C4 (ls rfl (ls rfl (ls rfl (ls rfl (ls rfl (ls rfl oz))))))) ?_
  refine rts _ rfl (opD_load_aggX (qs := [_, _]) ag58_C4 sz58_C4 lz (loc_getN rfl rfl) (zNb rfl) rfl) ?_
  refine rts _ rfl (opD_fieldAddr fo62_4_C4 (ls rfl (ls rfl (ls rfl (ls rfl (ls rfl (ls rfl (ls rfl (ls rfl oz))))))))) ?_
  refine rts _ rfl (opD_load_aggX (qs := [_, _]) ag60_C4 sz60_C4 lz (loc_getN rfl rfl) (zNb rfl) rfl) ?_
  refine rts _ rfl (opD_build_struct (rs := [_, _, _, _, _, _, _]) Tryd.underlying66 pt66_C4 zt66_C4 (parts_cons (cells1 (ls rfl (ls rfl (ls rfl (ls rfl (ls rfl (ls rfl (ls rfl (ls rfl lz)))))))) (one_pl rfl)) (parts_cons (cells1 (ls rfl (ls rfl (ls rfl (ls rfl (ls rfl (ls rfl lz)))))) (one_pl rfl)) (parts_cons (cells1 (ls rfl (ls rfl (ls rfl (ls rfl lz)))) (one_pl rfl)) (parts_cons (cellsA (ls rfl (ls rfl lz))) (parts_cons (cellsA lz) parts_nil))))) (fill_step rfl (by rfl) (by rfl) (by simp only [na, nb, nl, nc, nd, nh, ni, nj, nk, nm, Nat.reduceAdd] <;> rfl) (fill_step rfl (by rfl) (by rfl) (by simp only [na, nb, nl, nc, nd, nh, ni, nj, nk, nm, Nat.reduceAdd] <;> rfl) (fill_step rfl (by rfl) (by rfl) (by simp only [na, nb, nl, nc, nd, nh, ni, nj, nk, nm, Nat.reduceAdd] <;> rfl) (fill_step rfl (by rfl) (by rfl) (by simp only [na, nb, nl, nc, nd, nh, ni, nj, nk, nm, Nat.reduceAdd] <;> rfl) (fill_step rfl (by rfl) (by rfl) (by simp only [na, nb, nl, nc, nd, nh, ni, nj, nk, nm, Nat.reduceAdd] <;> rfl) fill_nil)))))) ?_
  refine rts _ rfl (storeAN rfl sz66_C4 (ls rfl (ls rfl (ls rfl (ls rfl (ls rfl (ls rfl (ls rfl (ls rfl (ls rfl (ls rfl (ls rfl (os rfl oz)))))))))))) lz (ones_cons (one_pl rfl) (ones_cons (one_pl rfl) (ones_cons (one_pl rfl) (ones_cons (one_pl rfl) (ones_cons (one_pl rfl) (ones_cons (one_pl rfl) (ones_cons (one_pl rfl) ones_nil))))))) rfl rfl (zNb rfl) (List.cons_ne_nil _ _) (zbc zPb (zbc zPb (zbc zPb (zbc zPb (zbc zPb (zbc zPb (zbc zPb bnd_nil))))))) (by simp only [znz] <;> rfl) (by simp only [znz] <;> rfl)) ?_
  refine .nil ?_
  refine aw_keep [(2, _)] ⟨lg (lx (ls rfl (ls rfl (ls rfl (ls rfl (ls rfl (ls rfl (ls rfl (ls rfl (ls rfl (ls rfl (ls rfl (os rfl oz))))))))))))), trivial⟩ ?_
  refine aw_ret ?_
  obtain rfl := some_of h0
  exact done_ext (.inr rfl) ((res_one rfl (it_cellA (B := ⟨66, [_, _, _, _, _, _, _]⟩) ag66_C4 sz66_C4 oz (loc_getN rfl rfl) rfl)).le (agg_le ⟨zLr, zLr, zLr, zLr, zLr, zLr, zLr, trivial⟩)) (agg_bnd (zbc zPb (zbc zPb (zbc zPb (zbc zPb (zbc zPb (zbc zPb (zbc zPb bnd_nil))))))))

def F_l28sure : Option (Bool) :=
  bnd (F_cenc 3 (⟨2, true, 7, (⟨0, 1⟩ : Rf), (⟨(⟨#[97]⟩ : ByteArray), 3⟩ : Scp)⟩ : Cap)) fun x_1 => bnd (F_cdec 3 x_1.1) fun x_2 => bnd (F_cenc 0 (⟨2, true, 7, (⟨0, 1⟩ : Rf), (⟨(⟨#[97]⟩ : ByteArray), 3⟩ : Scp)⟩ : Cap)) fun x_3 => bnd (F_cname (⟨3, 2⟩ : Rf)) fun x_4 => bnd (F_cparse x_4.1) fun x_5 => bnd (gif ((((((x_1.2.isNone && x_2.2.isNone) && x_4.2.isNone) && x_5.2.isNone) && (decide ((x_1.1.length : Int) = 8))) && (decide (x_2.1.Gen = 2) && (decide (x_2.1.Live = true) && (decide (x_2.1.Holder = 7) && (decide (x_2.1.From.Slot = 0) && (decide (x_2.1.From.Gen = 1) && (decide (x_2.1.Scope.Prefix = (⟨#[97]⟩ : ByteArray)) && (decide (x_2.1.Scope.Rights = 3) && true)))))))) == true) (oNum28 x_3.2)) fun x_6 => some ((((((((x_1.2.isNone && x_2.2.isNone) && x_4.2.isNone) && x_5.2.isNone) && (decide ((x_1.1.length : Int) = 8))) && (decide (x_2.1.Gen = 2) && (decide (x_2.1.Live = true) && (decide (x_2.1.Holder = 7) && (decide (x_2.1.From.Slot = 0) && (decide (x_2.1.From.Gen = 1) && (decide (x_2.1.Scope.Prefix = (⟨#[97]⟩ : ByteArray)) && (decide (x_2.1.Scope.Rights = 3) && true)))))))) && (decide (x_6 = 1))) && (decide (x_4.1 = (⟨#[51, 46, 50]⟩ : ByteArray)))) && (decide (x_5.1.Gen = 2)))
set_option maxRecDepth 100000 in
set_option maxHeartbeats 2000000 in
theorem c_l28sure {R : Bool} {s : St} (h0 : F_l28sure = some R) (hst : StC s) : AC Tryd.prog 35 [] s (pl (.bool R)) s := by
  unfold F_l28sure at h0
  refine ac_of_aw s.boxes.length s.fr.length Tryd.func35 rfl (by simp [Tryd.ntmps35]) ?_
  refine aw_ext0 ?_
  refine aw_keep [] trivial ?_
  refine aw_seq ?_
  refine aw_region (by decide) ?_
  refine rts _ rfl (opD_assign (ev_const _ _)) ?_
  refine .nil ?_
  refine aw_keep [] trivial ?_
  refine aw_seq ?_
  refine aw_region (by decide) ?_
  refine rts _ rfl (opD_build_struct (rs := [_, _]) Tryd.underlying63 pt63_C4 zt63_C4 (parts_cons (cells1 (ev_const _ _) (one_pl rfl)) (parts_cons (cells1 (ev_const _ _) (one_pl rfl)) parts_nil)) rfl) ?_
  refine rts _ rfl (opD_build_struct (rs := [_, _]) Tryd.underlying64 pt64_C4 zt64_C4 (parts_cons (cells1 (ev_const _ _) (one_pl rfl)) (parts_cons (cells1 (ev_const _ _) (one_pl rfl)) parts_nil)) rfl) ?_
  refine rts _ rfl (opD_build_struct (rs := [_, _, _, _, _, _, _]) Tryd.underlying66 pt66_C4 zt66_C4 (parts_cons (cells1 (ev_const _ _) (one_pl rfl)) (parts_cons (cells1 (ev_const _ _) (one_pl rfl)) (parts_cons (cells1 (ev_const _ _) (one_pl rfl)) (parts_cons (cellsA (ls rfl lz)) (parts_cons (cellsA lz) parts_nil))))) (fill_step rfl (by rfl) (by rfl) (by simp only [na, nb, nl, nc, nd, nh, ni, nj, nk, nm, Nat.reduceAdd] <;> rfl) (fill_step rfl (by rfl) (by rfl) (by simp only [na, nb, nl, nc, nd, nh, ni, nj, nk, nm, Nat.reduceAdd] <;> rfl) (fill_step rfl (by rfl) (by rfl) (by simp only [na, nb, nl, nc, nd, nh, ni, nj, nk, nm, Nat.reduceAdd] <;> rfl) (fill_step rfl (by rfl) (by rfl) (by simp only [na, nb, nl, nc, nd, nh, ni, nj, nk, nm, Nat.reduceAdd] <;> rfl) (fill_step rfl (by rfl) (by rfl) (by simp only [na, nb, nl, nc, nd, nh, ni, nj, nk, nm, Nat.reduceAdd] <;> rfl) fill_nil)))))) ?_
  refine rts _ rfl (allocN rfl zt66_C4 (by first | exact List.length_nil | (simp only [List.length_cons, List.length_nil, Nat.zero_add, Nat.reduceAdd] <;> rfl)) (by simp only [znz] <;> rfl)) ?_
  refine rts _ rfl (storeAN rfl sz66_C4 lz (ls rfl lz) (ones_cons (one_pl rfl) (ones_cons (one_pl rfl) (ones_cons (one_pl rfl) (ones_cons (one_pl rfl) (ones_cons (one_pl rfl) (ones_cons (one_pl rfl) (ones_cons (one_pl rfl) ones_nil))))))) rfl rfl (zNb rfl) (List.cons_ne_nil _ _) (zbc zPb (zbc zPb (zbc zPb (zbc zPb (zbc zPb (zbc zPb (zbc zPb bnd_nil))))))) (by simp only [znz] <;> rfl) (by simp only [znz] <;> rfl)) ?_
  refine .nil ?_
  refine aw_keep [(1, _)] ⟨lg (lx lz), trivial⟩ ?_
  refine aw_seq ?_
  refine aw_region (by decide) ?_
  refine rts _ rfl (opD_load_aggX (qs := [_, _, _, _, _, _, _]) ag66_C4 sz66_C4 oz (loc_getN rfl rfl) (zNb rfl) rfl) ?_
  replace h0 := bnd_some h0
  obtain ⟨x_1, hx_1, h0⟩ := h0
  refine rts _ rfl (opD_pure ht36_C4 (c_cenc hx_1) ⟨le_of_eq (ev_const _ _), (le_of_eq lz).trans (agg_le ⟨zLr, zLr, zLr, zLr, zLr, zLr, zLr, trivial⟩), trivial⟩) ?_
  refine rts _ rfl (opD_move lz) ?_
  refine rts _ rfl (opD_extract lz rfl) ?_
  refine rts _ rfl (opD_extract (ls rfl lz) rfl) ?_
  refine rts _ rfl (opD_assign (ls rfl lz)) ?_
  refine rts _ rfl (opD_assign (ls rfl lz)) ?_
  refine .nil ?_
  refine aw_keep [(1, _), (2, _), (3, _)] ⟨lg (ls rfl (ls rfl (ls rfl (ls rfl (ls rfl (ls rfl (ls rfl oz))))))), lg (ls rfl lz), lg lz, trivial⟩ ?_
  refine aw_seq ?_
  refine aw_region (by decide) ?_
  refine rts _ rfl (opD_move (os rfl oz)) ?_
  replace h0 := bnd_some h0
  obtain ⟨x_2, hx_2, h0⟩ := h0
  refine rts _ rfl (opD_pure ht37_C4 (c_cdec hx_2) ⟨le_of_eq (ev_const _ _), le_of_eq lz, trivial⟩) ?_
  refine rts _ rfl (opD_move lz) ?_
  refine rts _ rfl (opD_extract lz rfl) ?_
  refine rts _ rfl (opD_extract (ls rfl lz) rfl) ?_
  refine rts _ rfl (allocN rfl zt66_C4 (by first | exact List.length_nil | (simp only [List.length_cons, List.length_nil, Nat.zero_add, Nat.reduceAdd] <;> rfl)) (by simp only [znz] <;> rfl)) ?_
  refine rts _ rfl (storeAN rfl sz66_C4 lz (ls rfl (ls rfl lz)) (ones_cons (one_pl rfl) (ones_cons (one_pl rfl) (ones_cons (one_pl rfl) (ones_cons (one_pl rfl) (ones_cons (one_pl rfl) (ones_cons (one_pl rfl) (ones_cons (one_pl rfl) ones_nil))))))) rfl rfl (zNb rfl) (List.cons_ne_nil _ _) (zbc zPb (zbc zPb (zbc zPb (zbc zPb (zbc zPb (zbc zPb (zbc zPb bnd_nil))))))) (by simp only [znz] <;> rfl) (by simp only [znz] <;> rfl)) ?_
  refine rts _ rfl (opD_assign (lx (ls rfl lz))) ?_
  refine .nil ?_
  refine aw_keep [(1, _), (2, _), (3, _), (4, _), (5, _)] ⟨lg (ls rfl (lx (ls rfl (ls rfl (ls rfl (ls rfl (ls rfl (ls rfl oz)))))))), lg (ls rfl (lx (ls rfl (ls rfl (ls rfl (ls rfl (ls rfl (ls rfl (os rfl oz))))))))), lg (ls rfl (lx (ls rfl (ls rfl (ls rfl (ls rfl (ls rfl (ls rfl (os rfl (os rfl oz)))))))))), lg (ls rfl (lx lz)), lg lz, trivial⟩ ?_
  refine aw_seq ?_
  refine aw_region (by decide) ?_
  refine rts _ rfl (opD_load_aggX (qs := [_, _, _, _, _, _, _]) ag66_C4 sz66_C4 oz (loc_getN rfl rfl) (zNb rfl) rfl) ?_
  replace h0 := bnd_some h0
  obtain ⟨x_3, hx_3, h0⟩ := h0
  refine rts _ rfl (opD_pure ht36_C4 (c_cenc hx_3) ⟨le_of_eq (ev_const _ _), (le_of_eq lz).trans (agg_le ⟨zLr, zLr, zLr, zLr, zLr, zLr, zLr, trivial⟩), trivial⟩) ?_
  refine rts _ rfl (opD_move lz) ?_
  refine rts _ rfl (opD_extract lz rfl) ?_
  refine rts _ rfl (opD_extract (ls rfl lz) rfl) ?_
  refine rts _ rfl (opD_assign (ls rfl lz)) ?_
  refine rts _ rfl (opD_assign (ls rfl lz)) ?_
  refine .nil ?_
  refine aw_keep [(1, _), (2, _), (3, _), (4, _), (5, _), (7, _)] ⟨lg (ls rfl (ls rfl (ls rfl (ls rfl (ls rfl (ls rfl (ls rfl oz))))))), lg (ls rfl (ls rfl (ls rfl (ls rfl (ls rfl (ls rfl (ls rfl (os rfl oz)))))))), lg (ls rfl (ls rfl (ls rfl (ls rfl (ls rfl (ls rfl (ls rfl (os rfl (os rfl oz))))))))), lg (ls rfl (ls rfl (ls rfl (ls rfl (ls rfl (ls rfl (ls rfl (os rfl (os rfl (os rfl oz)))))))))), lg (ls rfl (ls rfl (ls rfl (ls rfl (ls rfl (ls rfl (ls rfl (os rfl (os rfl (os rfl (os rfl oz))))))))))), lg lz, trivial⟩ ?_
  refine aw_seq ?_
  refine aw_region (by decide) ?_
  refine rts _ rfl (opD_build_struct (rs := [_, _]) Tryd.underlying63 pt63_C4 zt63_C4 (parts_cons (cells1 (ev_const _ _) (one_pl rfl)) (parts_cons (cells1 (ev_const _ _) (one_pl rfl)) parts_nil)) rfl) ?_
  replace h0 := bnd_some h0
  obtain ⟨x_4, hx_4, h0⟩ := h0
  refine rts _ rfl (opD_call ht38_C4 (c_cname hx_4 hst) ⟨(le_of_eq lz).trans (agg_le ⟨zLr, zLr, trivial⟩), trivial⟩) ?_
  refine rts _ rfl (opD_move lz) ?_
  refine rts _ rfl (opD_extract lz rfl) ?_
  refine rts _ rfl (opD_extract (ls rfl lz) rfl) ?_
  refine rts _ rfl (opD_assign (ls rfl lz)) ?_
  refine rts _ rfl (opD_assign (ls rfl lz)) ?_
  refine .nil ?_
  refine aw_keep [(1, _), (2, _), (3, _), (4, _), (5, _), (7, _), (8, _), (9, _)] ⟨lg (ls rfl (ls rfl (ls rfl (ls rfl (ls rfl (ls rfl (ls rfl oz))))))), lg (ls rfl (ls rfl (ls rfl (ls rfl (ls rfl (ls rfl (ls rfl (os rfl oz)))))))), lg (ls rfl (ls rfl (ls rfl (ls rfl (ls rfl (ls rfl (ls rfl (os rfl (os rfl oz))))))))), lg (ls rfl (ls rfl (ls rfl (ls rfl (ls rfl (ls rfl (ls rfl (os rfl (os rfl (os rfl oz)))))))))), lg (ls rfl (ls rfl (ls rfl (ls rfl (ls rfl (ls rfl (ls rfl (os rfl (os rfl (os rfl (os rfl oz))))))))))), lg (ls rfl (ls rfl (ls rfl (ls rfl (ls rfl (ls rfl (ls rfl (os rfl (os rfl (os rfl (os rfl (os rfl oz)))))))))))), lg (ls rfl lz), lg lz, trivial⟩ ?_
  refine aw_seq ?_
  refine aw_region (by decide) ?_
  refine rts _ rfl (opD_move (os rfl (os rfl (os rfl (os rfl (os rfl (os rfl oz))))))) ?_
  replace h0 := bnd_some h0
  obtain ⟨x_5, hx_5, h0⟩ := h0
  refine rts _ rfl (opD_call ht39_C4 (c_cparse hx_5 hst) ⟨le_of_eq lz, trivial⟩) ?_
  refine rts _ rfl (opD_move lz) ?_
  refine rts _ rfl (opD_extract lz rfl) ?_
  refine rts _ rfl (opD_extract (ls rfl lz) rfl) ?_
  refine rts _ rfl (allocN rfl zt63_C4 (by first | exact List.length_nil | (simp only [List.length_cons, List.length_nil, Nat.zero_add, Nat.reduceAdd] <;> rfl)) (by simp only [znz] <;> rfl)) ?_
  refine rts _ rfl (storeAN rfl sz63_C4 lz (ls rfl (ls rfl lz)) (ones_cons (one_pl rfl) (ones_cons (one_pl rfl) ones_nil)) rfl rfl (zNb rfl) (List.cons_ne_nil _ _) (zbc zPb (zbc zPb bnd_nil)) (by simp only [znz] <;> rfl) (by simp only [znz] <;> rfl)) ?_
  refine rts _ rfl (opD_assign (lx (ls rfl lz))) ?_
  refine .nil ?_
  refine aw_keep [(1, _), (2, _), (3, _), (4, _), (5, _), (7, _), (8, _), (9, _), (10, _), (11, _)] ⟨lg (ls rfl (lx (ls rfl (ls rfl (ls rfl (ls rfl (ls rfl (ls rfl oz)))))))), lg (ls rfl (lx (ls rfl (ls rfl (ls rfl (ls rfl (ls rfl (ls rfl (os rfl oz))))))))), lg (ls rfl (lx (ls rfl (ls rfl (ls rfl (ls rfl (ls rfl (ls rfl (os rfl (os rfl oz)))))))))), lg (ls rfl (lx (ls rfl (ls rfl (ls rfl (ls rfl (ls rfl (ls rfl (os rfl (os rfl (os rfl oz))))))))))), lg (ls rfl (lx (ls rfl (ls rfl (ls rfl (ls rfl (ls rfl (ls rfl (os rfl (os rfl (os rfl (os rfl oz)))))))))))), lg (ls rfl (lx (ls rfl (ls rfl (ls rfl (ls rfl (ls rfl (ls rfl (os rfl (os rfl (os rfl (os rfl (os rfl oz))))))))))))), lg (ls rfl (lx (ls rfl (ls rfl (ls rfl (ls rfl (ls rfl (ls rfl (os rfl (os rfl (os rfl (os rfl (os rfl (os rfl oz)))))))))))))), lg (ls rfl (lx (ls rfl (ls rfl (ls rfl (ls rfl (ls rfl (ls rfl (os rfl (os rfl (os rfl (os rfl (os rfl (os rfl (os rfl oz))))))))))))))), lg (ls rfl (lx lz)), lg lz, trivial⟩ ?_
  refine aw_seq ?_
  refine aw_region (by decide) ?_
  refine rts _ rfl (opD_move (os rfl (os rfl oz))) ?_
  refine rts _ rfl (opD_bin lz (ev_const _ _) (fun w => errV_geql _ w _) (fun w => errV_eql _ w)) ?_
  refine rts _ rfl (opD_move lz) ?_
  refine rtg _ rfl lz (fun hg7_3_1 => opD_move (ls rfl (ls rfl (ls rfl (os rfl (os rfl (os rfl (os rfl oz)))))))) ?_
  refine rtg _ rfl (ls rfl lz) (fun hg7_4_2 => opD_bin (lz.trans (pif_pos hg7_4_2)) (ev_const _ _) (fun w => errV_geql _ w _) (fun w => errV_eql _ w)) ?_
  refine rts _ rfl (opD_and (ls rfl (ls rfl lz)) lz) ?_
  refine rts _ rfl (opD_move lz) ?_
  refine rtg _ rfl lz (fun hg7_7_3 => opD_move (ls rfl (ls rfl (ls rfl (ls rfl (ls rfl (ls rfl (ls rfl (os rfl (os rfl (os rfl (os rfl (os rfl (os rfl (os rfl oz))))))))))))))) ?_
  refine rtg _ rfl (ls rfl lz) (fun hg7_8_4 => opD_bin (lz.trans (pif_pos hg7_8_4)) (ev_const _ _) (fun w => errV_geql _ w _) (fun w => errV_eql _ w)) ?_
  refine rts _ rfl (opD_and (ls rfl (ls rfl lz)) lz) ?_
  refine rts _ rfl (opD_move lz) ?_
  refine rtg _ rfl lz (fun hg7_11_5 => opD_move (ls rfl (ls rfl (ls rfl (ls rfl (ls rfl (ls rfl (ls rfl (ls rfl (ls rfl (ls rfl (ls rfl (os rfl (os rfl (os rfl (os rfl (os rfl (os rfl (os rfl (os rfl (os rfl oz))))))))))))))))))))) ?_
  refine rtg _ rfl (ls rfl lz) (fun hg7_12_6 => opD_bin (lz.trans (pif_pos hg7_12_6)) (ev_const _ _) (fun w => errV_geql _ w _) (fun w => errV_eql _ w)) ?_
  refine rts _ rfl (opD_and (ls rfl (ls rfl lz)) lz) ?_
  refine rts _ rfl (opD_move lz) ?_
  refine rtg _ rfl lz (fun hg7_15_7 => opD_move (ls rfl (ls rfl (ls rfl (ls rfl (ls rfl (ls rfl (ls rfl (ls rfl (ls rfl (ls rfl (ls rfl (ls rfl (ls rfl (ls rfl (ls rfl (os rfl oz))))))))))))))))) ?_
  refine rtg _ rfl (ls rfl lz) (fun hg7_16_8 => opD_len_sl Tryd.underlying26 (lz.trans (pif_pos hg7_16_8))) ?_
  refine rtg _ rfl (ls rfl (ls rfl lz)) (fun hg7_17_9 => opD_eql (lz.trans (pif_pos hg7_17_9)) (ev_const _ _)) ?_
  refine rts _ rfl (opD_and (ls rfl (ls rfl (ls rfl lz))) lz) ?_
  refine rts _ rfl (opD_move lz) ?_
  refine rtg _ rfl lz (fun hg7_20_10 => opD_load_aggX (qs := [_, _, _, _, _, _, _]) ag66_C4 sz66_C4 (ls rfl (ls rfl (ls rfl (ls rfl (ls rfl (ls rfl (ls rfl (ls rfl (ls rfl (ls rfl (ls rfl (ls rfl (ls rfl (ls rfl (ls rfl (ls rfl (ls rfl (ls rfl (ls rfl (ls rfl (os rfl (os rfl (os rfl oz))))))))))))))))))))))) (loc_getN rfl rfl) (zNb rfl) rfl) ?_
  refine rtg _ rfl (ls rfl lz) (fun hg7_21_11 => opD_load_aggX (qs := [_, _, _, _, _, _, _]) ag66_C4 sz66_C4 (ls rfl (ls rfl (ls rfl (ls rfl (ls rfl (ls rfl (ls rfl (ls rfl (ls rfl (ls rfl (ls rfl (ls rfl (ls rfl (ls rfl (ls rfl (ls rfl (ls rfl (ls rfl (ls rfl (ls rfl (ls rfl oz))))))))))))))))))))) (loc_getN rfl rfl) (zNb rfl) rfl) ?_
  refine rtg _ rfl (ls rfl (ls rfl lz)) (fun hg7_22_12 => opD_binA [.int .u64 x_2.1.Gen, .bool x_2.1.Live, .int .u64 x_2.1.Holder, .int .i64 x_2.1.From.Slot, .int .u64 x_2.1.From.Gen, .string x_2.1.Scope.Prefix, .int .u8 x_2.1.Scope.Rights] [.int .u64 2, .bool true, .int .u64 7, .int .i64 0, .int .u64 1, .string (⟨#[97]⟩ : ByteArray), .int .u8 3] ((ls rfl lz).trans (pif_pos hg7_22_12)) (lz.trans (pif_pos hg7_22_12)) (fun w => (eq_Cap_g _ _ _ _ _ w)) (fun w => (eq_Cap _ _ _ _ _ _ _ _ _ _ _ _ _ _ w).1)) ?_
  refine rts _ rfl (opD_and (ls rfl (ls rfl (ls rfl lz))) lz) ?_
  refine rts _ rfl (opD_move lz) ?_
  refine rtg _ rfl lz (fun hg7_25_13 => opD_move (ls rfl (ls rfl (ls rfl (ls rfl (ls rfl (ls rfl (ls rfl (ls rfl (ls rfl (ls rfl (ls rfl (ls rfl (ls rfl (ls rfl (ls rfl (ls rfl (ls rfl (ls rfl (ls rfl (ls rfl (ls rfl (ls rfl (ls rfl (ls rfl (ls rfl (os rfl (os rfl (os rfl (os rfl (os rfl oz))))))))))))))))))))))))))))))) ?_
  replace h0 := bnd_some h0
  obtain ⟨x_6, hx_6, h0⟩ := h0
  refine rtg _ rfl (ls rfl lz) (fun hg7_26_14 => opD_call ht40_C4 (c_num28 (gif_some hx_6 hg7_26_14) hst) ⟨le_of_eq (lz.trans (pif_pos hg7_26_14)), trivial⟩) ?_
  refine rtg _ rfl (ls rfl (ls rfl lz)) (fun hg7_27_15 => opD_eql (lz.trans (pif_pos hg7_27_15)) (ev_const _ _)) ?_
  refine rts _ rfl (opD_and (ls rfl (ls rfl (ls rfl lz))) lz) ?_
  refine rts _ rfl (opD_move lz) ?_
  refine rtg _ rfl lz (fun hg7_30_16 => opD_move (ls rfl (ls rfl (ls rfl (ls rfl (ls rfl (ls rfl (ls rfl (ls rfl (ls rfl (ls rfl (ls rfl (ls rfl (ls rfl (ls rfl (ls rfl (ls rfl (ls rfl (ls rfl (ls rfl (ls rfl (ls rfl (ls rfl (ls rfl (ls rfl (ls rfl (ls rfl (ls rfl (ls rfl (ls rfl (ls rfl (os rfl (os rfl (os rfl (os rfl (os rfl (os rfl oz))))))))))))))))))))))))))))))))))))) ?_
  refine rtg _ rfl (ls rfl lz) (fun hg7_31_17 => opD_seql (lz.trans (pif_pos hg7_31_17)) (ev_const _ _)) ?_
  refine rts _ rfl (opD_and (ls rfl (ls rfl lz)) lz) ?_
  refine rts _ rfl (opD_move lz) ?_
  refine rtg _ rfl lz (fun hg7_34_18 => opD_fieldAddr fo63_1_C4 (ls rfl (ls rfl (ls rfl (ls rfl (ls rfl (ls rfl (ls rfl (ls rfl (ls rfl (ls rfl (ls rfl (ls rfl (ls rfl (ls rfl (ls rfl (ls rfl (ls rfl (ls rfl (ls rfl (ls rfl (ls rfl (ls rfl (ls rfl (ls rfl (ls rfl (ls rfl (ls rfl (ls rfl (ls rfl (ls rfl (ls rfl (ls rfl (ls rfl (ls rfl (os rfl (os rfl (os rfl (os rfl (os rfl (os rfl (os rfl (os rfl oz))))))))))))))))))))))))))))))))))))))))))) ?_
  refine rtg _ rfl (ls rfl lz) (fun hg7_35_19 => opD_load_one ag56_C4 (lz.trans (pif_pos hg7_35_19)) (loc_getN rfl rfl) rfl) ?_
  refine rtg _ rfl (ls rfl (ls rfl lz)) (fun hg7_36_20 => opD_eql (lz.trans (pif_pos hg7_36_20)) (ev_const _ _)) ?_
  refine rts _ rfl (opD_and (ls rfl (ls rfl (ls rfl lz))) lz) ?_
  refine rts _ rfl (opD_assign lz) ?_
  refine .nil ?_
  refine aw_keep [(0, _)] ⟨lg lz, trivial⟩ ?_
  refine aw_ret ?_
  obtain rfl := some_of h0
  exact done_ext (.inr rfl) ((res_one rfl (it_tmp oz)).le zLr) zPb

def F_l28CapsBack (p0 : Int) (p1 : Cap) : Option (Bool) :=
  bnd (F_l28giveCap p1) fun x_1 => bnd (F_cchk p0 x_1) fun x_2 => ifb x_2.isSome (bnd (F_l28sure) fun x_3 => some x_3) (bnd (F_cenc p0 x_1) fun x_4 => bnd (F_cdec p0 x_4.1) fun x_5 => grd (UpTo (if (IntKind.i64.wrap ((x_4.1.length : Int) - 1)) > 0 then IntKind.i64.wrap ((x_4.1.length : Int) - 1) else 0) x_4.1.length) <| bnd (F_cdec p0 (x_4.1.take ((if (IntKind.i64.wrap ((x_4.1.length : Int) - 1)) > 0 then IntKind.i64.wrap ((x_4.1.length : Int) - 1) else 0).toNat))) fun x_6 => bnd (F_cname (⟨p0, x_1.Gen⟩ : Rf)) fun x_7 => bnd (F_cparse x_7.1) fun x_8 => bnd (gif (((x_4.2.isNone && x_5.2.isNone) && (decide (x_5.1.Gen = x_1.Gen) && (decide (x_5.1.Live = x_1.Live) && (decide (x_5.1.Holder = x_1.Holder) && (decide (x_5.1.From.Slot = x_1.From.Slot) && (decide (x_5.1.From.Gen = x_1.From.Gen) && (decide (x_5.1.Scope.Prefix = x_1.Scope.Prefix) && (decide (x_5.1.Scope.Rights = x_1.Scope.Rights) && true)))))))) == true) (oNum28 x_6.2)) fun x_9 => bnd (gif (((((((x_4.2.isNone && x_5.2.isNone) && (decide (x_5.1.Gen = x_1.Gen) && (decide (x_5.1.Live = x_1.Live) && (decide (x_5.1.Holder = x_1.Holder) && (decide (x_5.1.From.Slot = x_1.From.Slot) && (decide (x_5.1.From.Gen = x_1.From.Gen) && (decide (x_5.1.Scope.Prefix = x_1.Scope.Prefix) && (decide (x_5.1.Scope.Rights = x_1.Scope.Rights) && true)))))))) && (decide (x_9 = 3))) && x_7.2.isNone) && x_8.2.isNone) && (decide (x_8.1.Slot = p0) && (decide (x_8.1.Gen = x_1.Gen) && true))) == true) (F_l28sure)) fun x_10 => some (((((((x_4.2.isNone && x_5.2.isNone) && (decide (x_5.1.Gen = x_1.Gen) && (decide (x_5.1.Live = x_1.Live) && (decide (x_5.1.Holder = x_1.Holder) && (decide (x_5.1.From.Slot = x_1.From.Slot) && (decide (x_5.1.From.Gen = x_1.From.Gen) && (decide (x_5.1.Scope.Prefix = x_1.Scope.Prefix) && (decide (x_5.1.Scope.Rights = x_1.Scope.Rights) && true)))))))) && (decide (x_9 = 3))) && x_7.2.isNone) && x_8.2.isNone) && (decide (x_8.1.Slot = p0) && (decide (x_8.1.Gen = x_1.Gen) && true))) && x_10))
set_option maxRecDepth 100000 in
set_option maxHeartbeats 2000000 in
theorem c_l28CapsBack {p0 : Int} {p1 : Cap} {R : Bool} {s : St} (h0 : F_l28CapsBack p0 p1 = some R) (hst : StC s) : AC Tryd.prog 4 [pl (.int .i64 p0), agg [pl (.int .u64 p1.Gen), pl (.bool p1.Live), pl (.int .u64 p1.Holder), pl (.int .i64 p1.From.Slot), pl (.int .u64 p1.From.Gen), pl (.string p1.Scope.Prefix), pl (.int .u8 p1.Scope.Rights)]] s (pl (.bool R)) s := by
  unfold F_l28CapsBack at h0
  refine ac_of_aw s.boxes.length s.fr.length Tryd.func4 rfl (by simp [Tryd.ntmps4]) ?_
  refine aw_ext0 ?_
  refine aw_keep [(0, _), (1, _)] ⟨lg ez, lg (es ez), trivial⟩ ?_
  refine aw_seq ?_
  refine aw_region (by decide) ?_
  refine rts _ rfl (boxAN (n := 0) rfl (os rfl oz) (zbc zPb (zbc zPb (zbc zPb (zbc zPb (zbc zPb (zbc zPb (zbc zPb bnd_nil))))))) (by first | exact List.length_nil | (simp only [List.length_cons, List.length_nil, Nat.zero_add, Nat.reduceAdd] <;> rfl)) (by simp only [znz] <;> rfl)) ?_
  refine rts _ rfl (opD_assign (ev_const _ _)) ?_
  refine .nil ?_
  refine aw_keep [(0, _), (3, _)] ⟨lg (ls rfl (ls rfl oz)), lg (ls rfl lz), trivial⟩ ?_
  refine aw_seq ?_
  refine aw_region (by decide) ?_
  refine rts _ rfl (opD_load_aggX (qs := [_, _, _, _, _, _, _]) ag62_C4 sz62_C4 (os rfl oz) (loc_getN rfl rfl) (zNb rfl) rfl) ?_
  replace h0 := bnd_some h0
  obtain ⟨x_1, hx_1, h0⟩ := h0
  refine rts _ rfl (opD_pure ht33_C4 (c_l28giveCap hx_1) ⟨(le_of_eq lz).trans (agg_le ⟨zLr, zLr, zLr, zLr, zLr, zLr, zLr, trivial⟩), trivial⟩) ?_
  refine rts _ rfl (allocN rfl zt66_C4 (by first | exact List.length_nil | (simp only [List.length_cons, List.length_nil, Nat.zero_add, Nat.reduceAdd] <;> rfl)) (by simp only [znz] <;> rfl)) ?_
  refine rts _ rfl (storeAN rfl sz66_C4 lz (ls rfl lz) (ones_cons (one_pl rfl) (ones_cons (one_pl rfl) (ones_cons (one_pl rfl) (ones_cons (one_pl rfl) (ones_cons (one_pl rfl) (ones_cons (one_pl rfl) (ones_cons (one_pl rfl) ones_nil))))))) rfl rfl (zNb rfl) (List.cons_ne_nil _ _) (zbc zPb (zbc zPb (zbc zPb (zbc zPb (zbc zPb (zbc zPb (zbc zPb bnd_nil))))))) (by simp only [znz] <;> rfl) (by simp only [znz] <;> rfl)) ?_
  refine .nil ?_
  refine aw_keep [(0, _), (5, _)] ⟨lg (lx (ls rfl (ls rfl (ls rfl oz)))), lg (lx lz), trivial⟩ ?_
  refine aw_seq ?_
  refine aw_seq ?_
  refine aw_region (by decide) ?_
  refine rts _ rfl (opD_move oz) ?_
  refine rts _ rfl (opD_load_aggX (qs := [_, _, _, _, _, _, _]) ag66_C4 sz66_C4 (ls rfl (os rfl oz)) (loc_getN rfl rfl) (zNb rfl) rfl) ?_
  replace h0 := bnd_some h0
  obtain ⟨x_2, hx_2, h0⟩ := h0
  refine rts _ rfl (opD_pure ht34_C4 (c_cchk hx_2) ⟨le_of_eq (ls rfl lz), (le_of_eq lz).trans (agg_le ⟨zLr, zLr, zLr, zLr, zLr, zLr, zLr, trivial⟩), trivial⟩) ?_
  refine rts _ rfl (opD_bin lz (ev_const _ _) (fun w => errV_guard _ w _) (fun w => errV_beq _ w)) ?_
  refine .nil ?_
  refine aw_keep [(0, _), (5, _), (21, _)] ⟨lg (ls rfl (ls rfl (ls rfl (ls rfl oz)))), lg (ls rfl (ls rfl (ls rfl (ls rfl (os rfl oz))))), lg lz, trivial⟩ ?_
  refine aw_cond _ (os rfl (os rfl oz)) (fun hc => ?_) (fun hc => ?_)
  · skip
    replace h0 := ifb_t h0 hc
    clear hc
    refine aw_seq ?_
    refine aw_region (by decide) ?_
    replace h0 := bnd_some h0
    obtain ⟨x_3, hx_3, h0⟩ := h0
    refine rts _ rfl (opD_call ht35_C4 (c_l28sure hx_3 hst) trivial) ?_
    refine rts _ rfl (opD_assign lz) ?_
    refine .nil ?_
    refine aw_keep [(4, _)] ⟨lg lz, trivial⟩ ?_
    refine aw_ret ?_
    obtain rfl := some_of h0
    exact done_ext (.inr rfl) ((res_one rfl (it_tmp oz)).le zLr) zPb
  · skip
    replace h0 := ifb_f h0 hc
    clear hc
    refine aw_skip ?_
    refine aw_keep [(0, _), (5, _)] ⟨lg oz, lg (os rfl oz), trivial⟩ ?_
    refine aw_seq ?_
    refine aw_region (by decide) ?_
    refine rts _ rfl (opD_move oz) ?_
    refine rts _ rfl (opD_load_aggX (qs := [_, _, _, _, _, _, _]) ag66_C4 sz66_C4 (ls rfl (os rfl oz)) (loc_getN rfl rfl) (zNb rfl) rfl) ?_
    replace h0 := bnd_some h0
    obtain ⟨x_4, hx_4, h0⟩ := h0
    refine rts _ rfl (opD_pure ht36_C4 (c_cenc hx_4) ⟨le_of_eq (ls rfl lz), (le_of_eq lz).trans (agg_le ⟨zLr, zLr, zLr, zLr, zLr, zLr, zLr, trivial⟩), trivial⟩) ?_
    refine rts _ rfl (opD_move lz) ?_
    refine rts _ rfl (opD_extract lz rfl) ?_
    refine rts _ rfl (opD_extract (ls rfl lz) rfl) ?_
    refine rts _ rfl (opD_assign (ls rfl lz)) ?_
    refine rts _ rfl (opD_assign (ls rfl lz)) ?_
    refine .nil ?_
    refine aw_keep [(0, _), (5, _), (6, _), (7, _)] ⟨lg (ls rfl (ls rfl (ls rfl (ls rfl (ls rfl (ls rfl (ls rfl (ls rfl oz)))))))), lg (ls rfl (ls rfl (ls rfl (ls rfl (ls rfl (ls rfl (ls rfl (ls rfl (os rfl oz))))))))), lg (ls rfl lz), lg lz, trivial⟩ ?_
    refine aw_seq ?_
    refine aw_region (by decide) ?_
    refine rts _ rfl (opD_move oz) ?_
    refine rts _ rfl (opD_move (ls rfl (os rfl (os rfl oz)))) ?_
    replace h0 := bnd_some h0
    obtain ⟨x_5, hx_5, h0⟩ := h0
    refine rts _ rfl (opD_pure ht37_C4 (c_cdec hx_5) ⟨le_of_eq (ls rfl lz), le_of_eq lz, trivial⟩) ?_
    refine rts _ rfl (opD_move lz) ?_
    refine rts _ rfl (opD_extract lz rfl) ?_
    refine rts _ rfl (opD_extract (ls rfl lz) rfl) ?_
    refine rts _ rfl (allocN rfl zt66_C4 (by first | exact List.length_nil | (simp only [List.length_cons, List.length_nil, Nat.zero_add, Nat.reduceAdd] <;> rfl)) (by simp only [znz] <;> rfl)) ?_
    refine rts _ rfl (storeAN rfl sz66_C4 lz (ls rfl (ls rfl lz)) (ones_cons (one_pl rfl) (ones_cons (one_pl rfl) (ones_cons (one_pl rfl) (ones_cons (one_pl rfl) (ones_cons (one_pl rfl) (ones_cons (one_pl rfl) (ones_cons (one_pl rfl) ones_nil))))))) rfl rfl (zNb rfl) (List.cons_ne_nil _ _) (zbc zPb (zbc zPb (zbc zPb (zbc zPb (zbc zPb (zbc zPb (zbc zPb bnd_nil))))))) (by simp only [znz] <;> rfl) (by simp only [znz] <;> rfl)) ?_
    refine rts _ rfl (opD_assign (lx (ls rfl lz))) ?_
    refine .nil ?_
    refine aw_keep [(0, _), (5, _), (6, _), (7, _), (8, _), (9, _)] ⟨lg (ls rfl (lx (ls rfl (ls rfl (ls rfl (ls rfl (ls rfl (ls rfl (ls rfl oz))))))))), lg (ls rfl (lx (ls rfl (ls rfl (ls rfl (ls rfl (ls rfl (ls rfl (ls rfl (os rfl oz)))))))))), lg (ls rfl (lx (ls rfl (ls rfl (ls rfl (ls rfl (ls rfl (ls rfl (ls rfl (os rfl (os rfl oz))))))))))), lg (ls rfl (lx (ls rfl (ls rfl (ls rfl (ls rfl (ls rfl (ls rfl (ls rfl (os rfl (os rfl (os rfl oz)))))))))))), lg (ls rfl (lx lz)), lg lz, trivial⟩ ?_
    refine aw_seq ?_
    refine aw_region (by decide) ?_
    refine rts _ rfl (opD_move oz) ?_
    refine rts _ rfl (opD_move (ls rfl (os rfl (os rfl oz)))) ?_
    refine rts _ rfl (opD_move (ls rfl (ls rfl (os rfl (os rfl oz))))) ?_
    refine rts _ rfl (opD_len_sl Tryd.underlying26 lz) ?_
    refine rts _ rfl (opD_sub lz (ev_const _ _) rfl) ?_
    refine rts _ rfl (opD_max (ev_const _ _) lz rfl) ?_
    replace h0 := grd_some h0
    obtain ⟨hg_1, h0⟩ := h0
    refine rts _ rfl (opD_slice_to ((if (IntKind.i64.wrap ((x_4.1.length : Int) - 1)) > 0 then IntKind.i64.wrap ((x_4.1.length : Int) - 1) else 0).toNat) Tryd.underlying26 sz5_C4 (ls rfl (ls rfl (ls rfl (ls rfl lz)))) lz hg_1.eq hg_1.2) ?_
    replace h0 := bnd_some h0
    obtain ⟨x_6, hx_6, h0⟩ := h0
    refine rts _ rfl (opD_pure ht37_C4 (c_cdec hx_6) ⟨le_of_eq (ls rfl (ls rfl (ls rfl (ls rfl (ls rfl (ls rfl lz)))))), le_of_eq lz, trivial⟩) ?_
    refine rts _ rfl (opD_move lz) ?_
    refine rts _ rfl (opD_extract lz rfl) ?_
    refine rts _ rfl (opD_extract (ls rfl lz) rfl) ?_
    refine rts _ rfl (allocN rfl zt66_C4 (by first | exact List.length_nil | (simp only [List.length_cons, List.length_nil, Nat.zero_add, Nat.reduceAdd] <;> rfl)) (by simp only [znz] <;> rfl)) ?_
    refine rts _ rfl (storeAN rfl sz66_C4 lz (ls rfl (ls rfl lz)) (ones_cons (one_pl rfl) (ones_cons (one_pl rfl) (ones_cons (one_pl rfl) (ones_cons (one_pl rfl) (ones_cons (one_pl rfl) (ones_cons (one_pl rfl) (ones_cons (one_pl rfl) ones_nil))))))) rfl rfl (zNb rfl) (List.cons_ne_nil _ _) (zbc zPb (zbc zPb (zbc zPb (zbc zPb (zbc zPb (zbc zPb (zbc zPb bnd_nil))))))) (by simp only [znz] <;> rfl) (by simp only [znz] <;> rfl)) ?_
    refine rts _ rfl (opD_assign (lx (ls rfl lz))) ?_
    refine .nil ?_
    refine aw_keep [(0, _), (5, _), (7, _), (8, _), (9, _), (11, _)] ⟨lg (ls rfl (lx (ls rfl (ls rfl (ls rfl (ls rfl (ls rfl (ls rfl (ls rfl (ls rfl (ls rfl (ls rfl (ls rfl (ls rfl oz)))))))))))))), lg (ls rfl (lx (ls rfl (ls rfl (ls rfl (ls rfl (ls rfl (ls rfl (ls rfl (ls rfl (ls rfl (ls rfl (ls rfl (ls rfl (os rfl oz))))))))))))))), lg (ls rfl (lx (ls rfl (ls rfl (ls rfl (ls rfl (ls rfl (ls rfl (ls rfl (ls rfl (ls rfl (ls rfl (ls rfl (ls rfl (os rfl (os rfl (os rfl oz))))))))))))))))), lg (ls rfl (lx (ls rfl (ls rfl (ls rfl (ls rfl (ls rfl (ls rfl (ls rfl (ls rfl (ls rfl (ls rfl (ls rfl (ls rfl (os rfl (os rfl (os rfl (os rfl oz)))))))))))))))))), lg (ls rfl (lx (ls rfl (ls rfl (ls rfl (ls rfl (ls rfl (ls rfl (ls rfl (ls rfl (ls rfl (ls rfl (ls rfl (ls rfl (os rfl (os rfl (os rfl (os rfl (os rfl oz))))))))))))))))))), lg lz, trivial⟩ ?_
    refine aw_seq ?_
    refine aw_region (by decide) ?_
    refine rts _ rfl (opD_move oz) ?_
    refine rts _ rfl (opD_fieldAddr fo66_0_C4 (ls rfl (os rfl oz))) ?_
    refine rts _ rfl (opD_load_one ag56_C4 lz (loc_getN rfl rfl) rfl) ?_
    refine rts _ rfl (opD_build_struct (rs := [_, _]) Tryd.underlying63 pt63_C4 zt63_C4 (parts_cons (cells1 (ls rfl (ls rfl lz)) (one_pl rfl)) (parts_cons (cells1 lz (one_pl rfl)) parts_nil)) rfl) ?_
    replace h0 := bnd_some h0
    obtain ⟨x_7, hx_7, h0⟩ := h0
    refine rts _ rfl (opD_call ht38_C4 (c_cname hx_7 hst) ⟨(le_of_eq lz).trans (agg_le ⟨zLr, zLr, trivial⟩), trivial⟩) ?_
    refine rts _ rfl (opD_move lz) ?_
    refine rts _ rfl (opD_extract lz rfl) ?_
    refine rts _ rfl (opD_extract (ls rfl lz) rfl) ?_
    refine rts _ rfl (opD_assign (ls rfl lz)) ?_
    refine rts _ rfl (opD_assign (ls rfl lz)) ?_
    refine .nil ?_
    refine aw_keep [(0, _), (5, _), (7, _), (8, _), (9, _), (11, _), (12, _), (13, _)] ⟨lg (ls rfl (ls rfl (ls rfl (ls rfl (ls rfl (ls rfl (ls rfl (ls rfl (ls rfl (ls rfl oz)))))))))), lg (ls rfl (ls rfl (ls rfl (ls rfl (ls rfl (ls rfl (ls rfl (ls rfl (ls rfl (ls rfl (os rfl oz))))))))))), lg (ls rfl (ls rfl (ls rfl (ls rfl (ls rfl (ls rfl (ls rfl (ls rfl (ls rfl (ls rfl (os rfl (os rfl oz)))))))))))), lg (ls rfl (ls rfl (ls rfl (ls rfl (ls rfl (ls rfl (ls rfl (ls rfl (ls rfl (ls rfl (os rfl (os rfl (os rfl oz))))))))))))), lg (ls rfl (ls rfl (ls rfl (ls rfl (ls rfl (ls rfl (ls rfl (ls rfl (ls rfl (ls rfl (os rfl (os rfl (os rfl (os rfl oz)))))))))))))), lg (ls rfl (ls rfl (ls rfl (ls rfl (ls rfl (ls rfl (ls rfl (ls rfl (ls rfl (ls rfl (os rfl (os rfl (os rfl (os rfl (os rfl oz))))))))))))))), lg (ls rfl lz), lg lz, trivial⟩ ?_
    refine aw_seq ?_
    refine aw_region (by decide) ?_
    refine rts _ rfl (opD_move (os rfl (os rfl (os rfl (os rfl (os rfl (os rfl oz))))))) ?_
    replace h0 := bnd_some h0
    obtain ⟨x_8, hx_8, h0⟩ := h0
    refine rts _ rfl (opD_call ht39_C4 (c_cparse hx_8 hst) ⟨le_of_eq lz, trivial⟩) ?_
    refine rts _ rfl (opD_move lz) ?_
    refine rts _ rfl (opD_extract lz rfl) ?_
    refine rts _ rfl (opD_extract (ls rfl lz) rfl) ?_
    refine rts _ rfl (allocN rfl zt63_C4 (by first | exact List.length_nil | (simp only [List.length_cons, List.length_nil, Nat.zero_add, Nat.reduceAdd] <;> rfl)) (by simp only [znz] <;> rfl)) ?_
    refine rts _ rfl (storeAN rfl sz63_C4 lz (ls rfl (ls rfl lz)) (ones_cons (one_pl rfl) (ones_cons (one_pl rfl) ones_nil)) rfl rfl (zNb rfl) (List.cons_ne_nil _ _) (zbc zPb (zbc zPb bnd_nil)) (by simp only [znz] <;> rfl) (by simp only [znz] <;> rfl)) ?_
    refine rts _ rfl (opD_assign (lx (ls rfl lz))) ?_
    refine .nil ?_
    refine aw_keep [(0, _), (5, _), (7, _), (8, _), (9, _), (11, _), (13, _), (14, _), (15, _)] ⟨lg (ls rfl (lx (ls rfl (ls rfl (ls rfl (ls rfl (ls rfl (ls rfl oz)))))))), lg (ls rfl (lx (ls rfl (ls rfl (ls rfl (ls rfl (ls rfl (ls rfl (os rfl oz))))))))), lg (ls rfl (lx (ls rfl (ls rfl (ls rfl (ls rfl (ls rfl (ls rfl (os rfl (os rfl oz)))))))))), lg (ls rfl (lx (ls rfl (ls rfl (ls rfl (ls rfl (ls rfl (ls rfl (os rfl (os rfl (os rfl oz))))))))))), lg (ls rfl (lx (ls rfl (ls rfl (ls rfl (ls rfl (ls rfl (ls rfl (os rfl (os rfl (os rfl (os rfl oz)))))))))))), lg (ls rfl (lx (ls rfl (ls rfl (ls rfl (ls rfl (ls rfl (ls rfl (os rfl (os rfl (os rfl (os rfl (os rfl oz))))))))))))), lg (ls rfl (lx (ls rfl (ls rfl (ls rfl (ls rfl (ls rfl (ls rfl (os rfl (os rfl (os rfl (os rfl (os rfl (os rfl (os rfl oz))))))))))))))), lg (ls rfl (lx lz)), lg lz, trivial⟩ ?_
    refine aw_seq ?_
    refine aw_region (by decide) ?_
    refine rts _ rfl (opD_move (os rfl (os rfl oz))) ?_
    refine rts _ rfl (opD_bin lz (ev_const _ _) (fun w => errV_geql _ w _) (fun w => errV_eql _ w)) ?_
    refine rts _ rfl (opD_move lz) ?_
    refine rtg _ rfl lz (fun hg9_3_2 => opD_move (ls rfl (ls rfl (ls rfl (os rfl (os rfl (os rfl (os rfl oz)))))))) ?_
    refine rtg _ rfl (ls rfl lz) (fun hg9_4_3 => opD_bin (lz.trans (pif_pos hg9_4_3)) (ev_const _ _) (fun w => errV_geql _ w _) (fun w => errV_eql _ w)) ?_
    refine rts _ rfl (opD_and (ls rfl (ls rfl lz)) lz) ?_
    refine rts _ rfl (opD_move lz) ?_
    refine rtg _ rfl lz (fun hg9_7_4 => opD_load_aggX (qs := [_, _, _, _, _, _, _]) ag66_C4 sz66_C4 (ls rfl (ls rfl (ls rfl (ls rfl (ls rfl (ls rfl (ls rfl (os rfl (os rfl (os rfl oz)))))))))) (loc_getN rfl rfl) (zNb rfl) rfl) ?_
    refine rtg _ rfl (ls rfl lz) (fun hg9_8_5 => opD_load_aggX (qs := [_, _, _, _, _, _, _]) ag66_C4 sz66_C4 (ls rfl (ls rfl (ls rfl (ls rfl (ls rfl (ls rfl (ls rfl (ls rfl (os rfl oz))))))))) (loc_getN rfl rfl) (zNb rfl) rfl) ?_
    refine rtg _ rfl (ls rfl (ls rfl lz)) (fun hg9_9_6 => opD_binA [.int .u64 x_5.1.Gen, .bool x_5.1.Live, .int .u64 x_5.1.Holder, .int .i64 x_5.1.From.Slot, .int .u64 x_5.1.From.Gen, .string x_5.1.Scope.Prefix, .int .u8 x_5.1.Scope.Rights] [.int .u64 x_1.Gen, .bool x_1.Live, .int .u64 x_1.Holder, .int .i64 x_1.From.Slot, .int .u64 x_1.From.Gen, .string x_1.Scope.Prefix, .int .u8 x_1.Scope.Rights] ((ls rfl lz).trans (pif_pos hg9_9_6)) (lz.trans (pif_pos hg9_9_6)) (fun w => (eq_Cap_g _ _ _ _ _ w)) (fun w => (eq_Cap _ _ _ _ _ _ _ _ _ _ _ _ _ _ w).1)) ?_
    refine rts _ rfl (opD_and (ls rfl (ls rfl (ls rfl lz))) lz) ?_
    refine rts _ rfl (opD_move lz) ?_
    refine rtg _ rfl lz (fun hg9_12_7 => opD_move (ls rfl (ls rfl (ls rfl (ls rfl (ls rfl (ls rfl (ls rfl (ls rfl (ls rfl (ls rfl (ls rfl (ls rfl (os rfl (os rfl (os rfl (os rfl (os rfl oz)))))))))))))))))) ?_
    replace h0 := bnd_some h0
    obtain ⟨x_9, hx_9, h0⟩ := h0
    refine rtg _ rfl (ls rfl lz) (fun hg9_13_8 => opD_call ht40_C4 (c_num28 (gif_some hx_9 hg9_13_8) hst) ⟨le_of_eq (lz.trans (pif_pos hg9_13_8)), trivial⟩) ?_
    refine rtg _ rfl (ls rfl (ls rfl lz)) (fun hg9_14_9 => opD_eql (lz.trans (pif_pos hg9_14_9)) (ev_const _ _)) ?_
    refine rts _ rfl (opD_and (ls rfl (ls rfl (ls rfl lz))) lz) ?_
    refine rts _ rfl (opD_move lz) ?_
    refine rtg _ rfl lz (fun hg9_17_10 => opD_move (ls rfl (ls rfl (ls rfl (ls rfl (ls rfl (ls rfl (ls rfl (ls rfl (ls rfl (ls rfl (ls rfl (ls rfl (ls rfl (ls rfl (ls rfl (ls rfl (ls rfl (os rfl (os rfl (os rfl (os rfl (os rfl (os rfl oz)))))))))))))))))))))))) ?_
    refine rtg _ rfl (ls rfl lz) (fun hg9_18_11 => opD_bin (lz.trans (pif_pos hg9_18_11)) (ev_const _ _) (fun w => errV_geql _ w _) (fun w => errV_eql _ w)) ?_
    refine rts _ rfl (opD_and (ls rfl (ls rfl lz)) lz) ?_
    refine rts _ rfl (opD_move lz) ?_
    refine rtg _ rfl lz (fun hg9_21_12 => opD_move (ls rfl (ls rfl (ls rfl (ls rfl (ls rfl (ls rfl (ls rfl (ls rfl (ls rfl (ls rfl (ls rfl (ls rfl (ls rfl (ls rfl (ls rfl (ls rfl (ls rfl (ls rfl (ls rfl (ls rfl (ls rfl (os rfl (os rfl (os rfl (os rfl (os rfl (os rfl (os rfl (os rfl oz)))))))))))))))))))))))))))))) ?_
    refine rtg _ rfl (ls rfl lz) (fun hg9_22_13 => opD_bin (lz.trans (pif_pos hg9_22_13)) (ev_const _ _) (fun w => errV_geql _ w _) (fun w => errV_eql _ w)) ?_
    refine rts _ rfl (opD_and (ls rfl (ls rfl lz)) lz) ?_
    refine rts _ rfl (opD_move lz) ?_
    refine rtg _ rfl lz (fun hg9_25_14 => opD_load_aggX (qs := [_, _]) ag63_C4 sz63_C4 (ls rfl (ls rfl (ls rfl (ls rfl (ls rfl (ls rfl (ls rfl (ls rfl (ls rfl (ls rfl (ls rfl (ls rfl (ls rfl (ls rfl (ls rfl (ls rfl (ls rfl (ls rfl (ls rfl (ls rfl (ls rfl (ls rfl (ls rfl (ls rfl (ls rfl (os rfl (os rfl (os rfl (os rfl (os rfl (os rfl (os rfl oz)))))))))))))))))))))))))))))))) (loc_getN rfl rfl) (zNb rfl) rfl) ?_
    refine rtg _ rfl (ls rfl lz) (fun hg9_26_15 => opD_move (ls rfl (ls rfl (ls rfl (ls rfl (ls rfl (ls rfl (ls rfl (ls rfl (ls rfl (ls rfl (ls rfl (ls rfl (ls rfl (ls rfl (ls rfl (ls rfl (ls rfl (ls rfl (ls rfl (ls rfl (ls rfl (ls rfl (ls rfl (ls rfl (ls rfl (ls rfl oz))))))))))))))))))))))))))) ?_
    refine rtg _ rfl (ls rfl (ls rfl lz)) (fun hg9_27_16 => opD_fieldAddr fo66_0_C4 (ls rfl (ls rfl (ls rfl (ls rfl (ls rfl (ls rfl (ls rfl (ls rfl (ls rfl (ls rfl (ls rfl (ls rfl (ls rfl (ls rfl (ls rfl (ls rfl (ls rfl (ls rfl (ls rfl (ls rfl (ls rfl (ls rfl (ls rfl (ls rfl (ls rfl (ls rfl (ls rfl (os rfl oz))))))))))))))))))))))))))))) ?_
    refine rtg _ rfl (ls rfl (ls rfl (ls rfl lz))) (fun hg9_28_17 => opD_load_one ag56_C4 (lz.trans (pif_pos hg9_28_17)) (loc_getN rfl rfl) rfl) ?_
    refine rtg _ rfl (ls rfl (ls rfl (ls rfl (ls rfl lz)))) (fun hg9_29_18 => opD_build_struct (rs := [_, _]) Tryd.underlying63 pt63_C4 zt63_C4 (parts_cons (cells1 ((ls rfl (ls rfl lz)).trans (pif_pos hg9_29_18)) (one_pl rfl)) (parts_cons (cells1 (lz.trans (pif_pos hg9_29_18)) (one_pl rfl)) parts_nil)) rfl) ?_
    refine rtg _ rfl (ls rfl (ls rfl (ls rfl (ls rfl (ls rfl lz))))) (fun hg9_30_19 => opD_binA [.int .i64 x_8.1.Slot, .int .u64 x_8.1.Gen] [.int .i64 p0, .int .u64 x_1.Gen] ((ls rfl (ls rfl (ls rfl (ls rfl lz)))).trans (pif_pos hg9_30_19)) (lz.trans (pif_pos hg9_30_19)) (fun w => (eq_Rf_g _ _ _ _ _ w)) (fun w => (eq_Rf _ _ _ _ w).1)) ?_
    refine rts _ rfl (opD_and (ls rfl (ls rfl (ls rfl (ls rfl (ls rfl (ls rfl lz)))))) lz) ?_
    refine rts _ rfl (opD_move lz) ?_
    replace h0 := bnd_some h0
    obtain ⟨x_10, hx_10, h0⟩ := h0
    refine rtg _ rfl lz (fun hg9_33_20 => opD_call ht35_C4 (c_l28sure (gif_some hx_10 hg9_33_20) hst) trivial) ?_
    refine rts _ rfl (opD_and (ls rfl lz) lz) ?_
    refine rts _ rfl (opD_assign lz) ?_
    refine .nil ?_
    refine aw_keep [(4, _)] ⟨lg lz, trivial⟩ ?_
    refine aw_ret ?_
    obtain rfl := some_of h0
    exact done_ext (.inr rfl) ((res_one rfl (it_tmp oz)).le zLr) zPb
end Go.Proofs.YtokcgacehdgkcaaDoor.Eng.A
