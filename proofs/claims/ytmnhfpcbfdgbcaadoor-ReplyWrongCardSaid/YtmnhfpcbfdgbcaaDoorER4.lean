/- ER4: what functions do, walked; used by the laws of this seat. -/
import Derived.Test.YtmnhfpcbfdgbcaaDoorER3
import Derived.Test.YtmnhfpcbfdgbcaaDoorEC1
namespace Go.Proofs.YtmnhfpcbfdgbcaaDoor.Eng.A
set_option linter.unusedVariables false
set_option linter.unusedSimpArgs false
open Go.RowKit Go.Proofs.YtmnhfpcbfdgbcaaDoor.Plain Go.Proofs.YtmnhfpcbfdgbcaaDoor.Eng Go.Proofs.YtmnhfpcbfdgbcaaDoor.Eng.Pk Go.Proofs.YtmnhfpcbfdgbcaaDoor.Eng.Rd

theorem zt94_U6 : zeroT Tryd.prog 94 = some [.int .i64 0, .int .u64 0, .bool false, .string ⟨#[]⟩, .slice none 0 0, .slice none 0 0, .slice none 0 0] := by kernel_rfl
theorem pt94_U6 : placesT Tryd.prog 94 7 = some [(0, 1), (1, 1), (2, 1), (3, 1), (4, 1), (5, 1), (6, 1)] := by kernel_rfl
theorem sz94_U6 : sizeT Tryd.prog 94 = some 7 := by kernel_rfl
theorem zt107_U6 : zeroT Tryd.prog 107 = some [.int .i64 0] := by kernel_rfl
theorem sz107_U6 : sizeT Tryd.prog 107 = some 1 := by kernel_rfl
theorem cc168_U6 : Tryd.prog.concrete 168 = true := by kernel_rfl
theorem ht90_U6 : hasText Tryd.prog 90 = true := by kernel_rfl
theorem ag107_U6 : aggT Tryd.prog 107 = some false := by kernel_rfl
theorem ag94_U6 : aggT Tryd.prog 94 = some true := by kernel_rfl
theorem ht51_U6 : hasText Tryd.prog 51 = true := by kernel_rfl
theorem ht54_U6 : hasText Tryd.prog 54 = true := by kernel_rfl
theorem fo94_0_U6 : fieldOff Tryd.prog 94 0 = some 0 := by kernel_rfl
theorem ag3_U6 : aggT Tryd.prog 3 = some false := by kernel_rfl
theorem ht56_U6 : hasText Tryd.prog 56 = true := by kernel_rfl
theorem cc107_U6 : Tryd.prog.concrete 107 = true := by kernel_rfl
theorem ht61_U6 : hasText Tryd.prog 61 = true := by kernel_rfl
theorem fd94_0_U6 : fieldOf Tryd.prog 94 0 = some (0, 3) := by kernel_rfl
theorem ht96_U6 : hasText Tryd.prog 96 = true := by kernel_rfl
theorem ag88_U6 : aggT Tryd.prog 88 = some true := by kernel_rfl
theorem sz88_U6 : sizeT Tryd.prog 88 = some 7 := by kernel_rfl
theorem ht49_U6 : hasText Tryd.prog 49 = true := by kernel_rfl
theorem ht50_U6 : hasText Tryd.prog 50 = true := by kernel_rfl
theorem ht52_U6 : hasText Tryd.prog 52 = true := by kernel_rfl
theorem ht53_U6 : hasText Tryd.prog 53 = true := by kernel_rfl
theorem ht55_U6 : hasText Tryd.prog 55 = true := by kernel_rfl
theorem zt88_U6 : zeroT Tryd.prog 88 = some [.int .i64 0, .int .u64 0, .bool false, .string ⟨#[]⟩, .slice none 0 0, .slice none 0 0, .slice none 0 0] := by kernel_rfl
theorem ht57_U6 : hasText Tryd.prog 57 = true := by kernel_rfl
theorem ht58_U6 : hasText Tryd.prog 58 = true := by kernel_rfl
theorem ht59_U6 : hasText Tryd.prog 59 = true := by kernel_rfl
theorem ht60_U6 : hasText Tryd.prog 60 = true := by kernel_rfl
theorem mixed_U6 : Tryd.prog.follows .mixedOrders = true := by kernel_rfl
theorem sz5_U6 : sizeT Tryd.prog 5 = some 1 := by kernel_rfl
theorem zt5_U6 : zeroT Tryd.prog 5 = some [.int .u8 0] := by kernel_rfl
theorem el5_U6 : elT Tryd.prog 5 = some (1, 1) := by kernel_rfl
theorem fo94_1_U6 : fieldOff Tryd.prog 94 1 = some 1 := by kernel_rfl
theorem ag22_U6 : aggT Tryd.prog 22 = some false := by kernel_rfl
theorem fo94_2_U6 : fieldOff Tryd.prog 94 2 = some 2 := by kernel_rfl
theorem ag4_U6 : aggT Tryd.prog 4 = some false := by kernel_rfl
theorem fo94_3_U6 : fieldOff Tryd.prog 94 3 = some 3 := by kernel_rfl
theorem ag9_U6 : aggT Tryd.prog 9 = some false := by kernel_rfl
theorem fo94_4_U6 : fieldOff Tryd.prog 94 4 = some 4 := by kernel_rfl
theorem ag91_U6 : aggT Tryd.prog 91 = some false := by kernel_rfl
theorem fo94_5_U6 : fieldOff Tryd.prog 94 5 = some 5 := by kernel_rfl
theorem ag92_U6 : aggT Tryd.prog 92 = some false := by kernel_rfl
theorem fo94_6_U6 : fieldOff Tryd.prog 94 6 = some 6 := by kernel_rfl
theorem ag55_U6 : aggT Tryd.prog 55 = some false := by kernel_rfl
theorem sz22_U6 : sizeT Tryd.prog 22 = some 1 := by kernel_rfl
theorem sz4_U6 : sizeT Tryd.prog 4 = some 1 := by kernel_rfl
theorem sz109_U6 : sizeT Tryd.prog 109 = some 2 := by kernel_rfl
theorem zt109_U6 : zeroT Tryd.prog 109 = some [.string ⟨#[]⟩, .string ⟨#[]⟩] := by kernel_rfl
theorem el109_U6 : elT Tryd.prog 109 = some (2, 32) := by kernel_rfl
theorem pt109_U6 : placesT Tryd.prog 109 2 = some [(0, 1), (1, 1)] := by kernel_rfl
theorem sz91_U6 : sizeT Tryd.prog 91 = some 1 := by kernel_rfl

open Go.Proofs.YtmnhfpcbfdgbcaaDoor.Eng.Er Go.Proofs.YtmnhfpcbfdgbcaaDoor.Eng.Er2 Go.Proofs.YtmnhfpcbfdgbcaaDoor.Eng.Er3

def oNumF (o : Option Int) : Option Int := some (numV o)
theorem c_num36 {p0 : Option Int} {R : Int} {s : St} (h0 : oNumF p0 = some R) (hst : StGV s) : AC Tryd.prog 56 [pl (errV p0)] s (pl (.int .i64 R)) s := by obtain rfl := some_of h0; exact num36 hst

def F_wrong (p0 : (Option Int)) : Option (Rpl) :=
  ifb p0.isNone (some (⟨0, 0, false, ⟨#[]⟩, [], [], []⟩ : Rpl)) (bnd (p0) fun x_1 => some (⟨x_1, 0, false, ⟨#[]⟩, [], [], []⟩ : Rpl))
set_option maxRecDepth 100000 in
set_option maxHeartbeats 2000000 in
theorem c_wrong {p0 : (Option Int)} {R : Rpl} {s : St} (h0 : F_wrong p0 = some R) (hst : StGV s) : AC Tryd.prog 61 [pl (errV p0)] s (agg [pl (.int .i64 R.Code), pl (.int .u64 R.N), pl (.bool R.Found), pl (.string R.Value), sl kEnt none none R.Rows, sl kRf none none R.Refs, sl kLin none none R.Lines]) s := by
  unfold F_wrong at h0
  refine ac_of_aw s.boxes.length s.fr.length Tryd.func61 rfl (by simp [Tryd.ntmps61]) ?_
  refine aw_ext0 ?_
  refine aw_keep [(0, _)] ⟨lg ez, trivial⟩ ?_
  refine aw_seq ?_
  refine aw_region (by decide) ?_
  refine rts _ rfl (allocN rfl zt94_U6 (by first | exact List.length_nil | (simp only [List.length_cons, List.length_nil, Nat.zero_add, Nat.reduceAdd] <;> rfl)) (by simp only [znz] <;> rfl)) ?_
  refine .nil ?_
  refine aw_keep [(0, _), (2, _)] ⟨lg (ls rfl oz), lg lz, trivial⟩ ?_
  refine aw_seq ?_
  refine aw_seq ?_
  refine aw_region (by decide) ?_
  refine rts _ rfl (opD_move oz) ?_
  refine rts _ rfl (opD_bin lz (ev_const _ _) (fun w => errV_geql _ w _) (fun w => errV_eql _ w)) ?_
  refine .nil ?_
  refine aw_keep [(0, _), (2, _), (5, _)] ⟨lg (ls rfl (ls rfl oz)), lg (ls rfl (ls rfl (os rfl oz))), lg lz, trivial⟩ ?_
  refine aw_cond _ (os rfl (os rfl oz)) (fun hc => ?_) (fun hc => ?_)
  · skip
    replace h0 := ifb_t h0 hc
    clear hc
    refine aw_seq ?_
    refine aw_region (by decide) ?_
    refine rts _ rfl (opD_build_struct (rs := [_, _, _, _, _, _, _]) Tryd.underlying94 pt94_U6 zt94_U6 parts_nil rfl) ?_
    refine rts _ rfl (storeAN rfl sz94_U6 (ls rfl (os rfl oz)) lz (ones_cons (one_pl rfl) (ones_cons (one_pl rfl) (ones_cons (one_pl rfl) (ones_cons (one_pl rfl) (ones_cons (one_pl rfl) (ones_cons (one_pl rfl) (ones_cons (one_pl rfl) ones_nil))))))) rfl rfl (zNb rfl) (List.cons_ne_nil _ _) (zbc zPb (zbc zPb (zbc zPb (zbc zPb (zbc zPb (zbc zPb (zbc zPb bnd_nil))))))) (by simp only [znz] <;> rfl) (by simp only [znz] <;> rfl)) ?_
    refine .nil ?_
    refine aw_keep [(2, _)] ⟨lg (lx (ls rfl (os rfl oz))), trivial⟩ ?_
    refine aw_ret ?_
    obtain rfl := some_of h0
    exact done_ext (.inr rfl) ((res_one rfl (it_cellA (B := ⟨94, [_, _, _, _, _, _, _]⟩) ag94_U6 sz94_U6 oz (loc_getN rfl rfl) rfl)).le (agg_le ⟨zLr, zLr, zLr, zLr, (le_nil rfl), (le_nil rfl), (le_nil rfl), trivial⟩)) (agg_bnd (zbc zPb (zbc zPb (zbc zPb (zbc zPb (zbc (sl_b kb_Ent) (zbc (sl_b kb_Rf) (zbc (sl_b kb_Lin) bnd_nil))))))))
  · skip
    replace h0 := ifb_f h0 hc
    clear hc
    refine aw_skip ?_
    refine aw_keep [(0, _), (2, _)] ⟨lg oz, lg (os rfl oz), trivial⟩ ?_
    refine aw_seq ?_
    refine aw_region (by decide) ?_
    refine rts _ rfl (allocN rfl zt107_U6 (by first | exact List.length_nil | (simp only [List.length_cons, List.length_nil, Nat.zero_add, Nat.reduceAdd] <;> rfl)) (by simp only [znz] <;> rfl)) ?_
    refine rts _ rfl (storeON rfl sz107_U6 lz (le_of_eq (ev_const _ _)) (one_pl rfl) rfl (zNb rfl) zPb (by simp only [znz] <;> rfl) (by simp only [znz] <;> rfl)) ?_
    refine .nil ?_
    refine aw_keep [(0, _), (2, _), (3, _)] ⟨lg (lx (ls rfl oz)), lg (lx (ls rfl (os rfl oz))), lg (lx lz), trivial⟩ ?_
    refine aw_seq ?_
    refine aw_region (by decide) ?_
    refine rts _ rfl (opD_move oz) ?_
    refine rts _ rfl (opD_makeInterface cc168_U6 (ls rfl (os rfl (os rfl oz)))) ?_
    replace h0 := bnd_some h0
    obtain ⟨x_1, hx_1, h0⟩ := h0
    refine rts _ rfl (callLxN rfl ht90_U6 (as_box hst (loc_getN rfl rfl)) ⟨le_of_eq ((ls rfl lz).trans (by rw [hx_1]; rfl)), le_of_eq lz, trivial⟩ (by simp only [znz] <;> rfl)) ?_
    refine .nil ?_
    refine aw_keep [(2, _), (3, _)] ⟨lg (ls rfl (ls rfl (ls rfl (os rfl oz)))), lg (ls rfl (ls rfl (ls rfl (os rfl (os rfl oz))))), trivial⟩ ?_
    refine aw_seq ?_
    refine aw_region (by decide) ?_
    refine rts _ rfl (opD_load_one ag107_U6 (os rfl oz) (loc_getN rfl rfl) rfl) ?_
    refine rts _ rfl (opD_build_struct (rs := [_, _, _, _, _, _, _]) Tryd.underlying94 pt94_U6 zt94_U6 (parts_cons (cells1 lz (one_pl rfl)) parts_nil) rfl) ?_
    refine rts _ rfl (storeAN rfl sz94_U6 (ls rfl (ls rfl oz)) lz (ones_cons (one_pl rfl) (ones_cons (one_pl rfl) (ones_cons (one_pl rfl) (ones_cons (one_pl rfl) (ones_cons (one_pl rfl) (ones_cons (one_pl rfl) (ones_cons (one_pl rfl) ones_nil))))))) rfl rfl (zNb rfl) (List.cons_ne_nil _ _) (zbc zPb (zbc zPb (zbc zPb (zbc zPb (zbc zPb (zbc zPb (zbc zPb bnd_nil))))))) (by simp only [znz] <;> rfl) (by simp only [znz] <;> rfl)) ?_
    refine .nil ?_
    refine aw_keep [(2, _)] ⟨lg (lx (ls rfl (ls rfl oz))), trivial⟩ ?_
    refine aw_ret ?_
    obtain rfl := some_of h0
    exact done_ext (.inr rfl) ((res_one rfl (it_cellA (B := ⟨94, [_, _, _, _, _, _, _]⟩) ag94_U6 sz94_U6 oz (loc_getN rfl rfl) rfl)).le (agg_le ⟨zLr, zLr, zLr, zLr, (le_nil rfl), (le_nil rfl), (le_nil rfl), trivial⟩)) (agg_bnd (zbc zPb (zbc zPb (zbc zPb (zbc zPb (zbc (sl_b kb_Ent) (zbc (sl_b kb_Rf) (zbc (sl_b kb_Lin) bnd_nil))))))))

def F_wrongO : Option (Rpl) :=
  some (⟨1, 0, false, ⟨#[]⟩, [], [], []⟩ : Rpl)
set_option maxRecDepth 100000 in
set_option maxHeartbeats 2000000 in
theorem c_wrongO {R : Rpl} {s : St} (h0 : F_wrongO = some R) (hst : StGV s) : AC Tryd.prog 61 [oe] s (agg [pl (.int .i64 R.Code), pl (.int .u64 R.N), pl (.bool R.Found), pl (.string R.Value), sl kEnt none none R.Rows, sl kRf none none R.Refs, sl kLin none none R.Lines]) s := by
  unfold F_wrongO at h0
  refine ac_of_aw s.boxes.length s.fr.length Tryd.func61 rfl (by simp [Tryd.ntmps61]) ?_
  refine aw_ext0 ?_
  refine aw_keep [(0, _)] ⟨lg ez, trivial⟩ ?_
  refine aw_seq ?_
  refine aw_region (by decide) ?_
  refine rts _ rfl (allocN rfl zt94_U6 (by first | exact List.length_nil | (simp only [List.length_cons, List.length_nil, Nat.zero_add, Nat.reduceAdd] <;> rfl)) (by simp only [znz] <;> rfl)) ?_
  refine .nil ?_
  refine aw_keep [(0, _), (2, _)] ⟨lg (ls rfl oz), lg lz, trivial⟩ ?_
  refine aw_seq ?_
  refine aw_seq ?_
  refine aw_region (by decide) ?_
  refine rts _ rfl (opD_move oz) ?_
  refine rts _ rfl (opD_oe_eql lz) ?_
  refine .nil ?_
  refine aw_keep [(0, _), (2, _), (5, _)] ⟨lg (ls rfl (ls rfl oz)), lg (ls rfl (ls rfl (os rfl oz))), lg lz, trivial⟩ ?_
  refine aw_cond _ (os rfl (os rfl oz)) (fun hc => ?_) (fun hc => ?_)
  · skip
    cases hc
  · skip
    refine aw_skip ?_
    refine aw_keep [(0, _), (2, _)] ⟨lg oz, lg (os rfl oz), trivial⟩ ?_
    refine aw_seq ?_
    refine aw_region (by decide) ?_
    refine rts _ rfl (allocN rfl zt107_U6 (by first | exact List.length_nil | (simp only [List.length_cons, List.length_nil, Nat.zero_add, Nat.reduceAdd] <;> rfl)) (by simp only [znz] <;> rfl)) ?_
    refine rts _ rfl (storeON rfl sz107_U6 lz (le_of_eq (ev_const _ _)) (one_pl rfl) rfl (zNb rfl) zPb (by simp only [znz] <;> rfl) (by simp only [znz] <;> rfl)) ?_
    refine .nil ?_
    refine aw_keep [(0, _), (2, _), (3, _)] ⟨lg (lx (ls rfl oz)), lg (lx (ls rfl (os rfl oz))), lg (lx lz), trivial⟩ ?_
    refine aw_seq ?_
    refine aw_region (by decide) ?_
    refine rts _ rfl (opD_move oz) ?_
    refine rts _ rfl (opD_makeInterface cc168_U6 (ls rfl (os rfl (os rfl oz)))) ?_
    refine rts _ rfl (opD_call ht90_U6 (as_missB hst (loc_getN rfl rfl)) ⟨le_of_eq (ls rfl lz), le_of_eq lz, trivial⟩) ?_
    refine .nil ?_
    refine aw_keep [(2, _), (3, _)] ⟨lg (ls rfl (ls rfl (ls rfl (os rfl oz)))), lg (ls rfl (ls rfl (ls rfl (os rfl (os rfl oz))))), trivial⟩ ?_
    refine aw_seq ?_
    refine aw_region (by decide) ?_
    refine rts _ rfl (opD_load_one ag107_U6 (os rfl oz) (loc_getN rfl rfl) rfl) ?_
    refine rts _ rfl (opD_build_struct (rs := [_, _, _, _, _, _, _]) Tryd.underlying94 pt94_U6 zt94_U6 (parts_cons (cells1 lz (one_pl rfl)) parts_nil) rfl) ?_
    refine rts _ rfl (storeAN rfl sz94_U6 (ls rfl (ls rfl oz)) lz (ones_cons (one_pl rfl) (ones_cons (one_pl rfl) (ones_cons (one_pl rfl) (ones_cons (one_pl rfl) (ones_cons (one_pl rfl) (ones_cons (one_pl rfl) (ones_cons (one_pl rfl) ones_nil))))))) rfl rfl (zNb rfl) (List.cons_ne_nil _ _) (zbc zPb (zbc zPb (zbc zPb (zbc zPb (zbc zPb (zbc zPb (zbc zPb bnd_nil))))))) (by simp only [znz] <;> rfl) (by simp only [znz] <;> rfl)) ?_
    refine .nil ?_
    refine aw_keep [(2, _)] ⟨lg (lx (ls rfl (ls rfl oz))), trivial⟩ ?_
    refine aw_ret ?_
    obtain rfl := some_of h0
    exact done_ext (.inr rfl) ((res_one rfl (it_cellA (B := ⟨94, [_, _, _, _, _, _, _]⟩) ag94_U6 sz94_U6 oz (loc_getN rfl rfl) rfl)).le (agg_le ⟨zLr, zLr, zLr, zLr, (le_nil rfl), (le_nil rfl), (le_nil rfl), trivial⟩)) (agg_bnd (zbc zPb (zbc zPb (zbc zPb (zbc zPb (zbc (sl_b kb_Ent) (zbc (sl_b kb_Rf) (zbc (sl_b kb_Lin) bnd_nil))))))))

def F_sure36 (fl : Nat) : Option (Bool) :=
  bnd (F_renc fl (⟨12, 0, false, ⟨#[]⟩, [], [], []⟩ : Rpl)) fun x_1 => bnd (F_rdec fl x_1.1) fun x_2 => bnd (F_rdec fl []) fun x_3 => bnd (gif ((((x_1.2.isNone && x_2.2.isNone) && (decide ((strOf x_1.1) = ⟨#[12, 0, 0, 0, 0, 0, 0]⟩))) && (decide (x_2.1.Code = 12))) == true) (oNumF x_3.2)) fun x_4 => bnd (gif (((((x_1.2.isNone && x_2.2.isNone) && (decide ((strOf x_1.1) = ⟨#[12, 0, 0, 0, 0, 0, 0]⟩))) && (decide (x_2.1.Code = 12))) && (decide (x_4 = 3))) == true) (F_wrong (some 12))) fun x_5 => bnd (gif ((((((x_1.2.isNone && x_2.2.isNone) && (decide ((strOf x_1.1) = ⟨#[12, 0, 0, 0, 0, 0, 0]⟩))) && (decide (x_2.1.Code = 12))) && (decide (x_4 = 3))) && (decide (x_5.Code = 12))) == true) (F_wrong none)) fun x_6 => bnd (gif (((((((x_1.2.isNone && x_2.2.isNone) && (decide ((strOf x_1.1) = ⟨#[12, 0, 0, 0, 0, 0, 0]⟩))) && (decide (x_2.1.Code = 12))) && (decide (x_4 = 3))) && (decide (x_5.Code = 12))) && (decide (x_6.Code = 0))) == true) (F_wrongO)) fun x_7 => some (((((((x_1.2.isNone && x_2.2.isNone) && (decide ((strOf x_1.1) = ⟨#[12, 0, 0, 0, 0, 0, 0]⟩))) && (decide (x_2.1.Code = 12))) && (decide (x_4 = 3))) && (decide (x_5.Code = 12))) && (decide (x_6.Code = 0))) && (decide (x_7.Code = 1)))
set_option maxRecDepth 100000 in
set_option maxHeartbeats 2000000 in
theorem c_sure36 {fl : Nat} {R : Bool} {s : St} (h0 : F_sure36 fl = some R) (hst : StGV s) : AC Tryd.prog 50 [] s (pl (.bool R)) s := by
  unfold F_sure36 at h0
  refine ac_of_aw s.boxes.length s.fr.length Tryd.func50 rfl (by simp [Tryd.ntmps50]) ?_
  refine aw_ext0 ?_
  refine aw_keep [] trivial ?_
  refine aw_seq ?_
  refine aw_region (by decide) ?_
  refine rts _ rfl (opD_assign (ev_const _ _)) ?_
  refine .nil ?_
  refine aw_keep [] trivial ?_
  refine aw_seq ?_
  refine aw_region (by decide) ?_
  refine rts _ rfl (opD_build_struct (rs := [_, _, _, _, _, _, _]) Tryd.underlying94 pt94_U6 zt94_U6 (parts_cons (cells1 (ev_const _ _) (one_pl rfl)) parts_nil) rfl) ?_
  replace h0 := bnd_some h0
  obtain ⟨x_1, hx_1, h0⟩ := h0
  refine rts _ rfl (opD_pure ht51_U6 (c_renc hx_1) ⟨(le_of_eq lz).trans (agg_le ⟨zLr, zLr, zLr, zLr, (le_nil rfl), (le_nil rfl), (le_nil rfl), trivial⟩), trivial⟩) ?_
  refine rts _ rfl (opD_move lz) ?_
  refine rts _ rfl (opD_extract lz rfl) ?_
  refine rts _ rfl (opD_extract (ls rfl lz) rfl) ?_
  refine rts _ rfl (opD_assign (ls rfl lz)) ?_
  refine rts _ rfl (opD_assign (ls rfl lz)) ?_
  refine .nil ?_
  refine aw_keep [(1, _), (2, _)] ⟨lg (ls rfl lz), lg lz, trivial⟩ ?_
  refine aw_seq ?_
  refine aw_region (by decide) ?_
  refine rts _ rfl (opD_move oz) ?_
  replace h0 := bnd_some h0
  obtain ⟨x_2, hx_2, h0⟩ := h0
  refine rts _ rfl (opD_pure ht54_U6 (c_rdec hx_2) ⟨le_of_eq lz, trivial⟩) ?_
  refine rts _ rfl (opD_move lz) ?_
  refine rts _ rfl (opD_extract lz rfl) ?_
  refine rts _ rfl (opD_extract (ls rfl lz) rfl) ?_
  refine rts _ rfl (allocN rfl zt94_U6 (by first | exact List.length_nil | (simp only [List.length_cons, List.length_nil, Nat.zero_add, Nat.reduceAdd] <;> rfl)) (by simp only [znz] <;> rfl)) ?_
  refine rts _ rfl (storeAN rfl sz94_U6 lz (ls rfl (ls rfl lz)) (ones_cons (one_pl rfl) (ones_cons (one_pl rfl) (ones_cons (one_pl rfl) (ones_cons (one_pl rfl) (ones_cons (one_sl _ _ _ _) (ones_cons (one_sl _ _ _ _) (ones_cons (one_sl _ _ _ _) ones_nil))))))) rfl rfl (zNb rfl) (List.cons_ne_nil _ _) (zbc zPb (zbc zPb (zbc zPb (zbc zPb (zbc (sl_b kb_Ent) (zbc (sl_b kb_Rf) (zbc (sl_b kb_Lin) bnd_nil))))))) (by simp only [znz] <;> rfl) (by simp only [znz] <;> rfl)) ?_
  refine rts _ rfl (opD_assign (lx (ls rfl lz))) ?_
  refine .nil ?_
  refine aw_keep [(1, _), (2, _), (3, _), (4, _)] ⟨lg (ls rfl (lx (ls rfl (ls rfl (ls rfl (ls rfl (ls rfl (ls rfl oz)))))))), lg (ls rfl (lx (ls rfl (ls rfl (ls rfl (ls rfl (ls rfl (ls rfl (os rfl oz))))))))), lg (ls rfl (lx lz)), lg lz, trivial⟩ ?_
  refine aw_seq ?_
  refine aw_region (by decide) ?_
  replace h0 := bnd_some h0
  obtain ⟨x_3, hx_3, h0⟩ := h0
  refine rts _ rfl (opD_pure ht54_U6 (c_rdec hx_3) ⟨(le_of_eq (ev_const _ _)).trans (le_nil rfl), trivial⟩) ?_
  refine rts _ rfl (opD_move lz) ?_
  refine rts _ rfl (opD_extract lz rfl) ?_
  refine rts _ rfl (opD_extract (ls rfl lz) rfl) ?_
  refine rts _ rfl (allocN rfl zt94_U6 (by first | exact List.length_nil | (simp only [List.length_cons, List.length_nil, Nat.zero_add, Nat.reduceAdd] <;> rfl)) (by simp only [znz] <;> rfl)) ?_
  refine rts _ rfl (storeAN rfl sz94_U6 lz (ls rfl (ls rfl lz)) (ones_cons (one_pl rfl) (ones_cons (one_pl rfl) (ones_cons (one_pl rfl) (ones_cons (one_pl rfl) (ones_cons (one_sl _ _ _ _) (ones_cons (one_sl _ _ _ _) (ones_cons (one_sl _ _ _ _) ones_nil))))))) rfl rfl (zNb rfl) (List.cons_ne_nil _ _) (zbc zPb (zbc zPb (zbc zPb (zbc zPb (zbc (sl_b kb_Ent) (zbc (sl_b kb_Rf) (zbc (sl_b kb_Lin) bnd_nil))))))) (by simp only [znz] <;> rfl) (by simp only [znz] <;> rfl)) ?_
  refine rts _ rfl (opD_assign (lx (ls rfl lz))) ?_
  refine .nil ?_
  refine aw_keep [(1, _), (2, _), (3, _), (4, _), (6, _)] ⟨lg (ls rfl (lx (ls rfl (ls rfl (ls rfl (ls rfl (ls rfl oz))))))), lg (ls rfl (lx (ls rfl (ls rfl (ls rfl (ls rfl (ls rfl (os rfl oz)))))))), lg (ls rfl (lx (ls rfl (ls rfl (ls rfl (ls rfl (ls rfl (os rfl (os rfl oz))))))))), lg (ls rfl (lx (ls rfl (ls rfl (ls rfl (ls rfl (ls rfl (os rfl (os rfl (os rfl oz)))))))))), lg lz, trivial⟩ ?_
  refine aw_seq ?_
  refine aw_region (by decide) ?_
  refine rts _ rfl (opD_move (os rfl oz)) ?_
  refine rts _ rfl (opD_bin lz (ev_const _ _) (fun w => errV_geql _ w _) (fun w => errV_eql _ w)) ?_
  refine rts _ rfl (opD_move lz) ?_
  refine rtg _ rfl lz (fun hg4_3_1 => opD_move (ls rfl (ls rfl (ls rfl (os rfl (os rfl (os rfl oz))))))) ?_
  refine rtg _ rfl (ls rfl lz) (fun hg4_4_2 => opD_bin (lz.trans (pif_pos hg4_4_2)) (ev_const _ _) (fun w => errV_geql _ w _) (fun w => errV_eql _ w)) ?_
  refine rts _ rfl (opD_and (ls rfl (ls rfl lz)) lz) ?_
  refine rts _ rfl (opD_move lz) ?_
  refine rtg _ rfl lz (fun hg4_7_3 => opD_move (ls rfl (ls rfl (ls rfl (ls rfl (ls rfl (ls rfl (ls rfl oz)))))))) ?_
  refine rtg _ rfl (ls rfl lz) (fun hg4_8_4 => opD_bytes_str Tryd.underlying23 Tryd.underlying5 Tryd.underlying9 (lz.trans (pif_pos hg4_8_4))) ?_
  refine rtg _ rfl (ls rfl (ls rfl lz)) (fun hg4_9_5 => opD_seql (lz.trans (pif_pos hg4_9_5)) (ev_const _ _)) ?_
  refine rts _ rfl (opD_and (ls rfl (ls rfl (ls rfl lz))) lz) ?_
  refine rts _ rfl (opD_move lz) ?_
  refine rtg _ rfl lz (fun hg4_12_6 => opD_fieldAddr fo94_0_U6 (ls rfl (ls rfl (ls rfl (ls rfl (ls rfl (ls rfl (ls rfl (ls rfl (ls rfl (ls rfl (ls rfl (ls rfl (os rfl (os rfl oz))))))))))))))) ?_
  refine rtg _ rfl (ls rfl lz) (fun hg4_13_7 => opD_load_one ag3_U6 (lz.trans (pif_pos hg4_13_7)) (loc_getN rfl rfl) rfl) ?_
  refine rtg _ rfl (ls rfl (ls rfl lz)) (fun hg4_14_8 => opD_eql (lz.trans (pif_pos hg4_14_8)) (ev_const _ _)) ?_
  refine rts _ rfl (opD_and (ls rfl (ls rfl (ls rfl lz))) lz) ?_
  refine rts _ rfl (opD_move lz) ?_
  refine rtg _ rfl lz (fun hg4_17_9 => opD_move (ls rfl (ls rfl (ls rfl (ls rfl (ls rfl (ls rfl (ls rfl (ls rfl (ls rfl (ls rfl (ls rfl (ls rfl (ls rfl (ls rfl (ls rfl (ls rfl (ls rfl (os rfl (os rfl (os rfl (os rfl oz)))))))))))))))))))))) ?_
  replace h0 := bnd_some h0
  obtain ⟨x_4, hx_4, h0⟩ := h0
  refine rtg _ rfl (ls rfl lz) (fun hg4_18_10 => opD_call ht56_U6 (c_num36 (gif_some hx_4 hg4_18_10) hst) ⟨le_of_eq (lz.trans (pif_pos hg4_18_10)), trivial⟩) ?_
  refine rtg _ rfl (ls rfl (ls rfl lz)) (fun hg4_19_11 => opD_eql (lz.trans (pif_pos hg4_19_11)) (ev_const _ _)) ?_
  refine rts _ rfl (opD_and (ls rfl (ls rfl (ls rfl lz))) lz) ?_
  refine rts _ rfl (opD_move lz) ?_
  refine rtg _ rfl lz (fun hg4_22_12 => opD_ple (q := pl (errV (some 12))) rfl (opD_makeInterface_pl cc107_U6 (ev_const _ _))) ?_
  replace h0 := bnd_some h0
  obtain ⟨x_5, hx_5, h0⟩ := h0
  refine rtg _ rfl (ls rfl lz) (fun hg4_23_13 => opD_call ht61_U6 (c_wrong (gif_some hx_5 hg4_23_13) hst) ⟨le_of_eq (lz.trans (pif_pos hg4_23_13)), trivial⟩) ?_
  refine rtg _ rfl (ls rfl (ls rfl lz)) (fun hg4_24_14 => opD_field_one fd94_0_U6 ag3_U6 (lz.trans (pif_pos hg4_24_14)) rfl) ?_
  refine rtg _ rfl (ls rfl (ls rfl (ls rfl lz))) (fun hg4_25_15 => opD_eql (lz.trans (pif_pos hg4_25_15)) (ev_const _ _)) ?_
  refine rts _ rfl (opD_and (ls rfl (ls rfl (ls rfl (ls rfl lz)))) lz) ?_
  refine rts _ rfl (opD_move lz) ?_
  replace h0 := bnd_some h0
  obtain ⟨x_6, hx_6, h0⟩ := h0
  refine rtg _ rfl lz (fun hg4_28_16 => opD_call ht61_U6 (c_wrong (gif_some hx_6 hg4_28_16) hst) ⟨le_of_eq (ev_const _ _), trivial⟩) ?_
  refine rtg _ rfl (ls rfl lz) (fun hg4_29_17 => opD_field_one fd94_0_U6 ag3_U6 (lz.trans (pif_pos hg4_29_17)) rfl) ?_
  refine rtg _ rfl (ls rfl (ls rfl lz)) (fun hg4_30_18 => opD_eql (lz.trans (pif_pos hg4_30_18)) (ev_const _ _)) ?_
  refine rts _ rfl (opD_and (ls rfl (ls rfl (ls rfl lz))) lz) ?_
  refine rts _ rfl (opD_move lz) ?_
  refine rtg _ rfl lz (fun hg4_33_19 => opD_pure ht96_U6 (new_oe) ⟨le_of_eq (ev_const _ _), trivial⟩) ?_
  replace h0 := bnd_some h0
  obtain ⟨x_7, hx_7, h0⟩ := h0
  refine rtg _ rfl (ls rfl lz) (fun hg4_34_20 => opD_call ht61_U6 (c_wrongO (gif_some hx_7 hg4_34_20) hst) ⟨le_of_eq (lz.trans (pif_pos hg4_34_20)), trivial⟩) ?_
  refine rtg _ rfl (ls rfl (ls rfl lz)) (fun hg4_35_21 => opD_field_one fd94_0_U6 ag3_U6 (lz.trans (pif_pos hg4_35_21)) rfl) ?_
  refine rtg _ rfl (ls rfl (ls rfl (ls rfl lz))) (fun hg4_36_22 => opD_eql (lz.trans (pif_pos hg4_36_22)) (ev_const _ _)) ?_
  refine rts _ rfl (opD_and (ls rfl (ls rfl (ls rfl (ls rfl lz)))) lz) ?_
  refine rts _ rfl (opD_assign lz) ?_
  refine .nil ?_
  refine aw_keep [(0, _)] ⟨lg lz, trivial⟩ ?_
  refine aw_ret ?_
  obtain rfl := some_of h0
  exact done_ext (.inr rfl) ((res_one rfl (it_tmp oz)).le zLr) zPb

def F_rForms (fl : Nat) (p0 : Rpl) (p1 : Rpl) (p2 : (List Int)) : Option (Bool) :=
  bnd (F_rbig fl p0) fun x_1 => bnd (gif (x_1 == false) (F_rbig fl p1)) fun x_2 => ifb ((x_1 || x_2) || (decide (9000 < (p2.length : Int)))) (bnd (F_sure36 fl) fun x_3 => some x_3) (bnd (F_rgive fl p0) fun x_4 => bnd (F_renc fl x_4) fun x_5 => bnd (F_renc2 fl p0) fun x_6 => bnd (F_rdec fl p2) fun x_7 => bnd (F_rdec2 fl p2) fun x_8 => bnd (gif ((decide ((strOf x_5.1) = (strOf x_6.1))) == true) (oNumF x_5.2)) fun x_9 => bnd (gif (((decide ((strOf x_5.1) = (strOf x_6.1))) && (decide (x_9 = x_6.2))) == true) (F_ris fl x_7.1 x_8.1)) fun x_10 => bnd (gif ((((decide ((strOf x_5.1) = (strOf x_6.1))) && (decide (x_9 = x_6.2))) && x_10) == true) (oNumF x_7.2)) fun x_11 => bnd (gif (((((decide ((strOf x_5.1) = (strOf x_6.1))) && (decide (x_9 = x_6.2))) && x_10) && (decide (x_11 = x_8.2))) == true) (F_rgive fl p0)) fun x_12 => bnd (gif (((((decide ((strOf x_5.1) = (strOf x_6.1))) && (decide (x_9 = x_6.2))) && x_10) && (decide (x_11 = x_8.2))) == true) (F_rcheck fl x_12)) fun x_13 => bnd (gif (((((decide ((strOf x_5.1) = (strOf x_6.1))) && (decide (x_9 = x_6.2))) && x_10) && (decide (x_11 = x_8.2))) == true) (F_rmay fl p0)) fun x_14 => bnd (gif ((((((decide ((strOf x_5.1) = (strOf x_6.1))) && (decide (x_9 = x_6.2))) && x_10) && (decide (x_11 = x_8.2))) && (x_13.isNone == x_14)) == true) (F_rgive fl p0)) fun x_15 => bnd (gif ((((((decide ((strOf x_5.1) = (strOf x_6.1))) && (decide (x_9 = x_6.2))) && x_10) && (decide (x_11 = x_8.2))) && (x_13.isNone == x_14)) == true) (F_rgive fl p1)) fun x_16 => bnd (gif ((((((decide ((strOf x_5.1) = (strOf x_6.1))) && (decide (x_9 = x_6.2))) && x_10) && (decide (x_11 = x_8.2))) && (x_13.isNone == x_14)) == true) (F_rsame fl x_15 x_16)) fun x_17 => bnd (gif ((((((decide ((strOf x_5.1) = (strOf x_6.1))) && (decide (x_9 = x_6.2))) && x_10) && (decide (x_11 = x_8.2))) && (x_13.isNone == x_14)) == true) (F_rgive fl p0)) fun x_18 => bnd (gif ((((((decide ((strOf x_5.1) = (strOf x_6.1))) && (decide (x_9 = x_6.2))) && x_10) && (decide (x_11 = x_8.2))) && (x_13.isNone == x_14)) == true) (F_ris fl x_18 p1)) fun x_19 => bnd (gif (((((((decide ((strOf x_5.1) = (strOf x_6.1))) && (decide (x_9 = x_6.2))) && x_10) && (decide (x_11 = x_8.2))) && (x_13.isNone == x_14)) && (x_17 == x_19)) == true) (F_sure36 fl)) fun x_20 => some (((((((decide ((strOf x_5.1) = (strOf x_6.1))) && (decide (x_9 = x_6.2))) && x_10) && (decide (x_11 = x_8.2))) && (x_13.isNone == x_14)) && (x_17 == x_19)) && x_20))
set_option maxRecDepth 100000 in
set_option maxHeartbeats 2000000 in
theorem c_rForms {fl : Nat} {p0 : Rpl} {p1 : Rpl} {p2 : (List Int)} {R : Bool} {s : St} (h0 : F_rForms fl p0 p1 p2 = some R) (hst : StGV s) : AC Tryd.prog 9 [agg [pl (.int .i64 p0.Code), pl (.int .u64 p0.N), pl (.bool p0.Found), pl (.string p0.Value), sl kEnt none none p0.Rows, sl kRf none none p0.Refs, sl kLin none none p0.Lines], agg [pl (.int .i64 p1.Code), pl (.int .u64 p1.N), pl (.bool p1.Found), pl (.string p1.Value), sl kEnt none none p1.Rows, sl kRf none none p1.Refs, sl kLin none none p1.Lines], sl (kI .u8) none none p2] s (pl (.bool R)) s := by
  unfold F_rForms at h0
  refine ac_of_aw s.boxes.length s.fr.length Tryd.func9 rfl (by simp [Tryd.ntmps9]) ?_
  refine aw_ext0 ?_
  refine aw_keep [(0, _), (1, _), (2, _)] ⟨lg ez, lg (es ez), lg (es (es ez)), trivial⟩ ?_
  refine aw_seq ?_
  refine aw_region (by decide) ?_
  refine rts _ rfl (boxAN rfl oz (zbc zPb (zbc zPb (zbc zPb (zbc zPb (zbc (sl_b kb_Ent) (zbc (sl_b kb_Rf) (zbc (sl_b kb_Lin) bnd_nil))))))) (by first | exact List.length_nil | (simp only [List.length_cons, List.length_nil, Nat.zero_add, Nat.reduceAdd] <;> rfl)) (by simp only [znz] <;> rfl)) ?_
  refine rts _ rfl (boxAN rfl (ls rfl (os rfl oz)) (zbc zPb (zbc zPb (zbc zPb (zbc zPb (zbc (sl_b kb_Ent) (zbc (sl_b kb_Rf) (zbc (sl_b kb_Lin) bnd_nil))))))) (by first | exact List.length_nil | (simp only [List.length_cons, List.length_nil, Nat.zero_add, Nat.reduceAdd] <;> rfl)) (by simp only [znz] <;> rfl)) ?_
  refine rts _ rfl (opD_assign (ev_const _ _)) ?_
  refine .nil ?_
  refine aw_keep [(2, _), (3, _), (4, _)] ⟨lg (ls rfl (ls rfl (ls rfl (os rfl (os rfl oz))))), lg (ls rfl (ls rfl lz)), lg (ls rfl lz), trivial⟩ ?_
  refine aw_seq ?_
  refine aw_seq ?_
  refine aw_region (by decide) ?_
  refine rts _ rfl (opD_load_aggX (qs := [_, _, _, _, _, _, _]) ag88_U6 sz88_U6 (os rfl oz) (loc_getN rfl rfl) (zNb rfl) rfl) ?_
  replace h0 := bnd_some h0
  obtain ⟨x_1, hx_1, h0⟩ := h0
  refine rts _ rfl (opD_pure ht49_U6 (c_rbig hx_1) ⟨(le_of_eq lz).trans (agg_le ⟨zLr, zLr, zLr, zLr, zLr, zLr, zLr, trivial⟩), trivial⟩) ?_
  refine rts _ rfl (opD_move lz) ?_
  refine rtg _ rfl lz (fun hg1_3_1 => opD_load_aggX (qs := [_, _, _, _, _, _, _]) ag88_U6 sz88_U6 (ls rfl (ls rfl (ls rfl (os rfl (os rfl oz))))) (loc_getN rfl rfl) (zNb rfl) rfl) ?_
  replace h0 := bnd_some h0
  obtain ⟨x_2, hx_2, h0⟩ := h0
  refine rtg _ rfl (ls rfl lz) (fun hg1_4_2 => opD_pure ht49_U6 (c_rbig (gif_some hx_2 hg1_4_2)) ⟨(le_of_eq (lz.trans (pif_pos hg1_4_2))).trans (agg_le ⟨zLr, zLr, zLr, zLr, zLr, zLr, zLr, trivial⟩), trivial⟩) ?_
  refine rts _ rfl (opD_or (ls rfl (ls rfl lz)) lz) ?_
  refine rts _ rfl (opD_move lz) ?_
  refine rtg _ rfl lz (fun hg1_7_3 => opD_move (ls rfl (ls rfl (ls rfl (ls rfl (ls rfl (ls rfl (ls rfl oz)))))))) ?_
  refine rtg _ rfl (ls rfl lz) (fun hg1_8_4 => opD_len_sl Tryd.underlying23 (lz.trans (pif_pos hg1_8_4))) ?_
  refine rtg _ rfl (ls rfl (ls rfl lz)) (fun hg1_9_5 => opD_gtr (lz.trans (pif_pos hg1_9_5)) (ev_const _ _)) ?_
  refine rts _ rfl (opD_or (ls rfl (ls rfl (ls rfl lz))) lz) ?_
  refine .nil ?_
  refine aw_keep [(2, _), (3, _), (4, _), (25, _)] ⟨lg (ls rfl (ls rfl (ls rfl (ls rfl (ls rfl (ls rfl (ls rfl (ls rfl (ls rfl (ls rfl (ls rfl oz))))))))))), lg (ls rfl (ls rfl (ls rfl (ls rfl (ls rfl (ls rfl (ls rfl (ls rfl (ls rfl (ls rfl (ls rfl (os rfl oz)))))))))))), lg (ls rfl (ls rfl (ls rfl (ls rfl (ls rfl (ls rfl (ls rfl (ls rfl (ls rfl (ls rfl (ls rfl (os rfl (os rfl oz))))))))))))), lg lz, trivial⟩ ?_
  refine aw_cond _ (os rfl (os rfl (os rfl oz))) (fun hc => ?_) (fun hc => ?_)
  · skip
    replace h0 := ifb_t h0 hc
    clear hc
    refine aw_seq ?_
    refine aw_region (by decide) ?_
    replace h0 := bnd_some h0
    obtain ⟨x_3, hx_3, h0⟩ := h0
    refine rts _ rfl (opD_call ht50_U6 (c_sure36 hx_3 hst) trivial) ?_
    refine rts _ rfl (opD_assign lz) ?_
    refine .nil ?_
    refine aw_keep [(6, _)] ⟨lg lz, trivial⟩ ?_
    refine aw_ret ?_
    obtain rfl := some_of h0
    exact done_ext (.inr rfl) ((res_one rfl (it_tmp oz)).le zLr) zPb
  · skip
    replace h0 := ifb_f h0 hc
    clear hc
    refine aw_skip ?_
    refine aw_keep [(2, _), (3, _), (4, _)] ⟨lg oz, lg (os rfl oz), lg (os rfl (os rfl oz)), trivial⟩ ?_
    refine aw_seq ?_
    refine aw_region (by decide) ?_
    refine rts _ rfl (opD_load_aggX (qs := [_, _, _, _, _, _, _]) ag88_U6 sz88_U6 (os rfl oz) (loc_getN rfl rfl) (zNb rfl) rfl) ?_
    replace h0 := bnd_some h0
    obtain ⟨x_4, hx_4, h0⟩ := h0
    refine rts _ rfl (opD_pure ht52_U6 (c_rgive hx_4) ⟨(le_of_eq lz).trans (agg_le ⟨zLr, zLr, zLr, zLr, zLr, zLr, zLr, trivial⟩), trivial⟩) ?_
    replace h0 := bnd_some h0
    obtain ⟨x_5, hx_5, h0⟩ := h0
    refine rts _ rfl (opD_pure ht51_U6 (c_renc hx_5) ⟨(le_of_eq lz).trans (agg_le ⟨zLr, zLr, zLr, zLr, zLr, zLr, zLr, trivial⟩), trivial⟩) ?_
    refine rts _ rfl (opD_move lz) ?_
    refine rts _ rfl (opD_extract lz rfl) ?_
    refine rts _ rfl (opD_extract (ls rfl lz) rfl) ?_
    refine rts _ rfl (opD_assign (ls rfl lz)) ?_
    refine rts _ rfl (opD_assign (ls rfl lz)) ?_
    refine .nil ?_
    refine aw_keep [(2, _), (3, _), (4, _), (7, _), (8, _)] ⟨lg (ls rfl (ls rfl (ls rfl (ls rfl (ls rfl (ls rfl (ls rfl (ls rfl oz)))))))), lg (ls rfl (ls rfl (ls rfl (ls rfl (ls rfl (ls rfl (ls rfl (ls rfl (os rfl oz))))))))), lg (ls rfl (ls rfl (ls rfl (ls rfl (ls rfl (ls rfl (ls rfl (ls rfl (os rfl (os rfl oz)))))))))), lg (ls rfl lz), lg lz, trivial⟩ ?_
    refine aw_seq ?_
    refine aw_region (by decide) ?_
    refine rts _ rfl (opD_load_aggX (qs := [_, _, _, _, _, _, _]) ag88_U6 sz88_U6 (os rfl oz) (loc_getN rfl rfl) (zNb rfl) rfl) ?_
    replace h0 := bnd_some h0
    obtain ⟨x_6, hx_6, h0⟩ := h0
    refine rts _ rfl (opD_pure ht53_U6 (c_renc2 hx_6) ⟨(le_of_eq lz).trans (agg_le ⟨zLr, zLr, zLr, zLr, zLr, zLr, zLr, trivial⟩), trivial⟩) ?_
    refine rts _ rfl (opD_move lz) ?_
    refine rts _ rfl (opD_extract lz rfl) ?_
    refine rts _ rfl (opD_extract (ls rfl lz) rfl) ?_
    refine rts _ rfl (opD_assign (ls rfl lz)) ?_
    refine rts _ rfl (opD_assign (ls rfl lz)) ?_
    refine .nil ?_
    refine aw_keep [(2, _), (3, _), (4, _), (7, _), (8, _), (9, _), (10, _)] ⟨lg (ls rfl (ls rfl (ls rfl (ls rfl (ls rfl (ls rfl (ls rfl oz))))))), lg (ls rfl (ls rfl (ls rfl (ls rfl (ls rfl (ls rfl (ls rfl (os rfl oz)))))))), lg (ls rfl (ls rfl (ls rfl (ls rfl (ls rfl (ls rfl (ls rfl (os rfl (os rfl oz))))))))), lg (ls rfl (ls rfl (ls rfl (ls rfl (ls rfl (ls rfl (ls rfl (os rfl (os rfl (os rfl oz)))))))))), lg (ls rfl (ls rfl (ls rfl (ls rfl (ls rfl (ls rfl (ls rfl (os rfl (os rfl (os rfl (os rfl oz))))))))))), lg (ls rfl lz), lg lz, trivial⟩ ?_
    refine aw_seq ?_
    refine aw_region (by decide) ?_
    refine rts _ rfl (opD_move oz) ?_
    replace h0 := bnd_some h0
    obtain ⟨x_7, hx_7, h0⟩ := h0
    refine rts _ rfl (opD_pure ht54_U6 (c_rdec hx_7) ⟨le_of_eq lz, trivial⟩) ?_
    refine rts _ rfl (opD_move lz) ?_
    refine rts _ rfl (opD_extract lz rfl) ?_
    refine rts _ rfl (opD_extract (ls rfl lz) rfl) ?_
    refine rts _ rfl (allocN rfl zt94_U6 (by first | exact List.length_nil | (simp only [List.length_cons, List.length_nil, Nat.zero_add, Nat.reduceAdd] <;> rfl)) (by simp only [znz] <;> rfl)) ?_
    refine rts _ rfl (storeAN rfl sz94_U6 lz (ls rfl (ls rfl lz)) (ones_cons (one_pl rfl) (ones_cons (one_pl rfl) (ones_cons (one_pl rfl) (ones_cons (one_pl rfl) (ones_cons (one_sl _ _ _ _) (ones_cons (one_sl _ _ _ _) (ones_cons (one_sl _ _ _ _) ones_nil))))))) rfl rfl (zNb rfl) (List.cons_ne_nil _ _) (zbc zPb (zbc zPb (zbc zPb (zbc zPb (zbc (sl_b kb_Ent) (zbc (sl_b kb_Rf) (zbc (sl_b kb_Lin) bnd_nil))))))) (by simp only [znz] <;> rfl) (by simp only [znz] <;> rfl)) ?_
    refine rts _ rfl (opD_assign (lx (ls rfl lz))) ?_
    refine .nil ?_
    refine aw_keep [(2, _), (3, _), (4, _), (7, _), (8, _), (9, _), (10, _), (11, _), (12, _)] ⟨lg (ls rfl (lx (ls rfl (ls rfl (ls rfl (ls rfl (ls rfl (ls rfl oz)))))))), lg (ls rfl (lx (ls rfl (ls rfl (ls rfl (ls rfl (ls rfl (ls rfl (os rfl oz))))))))), lg (ls rfl (lx (ls rfl (ls rfl (ls rfl (ls rfl (ls rfl (ls rfl (os rfl (os rfl oz)))))))))), lg (ls rfl (lx (ls rfl (ls rfl (ls rfl (ls rfl (ls rfl (ls rfl (os rfl (os rfl (os rfl oz))))))))))), lg (ls rfl (lx (ls rfl (ls rfl (ls rfl (ls rfl (ls rfl (ls rfl (os rfl (os rfl (os rfl (os rfl oz)))))))))))), lg (ls rfl (lx (ls rfl (ls rfl (ls rfl (ls rfl (ls rfl (ls rfl (os rfl (os rfl (os rfl (os rfl (os rfl oz))))))))))))), lg (ls rfl (lx (ls rfl (ls rfl (ls rfl (ls rfl (ls rfl (ls rfl (os rfl (os rfl (os rfl (os rfl (os rfl (os rfl oz)))))))))))))), lg (ls rfl (lx lz)), lg lz, trivial⟩ ?_
    refine aw_seq ?_
    refine aw_region (by decide) ?_
    refine rts _ rfl (opD_move oz) ?_
    replace h0 := bnd_some h0
    obtain ⟨x_8, hx_8, h0⟩ := h0
    refine rts _ rfl (opD_pure ht55_U6 (c_rdec2 hx_8) ⟨le_of_eq lz, trivial⟩) ?_
    refine rts _ rfl (opD_move lz) ?_
    refine rts _ rfl (opD_extract lz rfl) ?_
    refine rts _ rfl (opD_extract (ls rfl lz) rfl) ?_
    refine rts _ rfl (allocN rfl zt88_U6 (by first | exact List.length_nil | (simp only [List.length_cons, List.length_nil, Nat.zero_add, Nat.reduceAdd] <;> rfl)) (by simp only [znz] <;> rfl)) ?_
    refine rts _ rfl (storeAN rfl sz88_U6 lz (ls rfl (ls rfl lz)) (ones_cons (one_pl rfl) (ones_cons (one_pl rfl) (ones_cons (one_pl rfl) (ones_cons (one_pl rfl) (ones_cons (one_sl _ _ _ _) (ones_cons (one_sl _ _ _ _) (ones_cons (one_sl _ _ _ _) ones_nil))))))) rfl rfl (zNb rfl) (List.cons_ne_nil _ _) (zbc zPb (zbc zPb (zbc zPb (zbc zPb (zbc (sl_b kb_Ent) (zbc (sl_b kb_Rf) (zbc (sl_b kb_Lin) bnd_nil))))))) (by simp only [znz] <;> rfl) (by simp only [znz] <;> rfl)) ?_
    refine rts _ rfl (opD_assign (lx (ls rfl lz))) ?_
    refine .nil ?_
    refine aw_keep [(3, _), (4, _), (7, _), (8, _), (9, _), (10, _), (11, _), (12, _), (13, _), (14, _)] ⟨lg (ls rfl (lx (ls rfl (ls rfl (ls rfl (ls rfl (ls rfl (ls rfl (os rfl oz))))))))), lg (ls rfl (lx (ls rfl (ls rfl (ls rfl (ls rfl (ls rfl (ls rfl (os rfl (os rfl oz)))))))))), lg (ls rfl (lx (ls rfl (ls rfl (ls rfl (ls rfl (ls rfl (ls rfl (os rfl (os rfl (os rfl oz))))))))))), lg (ls rfl (lx (ls rfl (ls rfl (ls rfl (ls rfl (ls rfl (ls rfl (os rfl (os rfl (os rfl (os rfl oz)))))))))))), lg (ls rfl (lx (ls rfl (ls rfl (ls rfl (ls rfl (ls rfl (ls rfl (os rfl (os rfl (os rfl (os rfl (os rfl oz))))))))))))), lg (ls rfl (lx (ls rfl (ls rfl (ls rfl (ls rfl (ls rfl (ls rfl (os rfl (os rfl (os rfl (os rfl (os rfl (os rfl oz)))))))))))))), lg (ls rfl (lx (ls rfl (ls rfl (ls rfl (ls rfl (ls rfl (ls rfl (os rfl (os rfl (os rfl (os rfl (os rfl (os rfl (os rfl oz))))))))))))))), lg (ls rfl (lx (ls rfl (ls rfl (ls rfl (ls rfl (ls rfl (ls rfl (os rfl (os rfl (os rfl (os rfl (os rfl (os rfl (os rfl (os rfl oz)))))))))))))))), lg (ls rfl (lx lz)), lg lz, trivial⟩ ?_
    refine aw_seq ?_
    refine aw_flat mixed_U6 (by decide +kernel) ?_
    refine zts _ rfl (opD_move (os rfl (os rfl oz))) ?_
    refine zts _ rfl (opD_bytes_str Tryd.underlying23 Tryd.underlying5 Tryd.underlying9 lz) ?_
    refine zts _ rfl (opD_move (ls rfl (ls rfl (os rfl (os rfl (os rfl (os rfl oz))))))) ?_
    refine zts _ rfl (opD_bytes_str Tryd.underlying23 Tryd.underlying5 Tryd.underlying9 lz) ?_
    refine zts _ rfl (opD_seql (ls rfl (ls rfl lz)) lz) ?_
    refine zts _ rfl (opD_move lz) ?_
    refine ztg _ rfl lz (fun hg7_6_35 => opD_move (ls rfl (ls rfl (ls rfl (ls rfl (ls rfl (ls rfl (os rfl (os rfl (os rfl oz)))))))))) ?_
    replace h0 := bnd_some h0
    obtain ⟨x_9, hx_9, h0⟩ := h0
    refine ztg _ rfl (ls rfl lz) (fun hg7_7_36 => opD_call ht56_U6 (c_num36 (gif_some hx_9 hg7_7_36) hst) ⟨le_of_eq (lz.trans (pif_pos hg7_7_36)), trivial⟩) ?_
    refine ztg _ rfl (ls rfl (ls rfl lz)) (fun hg7_8_37 => opD_move (ls rfl (ls rfl (ls rfl (ls rfl (ls rfl (ls rfl (ls rfl (ls rfl (os rfl (os rfl (os rfl (os rfl (os rfl oz)))))))))))))) ?_
    refine ztg _ rfl (ls rfl (ls rfl (ls rfl lz))) (fun hg7_9_38 => opD_eql ((ls rfl lz).trans (pif_pos hg7_9_38)) (lz.trans (pif_pos hg7_9_38))) ?_
    refine zts _ rfl (opD_and (ls rfl (ls rfl (ls rfl (ls rfl lz)))) lz) ?_
    refine zts _ rfl (opD_move lz) ?_
    refine ztg _ rfl lz (fun hg7_12_39 => opD_load_aggX (qs := [_, _, _, _, _, _, _]) ag94_U6 sz94_U6 (ls rfl (ls rfl (ls rfl (ls rfl (ls rfl (ls rfl (ls rfl (ls rfl (ls rfl (ls rfl (ls rfl (ls rfl (os rfl (os rfl (os rfl (os rfl (os rfl (os rfl oz)))))))))))))))))) (loc_getN rfl rfl) (zNb rfl) rfl) ?_
    refine ztg _ rfl (ls rfl lz) (fun hg7_13_40 => opD_load_aggX (qs := [_, _, _, _, _, _, _]) ag88_U6 sz88_U6 (ls rfl (ls rfl (ls rfl (ls rfl (ls rfl (ls rfl (ls rfl (ls rfl (ls rfl (ls rfl (ls rfl (ls rfl (ls rfl (os rfl (os rfl (os rfl (os rfl (os rfl (os rfl (os rfl (os rfl oz))))))))))))))))))))) (loc_getN rfl rfl) (zNb rfl) rfl) ?_
    replace h0 := bnd_some h0
    obtain ⟨x_10, hx_10, h0⟩ := h0
    refine ztg _ rfl (ls rfl (ls rfl lz)) (fun hg7_14_41 => opD_pure ht57_U6 (c_ris (gif_some hx_10 hg7_14_41)) ⟨(le_of_eq ((ls rfl lz).trans (pif_pos hg7_14_41))).trans (agg_le ⟨zLr, zLr, zLr, zLr, zLr, zLr, zLr, trivial⟩), (le_of_eq (lz.trans (pif_pos hg7_14_41))).trans (agg_le ⟨zLr, zLr, zLr, zLr, zLr, zLr, zLr, trivial⟩), trivial⟩) ?_
    refine zts _ rfl (opD_and (ls rfl (ls rfl (ls rfl lz))) lz) ?_
    refine zts _ rfl (opD_move lz) ?_
    refine ztg _ rfl lz (fun hg7_17_42 => opD_move (ls rfl (ls rfl (ls rfl (ls rfl (ls rfl (ls rfl (ls rfl (ls rfl (ls rfl (ls rfl (ls rfl (ls rfl (ls rfl (ls rfl (ls rfl (ls rfl (ls rfl (os rfl (os rfl (os rfl (os rfl (os rfl (os rfl (os rfl oz))))))))))))))))))))))))) ?_
    replace h0 := bnd_some h0
    obtain ⟨x_11, hx_11, h0⟩ := h0
    refine ztg _ rfl (ls rfl lz) (fun hg7_18_43 => opD_call ht56_U6 (c_num36 (gif_some hx_11 hg7_18_43) hst) ⟨le_of_eq (lz.trans (pif_pos hg7_18_43)), trivial⟩) ?_
    refine ztg _ rfl (ls rfl (ls rfl lz)) (fun hg7_19_44 => opD_move (ls rfl (ls rfl (ls rfl (ls rfl (ls rfl (ls rfl (ls rfl (ls rfl (ls rfl (ls rfl (ls rfl (ls rfl (ls rfl (ls rfl (ls rfl (ls rfl (ls rfl (ls rfl (ls rfl (os rfl (os rfl (os rfl (os rfl (os rfl (os rfl (os rfl (os rfl (os rfl oz))))))))))))))))))))))))))))) ?_
    refine ztg _ rfl (ls rfl (ls rfl (ls rfl lz))) (fun hg7_20_45 => opD_eql ((ls rfl lz).trans (pif_pos hg7_20_45)) (lz.trans (pif_pos hg7_20_45))) ?_
    refine zts _ rfl (opD_and (ls rfl (ls rfl (ls rfl (ls rfl lz)))) lz) ?_
    refine zts _ rfl (opD_move lz) ?_
    refine ztg _ rfl lz (fun hg7_23_46 => opD_load_aggX (qs := [_, _, _, _, _, _, _]) ag88_U6 sz88_U6 (ls rfl (ls rfl (ls rfl (ls rfl (ls rfl (ls rfl (ls rfl (ls rfl (ls rfl (ls rfl (ls rfl (ls rfl (ls rfl (ls rfl (ls rfl (ls rfl (ls rfl (ls rfl (ls rfl (ls rfl (ls rfl (ls rfl (ls rfl oz))))))))))))))))))))))) (loc_getN rfl rfl) (zNb rfl) rfl) ?_
    replace h0 := bnd_some h0
    obtain ⟨x_12, hx_12, h0⟩ := h0
    refine ztg _ rfl (ls rfl lz) (fun hg7_24_47 => opD_pure ht52_U6 (c_rgive (gif_some hx_12 hg7_24_47)) ⟨(le_of_eq (lz.trans (pif_pos hg7_24_47))).trans (agg_le ⟨zLr, zLr, zLr, zLr, zLr, zLr, zLr, trivial⟩), trivial⟩) ?_
    replace h0 := bnd_some h0
    obtain ⟨x_13, hx_13, h0⟩ := h0
    refine ztg _ rfl (ls rfl (ls rfl lz)) (fun hg7_25_48 => opD_pure ht58_U6 (c_rcheck (gif_some hx_13 hg7_25_48)) ⟨(le_of_eq (lz.trans (pif_pos hg7_25_48))).trans (agg_le ⟨zLr, zLr, zLr, zLr, zLr, zLr, zLr, trivial⟩), trivial⟩) ?_
    refine ztg _ rfl (ls rfl (ls rfl (ls rfl lz))) (fun hg7_26_49 => opD_bin (lz.trans (pif_pos hg7_26_49)) (ev_const _ _) (fun w => errV_geql _ w _) (fun w => errV_eql _ w)) ?_
    refine ztg _ rfl (ls rfl (ls rfl (ls rfl (ls rfl lz)))) (fun hg7_27_50 => opD_load_aggX (qs := [_, _, _, _, _, _, _]) ag88_U6 sz88_U6 (ls rfl (ls rfl (ls rfl (ls rfl (ls rfl (ls rfl (ls rfl (ls rfl (ls rfl (ls rfl (ls rfl (ls rfl (ls rfl (ls rfl (ls rfl (ls rfl (ls rfl (ls rfl (ls rfl (ls rfl (ls rfl (ls rfl (ls rfl (ls rfl (ls rfl (ls rfl (ls rfl oz))))))))))))))))))))))))))) (loc_getN rfl rfl) (zNb rfl) rfl) ?_
    replace h0 := bnd_some h0
    obtain ⟨x_14, hx_14, h0⟩ := h0
    refine ztg _ rfl (ls rfl (ls rfl (ls rfl (ls rfl (ls rfl lz))))) (fun hg7_28_51 => opD_pure ht59_U6 (c_rmay (gif_some hx_14 hg7_28_51)) ⟨(le_of_eq (lz.trans (pif_pos hg7_28_51))).trans (agg_le ⟨zLr, zLr, zLr, zLr, zLr, zLr, zLr, trivial⟩), trivial⟩) ?_
    refine ztg _ rfl (ls rfl (ls rfl (ls rfl (ls rfl (ls rfl (ls rfl lz)))))) (fun hg7_29_52 => opD_beql Tryd.underlying4 ((ls rfl (ls rfl lz)).trans (pif_pos hg7_29_52)) (lz.trans (pif_pos hg7_29_52))) ?_
    refine zts _ rfl (opD_and (ls rfl (ls rfl (ls rfl (ls rfl (ls rfl (ls rfl (ls rfl lz))))))) lz) ?_
    refine zts _ rfl (opD_move lz) ?_
    refine ztg _ rfl lz (fun hg7_32_53 => opD_load_aggX (qs := [_, _, _, _, _, _, _]) ag88_U6 sz88_U6 (ls rfl (ls rfl (ls rfl (ls rfl (ls rfl (ls rfl (ls rfl (ls rfl (ls rfl (ls rfl (ls rfl (ls rfl (ls rfl (ls rfl (ls rfl (ls rfl (ls rfl (ls rfl (ls rfl (ls rfl (ls rfl (ls rfl (ls rfl (ls rfl (ls rfl (ls rfl (ls rfl (ls rfl (ls rfl (ls rfl (ls rfl (ls rfl oz)))))))))))))))))))))))))))))))) (loc_getN rfl rfl) (zNb rfl) rfl) ?_
    replace h0 := bnd_some h0
    obtain ⟨x_15, hx_15, h0⟩ := h0
    refine ztg _ rfl (ls rfl lz) (fun hg7_33_54 => opD_pure ht52_U6 (c_rgive (gif_some hx_15 hg7_33_54)) ⟨(le_of_eq (lz.trans (pif_pos hg7_33_54))).trans (agg_le ⟨zLr, zLr, zLr, zLr, zLr, zLr, zLr, trivial⟩), trivial⟩) ?_
    refine ztg _ rfl (ls rfl (ls rfl lz)) (fun hg7_34_55 => opD_load_aggX (qs := [_, _, _, _, _, _, _]) ag88_U6 sz88_U6 (ls rfl (ls rfl (ls rfl (ls rfl (ls rfl (ls rfl (ls rfl (ls rfl (ls rfl (ls rfl (ls rfl (ls rfl (ls rfl (ls rfl (ls rfl (ls rfl (ls rfl (ls rfl (ls rfl (ls rfl (ls rfl (ls rfl (ls rfl (ls rfl (ls rfl (ls rfl (ls rfl (ls rfl (ls rfl (ls rfl (ls rfl (ls rfl (ls rfl (ls rfl (os rfl oz))))))))))))))))))))))))))))))))))) (loc_getN rfl rfl) (zNb rfl) rfl) ?_
    replace h0 := bnd_some h0
    obtain ⟨x_16, hx_16, h0⟩ := h0
    refine ztg _ rfl (ls rfl (ls rfl (ls rfl lz))) (fun hg7_35_56 => opD_pure ht52_U6 (c_rgive (gif_some hx_16 hg7_35_56)) ⟨(le_of_eq (lz.trans (pif_pos hg7_35_56))).trans (agg_le ⟨zLr, zLr, zLr, zLr, zLr, zLr, zLr, trivial⟩), trivial⟩) ?_
    replace h0 := bnd_some h0
    obtain ⟨x_17, hx_17, h0⟩ := h0
    refine ztg _ rfl (ls rfl (ls rfl (ls rfl (ls rfl lz)))) (fun hg7_36_57 => opD_pure ht60_U6 (c_rsame (gif_some hx_17 hg7_36_57)) ⟨(le_of_eq ((ls rfl (ls rfl lz)).trans (pif_pos hg7_36_57))).trans (agg_le ⟨zLr, zLr, zLr, zLr, zLr, zLr, zLr, trivial⟩), (le_of_eq (lz.trans (pif_pos hg7_36_57))).trans (agg_le ⟨zLr, zLr, zLr, zLr, zLr, zLr, zLr, trivial⟩), trivial⟩) ?_
    refine ztg _ rfl (ls rfl (ls rfl (ls rfl (ls rfl (ls rfl lz))))) (fun hg7_37_58 => opD_load_aggX (qs := [_, _, _, _, _, _, _]) ag88_U6 sz88_U6 (ls rfl (ls rfl (ls rfl (ls rfl (ls rfl (ls rfl (ls rfl (ls rfl (ls rfl (ls rfl (ls rfl (ls rfl (ls rfl (ls rfl (ls rfl (ls rfl (ls rfl (ls rfl (ls rfl (ls rfl (ls rfl (ls rfl (ls rfl (ls rfl (ls rfl (ls rfl (ls rfl (ls rfl (ls rfl (ls rfl (ls rfl (ls rfl (ls rfl (ls rfl (ls rfl (ls rfl (ls rfl oz))))))))))))))))))))))))))))))))))))) (loc_getN rfl rfl) (zNb rfl) rfl) ?_
    replace h0 := bnd_some h0
    obtain ⟨x_18, hx_18, h0⟩ := h0
    refine ztg _ rfl (ls rfl (ls rfl (ls rfl (ls rfl (ls rfl (ls rfl lz)))))) (fun hg7_38_59 => opD_pure ht52_U6 (c_rgive (gif_some hx_18 hg7_38_59)) ⟨(le_of_eq (lz.trans (pif_pos hg7_38_59))).trans (agg_le ⟨zLr, zLr, zLr, zLr, zLr, zLr, zLr, trivial⟩), trivial⟩) ?_
    refine ztg _ rfl (ls rfl (ls rfl (ls rfl (ls rfl (ls rfl (ls rfl (ls rfl lz))))))) (fun hg7_39_60 => opD_load_aggX (qs := [_, _, _, _, _, _, _]) ag88_U6 sz88_U6 (ls rfl (ls rfl (ls rfl (ls rfl (ls rfl (ls rfl (ls rfl (ls rfl (ls rfl (ls rfl (ls rfl (ls rfl (ls rfl (ls rfl (ls rfl (ls rfl (ls rfl (ls rfl (ls rfl (ls rfl (ls rfl (ls rfl (ls rfl (ls rfl (ls rfl (ls rfl (ls rfl (ls rfl (ls rfl (ls rfl (ls rfl (ls rfl (ls rfl (ls rfl (ls rfl (ls rfl (ls rfl (ls rfl (ls rfl (os rfl oz)))))))))))))))))))))))))))))))))))))))) (loc_getN rfl rfl) (zNb rfl) rfl) ?_
    replace h0 := bnd_some h0
    obtain ⟨x_19, hx_19, h0⟩ := h0
    refine ztg _ rfl (ls rfl (ls rfl (ls rfl (ls rfl (ls rfl (ls rfl (ls rfl (ls rfl lz)))))))) (fun hg7_40_61 => opD_pure ht57_U6 (c_ris (gif_some hx_19 hg7_40_61)) ⟨(le_of_eq ((ls rfl lz).trans (pif_pos hg7_40_61))).trans (agg_le ⟨zLr, zLr, zLr, zLr, zLr, zLr, zLr, trivial⟩), (le_of_eq (lz.trans (pif_pos hg7_40_61))).trans (agg_le ⟨zLr, zLr, zLr, zLr, zLr, zLr, zLr, trivial⟩), trivial⟩) ?_
    refine ztg _ rfl (ls rfl (ls rfl (ls rfl (ls rfl (ls rfl (ls rfl (ls rfl (ls rfl (ls rfl lz))))))))) (fun hg7_41_62 => opD_beql Tryd.underlying4 ((ls rfl (ls rfl (ls rfl (ls rfl lz)))).trans (pif_pos hg7_41_62)) (lz.trans (pif_pos hg7_41_62))) ?_
    refine zts _ rfl (opD_and (ls rfl (ls rfl (ls rfl (ls rfl (ls rfl (ls rfl (ls rfl (ls rfl (ls rfl (ls rfl lz)))))))))) lz) ?_
    refine zts _ rfl (opD_move lz) ?_
    replace h0 := bnd_some h0
    obtain ⟨x_20, hx_20, h0⟩ := h0
    refine ztg _ rfl lz (fun hg7_44_63 => opD_call ht50_U6 (c_sure36 (gif_some hx_20 hg7_44_63) hst) trivial) ?_
    refine zts _ rfl (opD_and (ls rfl lz) lz) ?_
    refine zts _ rfl (opD_assign lz) ?_
    refine .nil ?_
    refine aw_keep [(6, _)] ⟨lg lz, trivial⟩ ?_
    refine aw_ret ?_
    obtain rfl := some_of h0
    exact done_ext (.inr rfl) ((res_one rfl (it_tmp oz)).le zLr) zPb

def F_rBack (fl : Nat) (p0 : Rpl) (p1 : Int) : Option (Bool) :=
  bnd (F_rgive fl p0) fun x_1 => bnd (F_rbig fl p0) fun x_2 => bnd (gif (x_2 == false) (F_rcheck fl x_1)) fun x_3 => ifb (x_2 || x_3.isSome) (bnd (F_sure36 fl) fun x_4 => some x_4) (bnd (F_renc fl x_1) fun x_5 => bnd (F_rdec fl x_5.1) fun x_6 => grd ((if (x_5.1.length : Int) > 1 then (x_5.1.length : Int) else 1) ≠ 0) <| grd (UpTo ((IntKind.i64.wrap (p1)).tmod (if (x_5.1.length : Int) > 1 then (x_5.1.length : Int) else 1)) x_5.1.length) <| bnd (F_rdec fl (x_5.1.take ((IntKind.i64.wrap (p1)).tmod (if (x_5.1.length : Int) > 1 then (x_5.1.length : Int) else 1)).toNat)) fun x_7 => grd (Fits 1 (([] : (List Int)).length + x_5.1.length)) <| grd (Fits 1 (x_5.1.length + ([0] : (List Int)).length)) <| bnd (F_rdec fl (x_5.1 ++ ([0] : (List Int)))) fun x_8 => bnd (gif ((x_5.2.isNone && x_6.2.isNone) == true) (F_ris fl x_6.1 p0)) fun x_9 => bnd (gif (((x_5.2.isNone && x_6.2.isNone) && x_9) == true) (F_rsame fl x_1 x_6.1)) fun x_10 => bnd (gif ((((x_5.2.isNone && x_6.2.isNone) && x_9) && x_10) == true) (oNumF x_7.2)) fun x_11 => bnd (gif (((((x_5.2.isNone && x_6.2.isNone) && x_9) && x_10) && (decide (x_11 = 3))) == true) (oNumF x_8.2)) fun x_12 => bnd (gif ((((((x_5.2.isNone && x_6.2.isNone) && x_9) && x_10) && (decide (x_11 = 3))) && (decide (x_12 = 3))) == true) (F_sure36 fl)) fun x_13 => some ((((((x_5.2.isNone && x_6.2.isNone) && x_9) && x_10) && (decide (x_11 = 3))) && (decide (x_12 = 3))) && x_13))
set_option maxRecDepth 100000 in
set_option maxHeartbeats 2000000 in
theorem c_rBack {fl : Nat} {p0 : Rpl} {p1 : Int} {R : Bool} {s : St} (h0 : F_rBack fl p0 p1 = some R) (hst : StGV s) : AC Tryd.prog 10 [agg [pl (.int .i64 p0.Code), pl (.int .u64 p0.N), pl (.bool p0.Found), pl (.string p0.Value), sl kEnt none none p0.Rows, sl kRf none none p0.Refs, sl kLin none none p0.Lines], pl (.int .u16 p1)] s (pl (.bool R)) s := by
  unfold F_rBack at h0
  refine ac_of_aw s.boxes.length s.fr.length Tryd.func10 rfl (by simp [Tryd.ntmps10]) ?_
  refine aw_ext0 ?_
  refine aw_keep [(0, _), (1, _)] ⟨lg ez, lg (es ez), trivial⟩ ?_
  refine aw_seq ?_
  refine aw_region (by decide) ?_
  refine rts _ rfl (boxAN rfl oz (zbc zPb (zbc zPb (zbc zPb (zbc zPb (zbc (sl_b kb_Ent) (zbc (sl_b kb_Rf) (zbc (sl_b kb_Lin) bnd_nil))))))) (by first | exact List.length_nil | (simp only [List.length_cons, List.length_nil, Nat.zero_add, Nat.reduceAdd] <;> rfl)) (by simp only [znz] <;> rfl)) ?_
  refine rts _ rfl (opD_assign (ev_const _ _)) ?_
  refine .nil ?_
  refine aw_keep [(1, _), (2, _)] ⟨lg (ls rfl (ls rfl (os rfl oz))), lg (ls rfl lz), trivial⟩ ?_
  refine aw_seq ?_
  refine aw_region (by decide) ?_
  refine rts _ rfl (opD_load_aggX (qs := [_, _, _, _, _, _, _]) ag88_U6 sz88_U6 (os rfl oz) (loc_getN rfl rfl) (zNb rfl) rfl) ?_
  replace h0 := bnd_some h0
  obtain ⟨x_1, hx_1, h0⟩ := h0
  refine rts _ rfl (opD_pure ht52_U6 (c_rgive hx_1) ⟨(le_of_eq lz).trans (agg_le ⟨zLr, zLr, zLr, zLr, zLr, zLr, zLr, trivial⟩), trivial⟩) ?_
  refine rts _ rfl (allocN rfl zt94_U6 (by first | exact List.length_nil | (simp only [List.length_cons, List.length_nil, Nat.zero_add, Nat.reduceAdd] <;> rfl)) (by simp only [znz] <;> rfl)) ?_
  refine rts _ rfl (storeAN rfl sz94_U6 lz (ls rfl lz) (ones_cons (one_pl rfl) (ones_cons (one_pl rfl) (ones_cons (one_pl rfl) (ones_cons (one_pl rfl) (ones_cons (one_sl _ _ _ _) (ones_cons (one_sl _ _ _ _) (ones_cons (one_sl _ _ _ _) ones_nil))))))) rfl rfl (zNb rfl) (List.cons_ne_nil _ _) (zbc zPb (zbc zPb (zbc zPb (zbc zPb (zbc (sl_b kb_Ent) (zbc (sl_b kb_Rf) (zbc (sl_b kb_Lin) bnd_nil))))))) (by simp only [znz] <;> rfl) (by simp only [znz] <;> rfl)) ?_
  refine .nil ?_
  refine aw_keep [(1, _), (2, _), (5, _)] ⟨lg (lx (ls rfl (ls rfl (ls rfl oz)))), lg (lx (ls rfl (ls rfl (ls rfl (os rfl oz))))), lg (lx lz), trivial⟩ ?_
  refine aw_seq ?_
  refine aw_seq ?_
  refine aw_region (by decide) ?_
  refine rts _ rfl (opD_load_aggX (qs := [_, _, _, _, _, _, _]) ag88_U6 sz88_U6 (os rfl oz) (loc_getN rfl rfl) (zNb rfl) rfl) ?_
  replace h0 := bnd_some h0
  obtain ⟨x_2, hx_2, h0⟩ := h0
  refine rts _ rfl (opD_pure ht49_U6 (c_rbig hx_2) ⟨(le_of_eq lz).trans (agg_le ⟨zLr, zLr, zLr, zLr, zLr, zLr, zLr, trivial⟩), trivial⟩) ?_
  refine rts _ rfl (opD_move lz) ?_
  refine rtg _ rfl lz (fun hg2_3_1 => opD_load_aggX (qs := [_, _, _, _, _, _, _]) ag94_U6 sz94_U6 (ls rfl (ls rfl (ls rfl (os rfl (os rfl oz))))) (loc_getN rfl rfl) (zNb rfl) rfl) ?_
  replace h0 := bnd_some h0
  obtain ⟨x_3, hx_3, h0⟩ := h0
  refine rtg _ rfl (ls rfl lz) (fun hg2_4_2 => opD_pure ht58_U6 (c_rcheck (gif_some hx_3 hg2_4_2)) ⟨(le_of_eq (lz.trans (pif_pos hg2_4_2))).trans (agg_le ⟨zLr, zLr, zLr, zLr, zLr, zLr, zLr, trivial⟩), trivial⟩) ?_
  refine rtg _ rfl (ls rfl (ls rfl lz)) (fun hg2_5_3 => opD_bin (lz.trans (pif_pos hg2_5_3)) (ev_const _ _) (fun w => errV_guard _ w _) (fun w => errV_beq _ w)) ?_
  refine rts _ rfl (opD_or (ls rfl (ls rfl (ls rfl lz))) lz) ?_
  refine .nil ?_
  refine aw_keep [(1, _), (2, _), (5, _), (22, _)] ⟨lg (ls rfl (ls rfl (ls rfl (ls rfl (ls rfl (ls rfl (ls rfl oz))))))), lg (ls rfl (ls rfl (ls rfl (ls rfl (ls rfl (ls rfl (ls rfl (os rfl oz)))))))), lg (ls rfl (ls rfl (ls rfl (ls rfl (ls rfl (ls rfl (ls rfl (os rfl (os rfl oz))))))))), lg lz, trivial⟩ ?_
  refine aw_cond _ (os rfl (os rfl (os rfl oz))) (fun hc => ?_) (fun hc => ?_)
  · skip
    replace h0 := ifb_t h0 hc
    clear hc
    refine aw_seq ?_
    refine aw_region (by decide) ?_
    replace h0 := bnd_some h0
    obtain ⟨x_4, hx_4, h0⟩ := h0
    refine rts _ rfl (opD_call ht50_U6 (c_sure36 hx_4 hst) trivial) ?_
    refine rts _ rfl (opD_assign lz) ?_
    refine .nil ?_
    refine aw_keep [(4, _)] ⟨lg lz, trivial⟩ ?_
    refine aw_ret ?_
    obtain rfl := some_of h0
    exact done_ext (.inr rfl) ((res_one rfl (it_tmp oz)).le zLr) zPb
  · skip
    replace h0 := ifb_f h0 hc
    clear hc
    refine aw_skip ?_
    refine aw_keep [(1, _), (2, _), (5, _)] ⟨lg oz, lg (os rfl oz), lg (os rfl (os rfl oz)), trivial⟩ ?_
    refine aw_seq ?_
    refine aw_region (by decide) ?_
    refine rts _ rfl (opD_load_aggX (qs := [_, _, _, _, _, _, _]) ag94_U6 sz94_U6 (os rfl (os rfl oz)) (loc_getN rfl rfl) (zNb rfl) rfl) ?_
    replace h0 := bnd_some h0
    obtain ⟨x_5, hx_5, h0⟩ := h0
    refine rts _ rfl (opD_pure ht51_U6 (c_renc hx_5) ⟨(le_of_eq lz).trans (agg_le ⟨zLr, zLr, zLr, zLr, zLr, zLr, zLr, trivial⟩), trivial⟩) ?_
    refine rts _ rfl (opD_move lz) ?_
    refine rts _ rfl (opD_extract lz rfl) ?_
    refine rts _ rfl (opD_extract (ls rfl lz) rfl) ?_
    refine rts _ rfl (opD_assign (ls rfl lz)) ?_
    refine rts _ rfl (opD_assign (ls rfl lz)) ?_
    refine .nil ?_
    refine aw_keep [(1, _), (2, _), (5, _), (6, _), (7, _)] ⟨lg (ls rfl (ls rfl (ls rfl (ls rfl (ls rfl (ls rfl (ls rfl oz))))))), lg (ls rfl (ls rfl (ls rfl (ls rfl (ls rfl (ls rfl (ls rfl (os rfl oz)))))))), lg (ls rfl (ls rfl (ls rfl (ls rfl (ls rfl (ls rfl (ls rfl (os rfl (os rfl oz))))))))), lg (ls rfl lz), lg lz, trivial⟩ ?_
    refine aw_seq ?_
    refine aw_region (by decide) ?_
    refine rts _ rfl (opD_move (os rfl (os rfl (os rfl oz)))) ?_
    replace h0 := bnd_some h0
    obtain ⟨x_6, hx_6, h0⟩ := h0
    refine rts _ rfl (opD_pure ht54_U6 (c_rdec hx_6) ⟨le_of_eq lz, trivial⟩) ?_
    refine rts _ rfl (opD_move lz) ?_
    refine rts _ rfl (opD_extract lz rfl) ?_
    refine rts _ rfl (opD_extract (ls rfl lz) rfl) ?_
    refine rts _ rfl (allocN rfl zt94_U6 (by first | exact List.length_nil | (simp only [List.length_cons, List.length_nil, Nat.zero_add, Nat.reduceAdd] <;> rfl)) (by simp only [znz] <;> rfl)) ?_
    refine rts _ rfl (storeAN rfl sz94_U6 lz (ls rfl (ls rfl lz)) (ones_cons (one_pl rfl) (ones_cons (one_pl rfl) (ones_cons (one_pl rfl) (ones_cons (one_pl rfl) (ones_cons (one_sl _ _ _ _) (ones_cons (one_sl _ _ _ _) (ones_cons (one_sl _ _ _ _) ones_nil))))))) rfl rfl (zNb rfl) (List.cons_ne_nil _ _) (zbc zPb (zbc zPb (zbc zPb (zbc zPb (zbc (sl_b kb_Ent) (zbc (sl_b kb_Rf) (zbc (sl_b kb_Lin) bnd_nil))))))) (by simp only [znz] <;> rfl) (by simp only [znz] <;> rfl)) ?_
    refine rts _ rfl (opD_assign (lx (ls rfl lz))) ?_
    refine .nil ?_
    refine aw_keep [(1, _), (2, _), (5, _), (6, _), (7, _), (8, _), (9, _)] ⟨lg (ls rfl (lx (ls rfl (ls rfl (ls rfl (ls rfl (ls rfl (ls rfl oz)))))))), lg (ls rfl (lx (ls rfl (ls rfl (ls rfl (ls rfl (ls rfl (ls rfl (os rfl oz))))))))), lg (ls rfl (lx (ls rfl (ls rfl (ls rfl (ls rfl (ls rfl (ls rfl (os rfl (os rfl oz)))))))))), lg (ls rfl (lx (ls rfl (ls rfl (ls rfl (ls rfl (ls rfl (ls rfl (os rfl (os rfl (os rfl oz))))))))))), lg (ls rfl (lx (ls rfl (ls rfl (ls rfl (ls rfl (ls rfl (ls rfl (os rfl (os rfl (os rfl (os rfl oz)))))))))))), lg (ls rfl (lx lz)), lg lz, trivial⟩ ?_
    refine aw_seq ?_
    refine aw_region (by decide) ?_
    refine rts _ rfl (opD_move (os rfl (os rfl (os rfl oz)))) ?_
    refine rts _ rfl (opD_move (ls rfl oz)) ?_
    refine rts _ rfl (opD_conv_int Tryd.underlying58 Tryd.underlying3 lz rfl) ?_
    refine rts _ rfl (opD_move (ls rfl (ls rfl (ls rfl (os rfl (os rfl (os rfl oz))))))) ?_
    refine rts _ rfl (opD_len_sl Tryd.underlying23 lz) ?_
    refine rts _ rfl (opD_max (ev_const _ _) lz rfl) ?_
    replace h0 := grd_some h0
    obtain ⟨hg_4, h0⟩ := h0
    refine rts _ rfl (opD_rem (ls rfl (ls rfl (ls rfl lz))) lz hg_4 rfl) ?_
    replace h0 := grd_some h0
    obtain ⟨hg_5, h0⟩ := h0
    refine rts _ rfl (opD_slice_to ((IntKind.i64.wrap (p1)).tmod (if (x_5.1.length : Int) > 1 then (x_5.1.length : Int) else 1)).toNat Tryd.underlying23 sz5_U6 (ls rfl (ls rfl (ls rfl (ls rfl (ls rfl (ls rfl lz)))))) lz hg_5.eq hg_5.2) ?_
    replace h0 := bnd_some h0
    obtain ⟨x_7, hx_7, h0⟩ := h0
    refine rts _ rfl (opD_pure ht54_U6 (c_rdec hx_7) ⟨le_of_eq lz, trivial⟩) ?_
    refine rts _ rfl (opD_move lz) ?_
    refine rts _ rfl (opD_extract lz rfl) ?_
    refine rts _ rfl (opD_extract (ls rfl lz) rfl) ?_
    refine rts _ rfl (allocN rfl zt94_U6 (by first | exact List.length_nil | (simp only [List.length_cons, List.length_nil, Nat.zero_add, Nat.reduceAdd] <;> rfl)) (by simp only [znz] <;> rfl)) ?_
    refine rts _ rfl (storeAN rfl sz94_U6 lz (ls rfl (ls rfl lz)) (ones_cons (one_pl rfl) (ones_cons (one_pl rfl) (ones_cons (one_pl rfl) (ones_cons (one_pl rfl) (ones_cons (one_sl _ _ _ _) (ones_cons (one_sl _ _ _ _) (ones_cons (one_sl _ _ _ _) ones_nil))))))) rfl rfl (zNb rfl) (List.cons_ne_nil _ _) (zbc zPb (zbc zPb (zbc zPb (zbc zPb (zbc (sl_b kb_Ent) (zbc (sl_b kb_Rf) (zbc (sl_b kb_Lin) bnd_nil))))))) (by simp only [znz] <;> rfl) (by simp only [znz] <;> rfl)) ?_
    refine rts _ rfl (opD_assign (lx (ls rfl lz))) ?_
    refine .nil ?_
    refine aw_keep [(2, _), (5, _), (6, _), (7, _), (8, _), (9, _), (11, _)] ⟨lg (ls rfl (lx (ls rfl (ls rfl (ls rfl (ls rfl (ls rfl (ls rfl (ls rfl (ls rfl (ls rfl (ls rfl (ls rfl (ls rfl (ls rfl (os rfl oz)))))))))))))))), lg (ls rfl (lx (ls rfl (ls rfl (ls rfl (ls rfl (ls rfl (ls rfl (ls rfl (ls rfl (ls rfl (ls rfl (ls rfl (ls rfl (ls rfl (os rfl (os rfl oz))))))))))))))))), lg (ls rfl (lx (ls rfl (ls rfl (ls rfl (ls rfl (ls rfl (ls rfl (ls rfl (ls rfl (ls rfl (ls rfl (ls rfl (ls rfl (ls rfl (os rfl (os rfl (os rfl oz)))))))))))))))))), lg (ls rfl (lx (ls rfl (ls rfl (ls rfl (ls rfl (ls rfl (ls rfl (ls rfl (ls rfl (ls rfl (ls rfl (ls rfl (ls rfl (ls rfl (os rfl (os rfl (os rfl (os rfl oz))))))))))))))))))), lg (ls rfl (lx (ls rfl (ls rfl (ls rfl (ls rfl (ls rfl (ls rfl (ls rfl (ls rfl (ls rfl (ls rfl (ls rfl (ls rfl (ls rfl (os rfl (os rfl (os rfl (os rfl (os rfl oz)))))))))))))))))))), lg (ls rfl (lx (ls rfl (ls rfl (ls rfl (ls rfl (ls rfl (ls rfl (ls rfl (ls rfl (ls rfl (ls rfl (ls rfl (ls rfl (ls rfl (os rfl (os rfl (os rfl (os rfl (os rfl (os rfl oz))))))))))))))))))))), lg lz, trivial⟩ ?_
    refine aw_seq ?_
    refine aw_region (by decide) ?_
    refine rts _ rfl (opD_buildEmpty (k := kI .u8) Tryd.underlying23 sz5_U6 zt5_U6 rfl (by first | exact List.length_nil | (simp only [List.length_cons, List.length_nil, Nat.zero_add, Nat.reduceAdd] <;> rfl)) (by simp only [znz] <;> rfl)) ?_
    refine rts _ rfl (opD_move (ls rfl (os rfl (os rfl oz)))) ?_
    replace h0 := grd_some h0
    obtain ⟨hg_6, h0⟩ := h0
    refine rts _ rfl (opD_appendX Tryd.underlying23 el5_U6 (ls rfl lz) lz rfl hg_6.1 hg_6.2 (List.nil_append _) (by simp only [znz] <;> rfl)) ?_
    refine rts _ rfl (opD_buildOwn (k := kI .u8) ([0] : (List Int)) Tryd.underlying23 sz5_U6 zt5_U6 (by decide) rfl (parts_cons (cells1 (ev_const _ _) (one_pl rfl)) parts_nil) rfl rfl (by first | exact List.length_nil | (simp only [List.length_cons, List.length_nil, Nat.zero_add, Nat.reduceAdd] <;> rfl)) (by simp only [znz] <;> rfl)) ?_
    replace h0 := grd_some h0
    obtain ⟨hg_7, h0⟩ := h0
    refine rts _ rfl (opD_appendX Tryd.underlying23 el5_U6 (ls rfl lz) lz rfl hg_7.1 hg_7.2 rfl (by simp only [znz] <;> rfl)) ?_
    replace h0 := bnd_some h0
    obtain ⟨x_8, hx_8, h0⟩ := h0
    refine rts _ rfl (opD_pure ht54_U6 (c_rdec hx_8) ⟨(le_of_eq lz).trans (sl_any _ _ _ _), trivial⟩) ?_
    refine rts _ rfl (opD_move lz) ?_
    refine rts _ rfl (opD_extract lz rfl) ?_
    refine rts _ rfl (opD_extract (ls rfl lz) rfl) ?_
    refine rts _ rfl (allocN rfl zt94_U6 (by first | exact List.length_nil | (simp only [List.length_cons, List.length_nil, Nat.zero_add, Nat.reduceAdd] <;> rfl)) (by simp only [znz] <;> rfl)) ?_
    refine rts _ rfl (storeAN rfl sz94_U6 lz (ls rfl (ls rfl lz)) (ones_cons (one_pl rfl) (ones_cons (one_pl rfl) (ones_cons (one_pl rfl) (ones_cons (one_pl rfl) (ones_cons (one_sl _ _ _ _) (ones_cons (one_sl _ _ _ _) (ones_cons (one_sl _ _ _ _) ones_nil))))))) rfl rfl (zNb rfl) (List.cons_ne_nil _ _) (zbc zPb (zbc zPb (zbc zPb (zbc zPb (zbc (sl_b kb_Ent) (zbc (sl_b kb_Rf) (zbc (sl_b kb_Lin) bnd_nil))))))) (by simp only [znz] <;> rfl) (by simp only [znz] <;> rfl)) ?_
    refine rts _ rfl (opD_assign (lx (ls rfl lz))) ?_
    refine .nil ?_
    refine aw_keep [(2, _), (5, _), (7, _), (8, _), (9, _), (11, _), (13, _)] ⟨lg (ls rfl (lx (ls rfl (ls rfl (ls rfl (ls rfl (ls rfl (ls rfl (ls rfl (ls rfl (ls rfl (ls rfl oz)))))))))))), lg (ls rfl (lx (ls rfl (ls rfl (ls rfl (ls rfl (ls rfl (ls rfl (ls rfl (ls rfl (ls rfl (ls rfl (os rfl oz))))))))))))), lg (ls rfl (lx (ls rfl (ls rfl (ls rfl (ls rfl (ls rfl (ls rfl (ls rfl (ls rfl (ls rfl (ls rfl (os rfl (os rfl (os rfl oz))))))))))))))), lg (ls rfl (lx (ls rfl (ls rfl (ls rfl (ls rfl (ls rfl (ls rfl (ls rfl (ls rfl (ls rfl (ls rfl (os rfl (os rfl (os rfl (os rfl oz)))))))))))))))), lg (ls rfl (lx (ls rfl (ls rfl (ls rfl (ls rfl (ls rfl (ls rfl (ls rfl (ls rfl (ls rfl (ls rfl (os rfl (os rfl (os rfl (os rfl (os rfl oz))))))))))))))))), lg (ls rfl (lx (ls rfl (ls rfl (ls rfl (ls rfl (ls rfl (ls rfl (ls rfl (ls rfl (ls rfl (ls rfl (os rfl (os rfl (os rfl (os rfl (os rfl (os rfl oz)))))))))))))))))), lg lz, trivial⟩ ?_
    refine aw_seq ?_
    refine aw_region (by decide) ?_
    refine rts _ rfl (opD_move (os rfl (os rfl oz))) ?_
    refine rts _ rfl (opD_bin lz (ev_const _ _) (fun w => errV_geql _ w _) (fun w => errV_eql _ w)) ?_
    refine rts _ rfl (opD_move lz) ?_
    refine rtg _ rfl lz (fun hg8_3_8 => opD_move (ls rfl (ls rfl (ls rfl (os rfl (os rfl (os rfl (os rfl oz)))))))) ?_
    refine rtg _ rfl (ls rfl lz) (fun hg8_4_9 => opD_bin (lz.trans (pif_pos hg8_4_9)) (ev_const _ _) (fun w => errV_geql _ w _) (fun w => errV_eql _ w)) ?_
    refine rts _ rfl (opD_and (ls rfl (ls rfl lz)) lz) ?_
    refine rts _ rfl (opD_move lz) ?_
    refine rtg _ rfl lz (fun hg8_7_10 => opD_load_aggX (qs := [_, _, _, _, _, _, _]) ag94_U6 sz94_U6 (ls rfl (ls rfl (ls rfl (ls rfl (ls rfl (ls rfl (ls rfl (os rfl (os rfl (os rfl oz)))))))))) (loc_getN rfl rfl) (zNb rfl) rfl) ?_
    refine rtg _ rfl (ls rfl lz) (fun hg8_8_11 => opD_load_aggX (qs := [_, _, _, _, _, _, _]) ag88_U6 sz88_U6 (ls rfl (ls rfl (ls rfl (ls rfl (ls rfl (ls rfl (ls rfl (ls rfl oz)))))))) (loc_getN rfl rfl) (zNb rfl) rfl) ?_
    replace h0 := bnd_some h0
    obtain ⟨x_9, hx_9, h0⟩ := h0
    refine rtg _ rfl (ls rfl (ls rfl lz)) (fun hg8_9_12 => opD_pure ht57_U6 (c_ris (gif_some hx_9 hg8_9_12)) ⟨(le_of_eq ((ls rfl lz).trans (pif_pos hg8_9_12))).trans (agg_le ⟨zLr, zLr, zLr, zLr, zLr, zLr, zLr, trivial⟩), (le_of_eq (lz.trans (pif_pos hg8_9_12))).trans (agg_le ⟨zLr, zLr, zLr, zLr, zLr, zLr, zLr, trivial⟩), trivial⟩) ?_
    refine rts _ rfl (opD_and (ls rfl (ls rfl (ls rfl lz))) lz) ?_
    refine rts _ rfl (opD_move lz) ?_
    refine rtg _ rfl lz (fun hg8_12_13 => opD_load_aggX (qs := [_, _, _, _, _, _, _]) ag94_U6 sz94_U6 (ls rfl (ls rfl (ls rfl (ls rfl (ls rfl (ls rfl (ls rfl (ls rfl (ls rfl (ls rfl (ls rfl (ls rfl (os rfl oz))))))))))))) (loc_getN rfl rfl) (zNb rfl) rfl) ?_
    refine rtg _ rfl (ls rfl lz) (fun hg8_13_14 => opD_load_aggX (qs := [_, _, _, _, _, _, _]) ag94_U6 sz94_U6 (ls rfl (ls rfl (ls rfl (ls rfl (ls rfl (ls rfl (ls rfl (ls rfl (ls rfl (ls rfl (ls rfl (ls rfl (ls rfl (os rfl (os rfl (os rfl oz)))))))))))))))) (loc_getN rfl rfl) (zNb rfl) rfl) ?_
    replace h0 := bnd_some h0
    obtain ⟨x_10, hx_10, h0⟩ := h0
    refine rtg _ rfl (ls rfl (ls rfl lz)) (fun hg8_14_15 => opD_pure ht60_U6 (c_rsame (gif_some hx_10 hg8_14_15)) ⟨(le_of_eq ((ls rfl lz).trans (pif_pos hg8_14_15))).trans (agg_le ⟨zLr, zLr, zLr, zLr, zLr, zLr, zLr, trivial⟩), (le_of_eq (lz.trans (pif_pos hg8_14_15))).trans (agg_le ⟨zLr, zLr, zLr, zLr, zLr, zLr, zLr, trivial⟩), trivial⟩) ?_
    refine rts _ rfl (opD_and (ls rfl (ls rfl (ls rfl lz))) lz) ?_
    refine rts _ rfl (opD_move lz) ?_
    refine rtg _ rfl lz (fun hg8_17_16 => opD_move (ls rfl (ls rfl (ls rfl (ls rfl (ls rfl (ls rfl (ls rfl (ls rfl (ls rfl (ls rfl (ls rfl (ls rfl (ls rfl (ls rfl (ls rfl (ls rfl (ls rfl (os rfl (os rfl (os rfl (os rfl (os rfl oz))))))))))))))))))))))) ?_
    replace h0 := bnd_some h0
    obtain ⟨x_11, hx_11, h0⟩ := h0
    refine rtg _ rfl (ls rfl lz) (fun hg8_18_17 => opD_call ht56_U6 (c_num36 (gif_some hx_11 hg8_18_17) hst) ⟨le_of_eq (lz.trans (pif_pos hg8_18_17)), trivial⟩) ?_
    refine rtg _ rfl (ls rfl (ls rfl lz)) (fun hg8_19_18 => opD_eql (lz.trans (pif_pos hg8_19_18)) (ev_const _ _)) ?_
    refine rts _ rfl (opD_and (ls rfl (ls rfl (ls rfl lz))) lz) ?_
    refine rts _ rfl (opD_move lz) ?_
    refine rtg _ rfl lz (fun hg8_22_19 => opD_move (ls rfl (ls rfl (ls rfl (ls rfl (ls rfl (ls rfl (ls rfl (ls rfl (ls rfl (ls rfl (ls rfl (ls rfl (ls rfl (ls rfl (ls rfl (ls rfl (ls rfl (ls rfl (ls rfl (ls rfl (ls rfl (ls rfl (os rfl (os rfl (os rfl (os rfl (os rfl (os rfl oz))))))))))))))))))))))))))))) ?_
    replace h0 := bnd_some h0
    obtain ⟨x_12, hx_12, h0⟩ := h0
    refine rtg _ rfl (ls rfl lz) (fun hg8_23_20 => opD_call ht56_U6 (c_num36 (gif_some hx_12 hg8_23_20) hst) ⟨le_of_eq (lz.trans (pif_pos hg8_23_20)), trivial⟩) ?_
    refine rtg _ rfl (ls rfl (ls rfl lz)) (fun hg8_24_21 => opD_eql (lz.trans (pif_pos hg8_24_21)) (ev_const _ _)) ?_
    refine rts _ rfl (opD_and (ls rfl (ls rfl (ls rfl lz))) lz) ?_
    refine rts _ rfl (opD_move lz) ?_
    replace h0 := bnd_some h0
    obtain ⟨x_13, hx_13, h0⟩ := h0
    refine rtg _ rfl lz (fun hg8_27_22 => opD_call ht50_U6 (c_sure36 (gif_some hx_13 hg8_27_22) hst) trivial) ?_
    refine rts _ rfl (opD_and (ls rfl lz) lz) ?_
    refine rts _ rfl (opD_assign lz) ?_
    refine .nil ?_
    refine aw_keep [(4, _)] ⟨lg lz, trivial⟩ ?_
    refine aw_ret ?_
    obtain rfl := some_of h0
    exact done_ext (.inr rfl) ((res_one rfl (it_tmp oz)).le zLr) zPb

def F_rWrong (fl : Nat) (p0 : Int) (p1 : Rpl) : Option (Bool) :=
  bnd (F_wrong (some (IntKind.i64.wrap (p0)))) fun x_1 => bnd (F_renc fl x_1) fun x_2 => bnd (F_rdec fl x_2.1) fun x_3 => bnd (gif (((x_2.2.isSome || x_3.2.isSome) || (decide (x_1.Code ≠ (IntKind.i64.wrap (p0))))) == false) (F_rsame fl x_1 x_3.1)) fun x_4 => ifb (((((((x_2.2.isSome || x_3.2.isSome) || (decide (x_1.Code ≠ (IntKind.i64.wrap (p0))))) || (!x_4)) || (decide (x_3.1.N ≠ 0))) || x_3.1.Found) || (decide (x_3.1.Value ≠ ⟨#[]⟩))) || (decide ((IntKind.i64.wrap ((IntKind.i64.wrap ((x_3.1.Rows.length : Int) + (x_3.1.Refs.length : Int))) + (x_3.1.Lines.length : Int))) ≠ 0))) (some false) (bnd (F_rgive fl p1) fun x_5 => bnd (F_rbig fl p1) fun x_6 => ifb x_6 (bnd (F_sure36 fl) fun x_7 => some x_7) (grd (Fits 32 (([] : (List Ent)).length + x_5.Rows.length)) <| grd (Fits 32 (x_5.Rows.length + ([(⟨⟨#[]⟩, ⟨#[]⟩⟩ : Ent)] : (List Ent)).length)) <| bnd (F_rsame fl x_5 (⟨x_5.Code, (bits BinOp.xor .u64 x_5.N 1), x_5.Found, x_5.Value, x_5.Rows, x_5.Refs, x_5.Lines⟩ : Rpl)) fun x_8 => bnd (gif ((!x_8) == true) (F_rsame fl x_5 (⟨x_5.Code, x_5.N, (!x_5.Found), x_5.Value, x_5.Rows, x_5.Refs, x_5.Lines⟩ : Rpl))) fun x_9 => bnd (gif (((!x_8) && (!x_9)) == true) (F_rsame fl (⟨x_5.Code, x_5.N, x_5.Found, x_5.Value, (x_5.Rows ++ ([(⟨⟨#[]⟩, ⟨#[]⟩⟩ : Ent)] : (List Ent))), x_5.Refs, x_5.Lines⟩ : Rpl) x_5)) fun x_10 => bnd (gif ((((!x_8) && (!x_9)) && (!x_10)) == true) (F_rsame fl x_5 x_5)) fun x_11 => bnd (gif (((((!x_8) && (!x_9)) && (!x_10)) && x_11) == true) (F_sure36 fl)) fun x_12 => some (((((!x_8) && (!x_9)) && (!x_10)) && x_11) && x_12)))
set_option maxRecDepth 100000 in
set_option maxHeartbeats 2000000 in
theorem c_rWrong {fl : Nat} {p0 : Int} {p1 : Rpl} {R : Bool} {s : St} (h0 : F_rWrong fl p0 p1 = some R) (hst : StGV s) : AC Tryd.prog 11 [pl (.int .u16 p0), agg [pl (.int .i64 p1.Code), pl (.int .u64 p1.N), pl (.bool p1.Found), pl (.string p1.Value), sl kEnt none none p1.Rows, sl kRf none none p1.Refs, sl kLin none none p1.Lines]] s (pl (.bool R)) s := by
  unfold F_rWrong at h0
  refine ac_of_aw s.boxes.length s.fr.length Tryd.func11 rfl (by simp [Tryd.ntmps11]) ?_
  refine aw_ext0 ?_
  refine aw_keep [(0, _), (1, _)] ⟨lg ez, lg (es ez), trivial⟩ ?_
  refine aw_seq ?_
  refine aw_region (by decide) ?_
  refine rts _ rfl (boxAN rfl (os rfl oz) (zbc zPb (zbc zPb (zbc zPb (zbc zPb (zbc (sl_b kb_Ent) (zbc (sl_b kb_Rf) (zbc (sl_b kb_Lin) bnd_nil))))))) (by first | exact List.length_nil | (simp only [List.length_cons, List.length_nil, Nat.zero_add, Nat.reduceAdd] <;> rfl)) (by simp only [znz] <;> rfl)) ?_
  refine rts _ rfl (opD_assign (ev_const _ _)) ?_
  refine .nil ?_
  refine aw_keep [(0, _), (3, _)] ⟨lg (ls rfl (ls rfl oz)), lg (ls rfl lz), trivial⟩ ?_
  refine aw_seq ?_
  refine aw_region (by decide) ?_
  refine rts _ rfl (opD_move oz) ?_
  refine rts _ rfl (opD_conv_int Tryd.underlying58 Tryd.underlying107 lz rfl) ?_
  refine rts _ rfl (opD_ple (q := pl (errV (some (IntKind.i64.wrap (p0))))) rfl (opD_makeInterface_pl cc107_U6 lz)) ?_
  replace h0 := bnd_some h0
  obtain ⟨x_1, hx_1, h0⟩ := h0
  refine rts _ rfl (opD_call ht61_U6 (c_wrong hx_1 hst) ⟨le_of_eq lz, trivial⟩) ?_
  refine rts _ rfl (allocN rfl zt94_U6 (by first | exact List.length_nil | (simp only [List.length_cons, List.length_nil, Nat.zero_add, Nat.reduceAdd] <;> rfl)) (by simp only [znz] <;> rfl)) ?_
  refine rts _ rfl (storeAN rfl sz94_U6 lz (ls rfl lz) (ones_cons (one_pl rfl) (ones_cons (one_pl rfl) (ones_cons (one_pl rfl) (ones_cons (one_pl rfl) (ones_cons (one_sl _ _ _ _) (ones_cons (one_sl _ _ _ _) (ones_cons (one_sl _ _ _ _) ones_nil))))))) rfl rfl (zNb rfl) (List.cons_ne_nil _ _) (zbc zPb (zbc zPb (zbc zPb (zbc zPb (zbc (sl_b kb_Ent) (zbc (sl_b kb_Rf) (zbc (sl_b kb_Lin) bnd_nil))))))) (by simp only [znz] <;> rfl) (by simp only [znz] <;> rfl)) ?_
  refine .nil ?_
  refine aw_keep [(0, _), (3, _), (5, _)] ⟨lg (lx (ls rfl (ls rfl (ls rfl (ls rfl (ls rfl oz)))))), lg (lx (ls rfl (ls rfl (ls rfl (ls rfl (ls rfl (os rfl oz))))))), lg (lx lz), trivial⟩ ?_
  refine aw_seq ?_
  refine aw_region (by decide) ?_
  refine rts _ rfl (opD_load_aggX (qs := [_, _, _, _, _, _, _]) ag94_U6 sz94_U6 (os rfl (os rfl oz)) (loc_getN rfl rfl) (zNb rfl) rfl) ?_
  replace h0 := bnd_some h0
  obtain ⟨x_2, hx_2, h0⟩ := h0
  refine rts _ rfl (opD_pure ht51_U6 (c_renc hx_2) ⟨(le_of_eq lz).trans (agg_le ⟨zLr, zLr, zLr, zLr, zLr, zLr, zLr, trivial⟩), trivial⟩) ?_
  refine rts _ rfl (opD_move lz) ?_
  refine rts _ rfl (opD_extract lz rfl) ?_
  refine rts _ rfl (opD_extract (ls rfl lz) rfl) ?_
  refine rts _ rfl (opD_assign (ls rfl lz)) ?_
  refine rts _ rfl (opD_assign (ls rfl lz)) ?_
  refine .nil ?_
  refine aw_keep [(0, _), (3, _), (5, _), (6, _), (7, _)] ⟨lg (ls rfl (ls rfl (ls rfl (ls rfl (ls rfl (ls rfl (ls rfl oz))))))), lg (ls rfl (ls rfl (ls rfl (ls rfl (ls rfl (ls rfl (ls rfl (os rfl oz)))))))), lg (ls rfl (ls rfl (ls rfl (ls rfl (ls rfl (ls rfl (ls rfl (os rfl (os rfl oz))))))))), lg (ls rfl lz), lg lz, trivial⟩ ?_
  refine aw_seq ?_
  refine aw_region (by decide) ?_
  refine rts _ rfl (opD_move (os rfl (os rfl (os rfl oz)))) ?_
  replace h0 := bnd_some h0
  obtain ⟨x_3, hx_3, h0⟩ := h0
  refine rts _ rfl (opD_pure ht54_U6 (c_rdec hx_3) ⟨le_of_eq lz, trivial⟩) ?_
  refine rts _ rfl (opD_move lz) ?_
  refine rts _ rfl (opD_extract lz rfl) ?_
  refine rts _ rfl (opD_extract (ls rfl lz) rfl) ?_
  refine rts _ rfl (allocN rfl zt94_U6 (by first | exact List.length_nil | (simp only [List.length_cons, List.length_nil, Nat.zero_add, Nat.reduceAdd] <;> rfl)) (by simp only [znz] <;> rfl)) ?_
  refine rts _ rfl (storeAN rfl sz94_U6 lz (ls rfl (ls rfl lz)) (ones_cons (one_pl rfl) (ones_cons (one_pl rfl) (ones_cons (one_pl rfl) (ones_cons (one_pl rfl) (ones_cons (one_sl _ _ _ _) (ones_cons (one_sl _ _ _ _) (ones_cons (one_sl _ _ _ _) ones_nil))))))) rfl rfl (zNb rfl) (List.cons_ne_nil _ _) (zbc zPb (zbc zPb (zbc zPb (zbc zPb (zbc (sl_b kb_Ent) (zbc (sl_b kb_Rf) (zbc (sl_b kb_Lin) bnd_nil))))))) (by simp only [znz] <;> rfl) (by simp only [znz] <;> rfl)) ?_
  refine rts _ rfl (opD_assign (lx (ls rfl lz))) ?_
  refine .nil ?_
  refine aw_keep [(0, _), (3, _), (5, _), (7, _), (8, _), (9, _)] ⟨lg (ls rfl (lx (ls rfl (ls rfl (ls rfl (ls rfl (ls rfl (ls rfl oz)))))))), lg (ls rfl (lx (ls rfl (ls rfl (ls rfl (ls rfl (ls rfl (ls rfl (os rfl oz))))))))), lg (ls rfl (lx (ls rfl (ls rfl (ls rfl (ls rfl (ls rfl (ls rfl (os rfl (os rfl oz)))))))))), lg (ls rfl (lx (ls rfl (ls rfl (ls rfl (ls rfl (ls rfl (ls rfl (os rfl (os rfl (os rfl (os rfl oz)))))))))))), lg (ls rfl (lx lz)), lg lz, trivial⟩ ?_
  refine aw_seq ?_
  refine aw_seq ?_
  refine aw_region (by decide) ?_
  refine rts _ rfl (opD_move (os rfl (os rfl (os rfl oz)))) ?_
  refine rts _ rfl (opD_bin lz (ev_const _ _) (fun w => errV_guard _ w _) (fun w => errV_beq _ w)) ?_
  refine rts _ rfl (opD_move lz) ?_
  refine rtg _ rfl lz (fun hg4_3_1 => opD_move (ls rfl (ls rfl (ls rfl (os rfl (os rfl (os rfl (os rfl (os rfl oz))))))))) ?_
  refine rtg _ rfl (ls rfl lz) (fun hg4_4_2 => opD_bin (lz.trans (pif_pos hg4_4_2)) (ev_const _ _) (fun w => errV_guard _ w _) (fun w => errV_beq _ w)) ?_
  refine rts _ rfl (opD_or (ls rfl (ls rfl lz)) lz) ?_
  refine rts _ rfl (opD_move lz) ?_
  refine rtg _ rfl lz (fun hg4_7_3 => opD_fieldAddr fo94_0_U6 (ls rfl (ls rfl (ls rfl (ls rfl (ls rfl (ls rfl (ls rfl (os rfl (os rfl oz)))))))))) ?_
  refine rtg _ rfl (ls rfl lz) (fun hg4_8_4 => opD_load_one ag3_U6 (lz.trans (pif_pos hg4_8_4)) (loc_getN rfl rfl) rfl) ?_
  refine rtg _ rfl (ls rfl (ls rfl lz)) (fun hg4_9_5 => opD_move (ls rfl (ls rfl (ls rfl (ls rfl (ls rfl (ls rfl (ls rfl (ls rfl (ls rfl oz)))))))))) ?_
  refine rtg _ rfl (ls rfl (ls rfl (ls rfl lz))) (fun hg4_10_6 => opD_conv_int Tryd.underlying58 Tryd.underlying3 (lz.trans (pif_pos hg4_10_6)) rfl) ?_
  refine rtg _ rfl (ls rfl (ls rfl (ls rfl (ls rfl lz)))) (fun hg4_11_7 => opD_neq ((ls rfl (ls rfl lz)).trans (pif_pos hg4_11_7)) (lz.trans (pif_pos hg4_11_7))) ?_
  refine rts _ rfl (opD_or (ls rfl (ls rfl (ls rfl (ls rfl (ls rfl lz))))) lz) ?_
  refine rts _ rfl (opD_move lz) ?_
  refine rtg _ rfl lz (fun hg4_14_8 => opD_load_aggX (qs := [_, _, _, _, _, _, _]) ag94_U6 sz94_U6 (ls rfl (ls rfl (ls rfl (ls rfl (ls rfl (ls rfl (ls rfl (ls rfl (ls rfl (ls rfl (ls rfl (ls rfl (ls rfl (ls rfl (os rfl (os rfl oz)))))))))))))))) (loc_getN rfl rfl) (zNb rfl) rfl) ?_
  refine rtg _ rfl (ls rfl lz) (fun hg4_15_9 => opD_load_aggX (qs := [_, _, _, _, _, _, _]) ag94_U6 sz94_U6 (ls rfl (ls rfl (ls rfl (ls rfl (ls rfl (ls rfl (ls rfl (ls rfl (ls rfl (ls rfl (ls rfl (ls rfl (ls rfl (ls rfl (ls rfl (os rfl (os rfl (os rfl (os rfl oz))))))))))))))))))) (loc_getN rfl rfl) (zNb rfl) rfl) ?_
  replace h0 := bnd_some h0
  obtain ⟨x_4, hx_4, h0⟩ := h0
  refine rtg _ rfl (ls rfl (ls rfl lz)) (fun hg4_16_10 => opD_pure ht60_U6 (c_rsame (gif_some hx_4 hg4_16_10)) ⟨(le_of_eq ((ls rfl lz).trans (pif_pos hg4_16_10))).trans (agg_le ⟨zLr, zLr, zLr, zLr, zLr, zLr, zLr, trivial⟩), (le_of_eq (lz.trans (pif_pos hg4_16_10))).trans (agg_le ⟨zLr, zLr, zLr, zLr, zLr, zLr, zLr, trivial⟩), trivial⟩) ?_
  refine rtg _ rfl (ls rfl (ls rfl (ls rfl lz))) (fun hg4_17_11 => opD_not (lz.trans (pif_pos hg4_17_11))) ?_
  refine rts _ rfl (opD_or (ls rfl (ls rfl (ls rfl (ls rfl lz)))) lz) ?_
  refine rts _ rfl (opD_move lz) ?_
  refine rtg _ rfl lz (fun hg4_20_12 => opD_fieldAddr fo94_1_U6 (ls rfl (ls rfl (ls rfl (ls rfl (ls rfl (ls rfl (ls rfl (ls rfl (ls rfl (ls rfl (ls rfl (ls rfl (ls rfl (ls rfl (ls rfl (ls rfl (ls rfl (ls rfl (ls rfl (ls rfl (os rfl (os rfl (os rfl (os rfl oz))))))))))))))))))))))))) ?_
  refine rtg _ rfl (ls rfl lz) (fun hg4_21_13 => opD_load_one ag22_U6 (lz.trans (pif_pos hg4_21_13)) (loc_getN rfl rfl) rfl) ?_
  refine rtg _ rfl (ls rfl (ls rfl lz)) (fun hg4_22_14 => opD_neq (lz.trans (pif_pos hg4_22_14)) (ev_const _ _)) ?_
  refine rts _ rfl (opD_or (ls rfl (ls rfl (ls rfl lz))) lz) ?_
  refine rts _ rfl (opD_move lz) ?_
  refine rtg _ rfl lz (fun hg4_25_15 => opD_fieldAddr fo94_2_U6 (ls rfl (ls rfl (ls rfl (ls rfl (ls rfl (ls rfl (ls rfl (ls rfl (ls rfl (ls rfl (ls rfl (ls rfl (ls rfl (ls rfl (ls rfl (ls rfl (ls rfl (ls rfl (ls rfl (ls rfl (ls rfl (ls rfl (ls rfl (ls rfl (ls rfl (os rfl (os rfl (os rfl (os rfl oz)))))))))))))))))))))))))))))) ?_
  refine rtg _ rfl (ls rfl lz) (fun hg4_26_16 => opD_load_one ag4_U6 (lz.trans (pif_pos hg4_26_16)) (loc_getN rfl rfl) rfl) ?_
  refine rts _ rfl (opD_or (ls rfl (ls rfl lz)) lz) ?_
  refine rts _ rfl (opD_move lz) ?_
  refine rtg _ rfl lz (fun hg4_29_17 => opD_fieldAddr fo94_3_U6 (ls rfl (ls rfl (ls rfl (ls rfl (ls rfl (ls rfl (ls rfl (ls rfl (ls rfl (ls rfl (ls rfl (ls rfl (ls rfl (ls rfl (ls rfl (ls rfl (ls rfl (ls rfl (ls rfl (ls rfl (ls rfl (ls rfl (ls rfl (ls rfl (ls rfl (ls rfl (ls rfl (ls rfl (ls rfl (os rfl (os rfl (os rfl (os rfl oz)))))))))))))))))))))))))))))))))) ?_
  refine rtg _ rfl (ls rfl lz) (fun hg4_30_18 => opD_load_one ag9_U6 (lz.trans (pif_pos hg4_30_18)) (loc_getN rfl rfl) rfl) ?_
  refine rtg _ rfl (ls rfl (ls rfl lz)) (fun hg4_31_19 => opD_sneq (lz.trans (pif_pos hg4_31_19)) (ev_const _ _)) ?_
  refine rts _ rfl (opD_or (ls rfl (ls rfl (ls rfl lz))) lz) ?_
  refine rts _ rfl (opD_move lz) ?_
  refine rtg _ rfl lz (fun hg4_34_20 => opD_fieldAddr fo94_4_U6 (ls rfl (ls rfl (ls rfl (ls rfl (ls rfl (ls rfl (ls rfl (ls rfl (ls rfl (ls rfl (ls rfl (ls rfl (ls rfl (ls rfl (ls rfl (ls rfl (ls rfl (ls rfl (ls rfl (ls rfl (ls rfl (ls rfl (ls rfl (ls rfl (ls rfl (ls rfl (ls rfl (ls rfl (ls rfl (ls rfl (ls rfl (ls rfl (ls rfl (ls rfl (os rfl (os rfl (os rfl (os rfl oz))))))))))))))))))))))))))))))))))))))) ?_
  refine rtg _ rfl (ls rfl lz) (fun hg4_35_21 => opD_load_one ag91_U6 (lz.trans (pif_pos hg4_35_21)) (loc_getN rfl rfl) rfl) ?_
  refine rtg _ rfl (ls rfl (ls rfl lz)) (fun hg4_36_22 => opD_len_sl Tryd.underlying91 (lz.trans (pif_pos hg4_36_22))) ?_
  refine rtg _ rfl (ls rfl (ls rfl (ls rfl lz))) (fun hg4_37_23 => opD_fieldAddr fo94_5_U6 (ls rfl (ls rfl (ls rfl (ls rfl (ls rfl (ls rfl (ls rfl (ls rfl (ls rfl (ls rfl (ls rfl (ls rfl (ls rfl (ls rfl (ls rfl (ls rfl (ls rfl (ls rfl (ls rfl (ls rfl (ls rfl (ls rfl (ls rfl (ls rfl (ls rfl (ls rfl (ls rfl (ls rfl (ls rfl (ls rfl (ls rfl (ls rfl (ls rfl (ls rfl (ls rfl (ls rfl (ls rfl (os rfl (os rfl (os rfl (os rfl oz)))))))))))))))))))))))))))))))))))))))))) ?_
  refine rtg _ rfl (ls rfl (ls rfl (ls rfl (ls rfl lz)))) (fun hg4_38_24 => opD_load_one ag92_U6 (lz.trans (pif_pos hg4_38_24)) (loc_getN rfl rfl) rfl) ?_
  refine rtg _ rfl (ls rfl (ls rfl (ls rfl (ls rfl (ls rfl lz))))) (fun hg4_39_25 => opD_len_sl Tryd.underlying92 (lz.trans (pif_pos hg4_39_25))) ?_
  refine rtg _ rfl (ls rfl (ls rfl (ls rfl (ls rfl (ls rfl (ls rfl lz)))))) (fun hg4_40_26 => opD_add ((ls rfl (ls rfl (ls rfl lz))).trans (pif_pos hg4_40_26)) (lz.trans (pif_pos hg4_40_26)) rfl) ?_
  refine rtg _ rfl (ls rfl (ls rfl (ls rfl (ls rfl (ls rfl (ls rfl (ls rfl lz))))))) (fun hg4_41_27 => opD_fieldAddr fo94_6_U6 (ls rfl (ls rfl (ls rfl (ls rfl (ls rfl (ls rfl (ls rfl (ls rfl (ls rfl (ls rfl (ls rfl (ls rfl (ls rfl (ls rfl (ls rfl (ls rfl (ls rfl (ls rfl (ls rfl (ls rfl (ls rfl (ls rfl (ls rfl (ls rfl (ls rfl (ls rfl (ls rfl (ls rfl (ls rfl (ls rfl (ls rfl (ls rfl (ls rfl (ls rfl (ls rfl (ls rfl (ls rfl (ls rfl (ls rfl (ls rfl (ls rfl (os rfl (os rfl (os rfl (os rfl oz)))))))))))))))))))))))))))))))))))))))))))))) ?_
  refine rtg _ rfl (ls rfl (ls rfl (ls rfl (ls rfl (ls rfl (ls rfl (ls rfl (ls rfl lz)))))))) (fun hg4_42_28 => opD_load_one ag55_U6 (lz.trans (pif_pos hg4_42_28)) (loc_getN rfl rfl) rfl) ?_
  refine rtg _ rfl (ls rfl (ls rfl (ls rfl (ls rfl (ls rfl (ls rfl (ls rfl (ls rfl (ls rfl lz))))))))) (fun hg4_43_29 => opD_len_sl Tryd.underlying55 (lz.trans (pif_pos hg4_43_29))) ?_
  refine rtg _ rfl (ls rfl (ls rfl (ls rfl (ls rfl (ls rfl (ls rfl (ls rfl (ls rfl (ls rfl (ls rfl lz)))))))))) (fun hg4_44_30 => opD_add ((ls rfl (ls rfl (ls rfl lz))).trans (pif_pos hg4_44_30)) (lz.trans (pif_pos hg4_44_30)) rfl) ?_
  refine rtg _ rfl (ls rfl (ls rfl (ls rfl (ls rfl (ls rfl (ls rfl (ls rfl (ls rfl (ls rfl (ls rfl (ls rfl lz))))))))))) (fun hg4_45_31 => opD_neq (lz.trans (pif_pos hg4_45_31)) (ev_const _ _)) ?_
  refine rts _ rfl (opD_or (ls rfl (ls rfl (ls rfl (ls rfl (ls rfl (ls rfl (ls rfl (ls rfl (ls rfl (ls rfl (ls rfl (ls rfl lz)))))))))))) lz) ?_
  refine .nil ?_
  refine aw_keep [(3, _), (74, _)] ⟨lg (ls rfl (ls rfl (ls rfl (ls rfl (ls rfl (ls rfl (ls rfl (ls rfl (ls rfl (ls rfl (ls rfl (ls rfl (ls rfl (ls rfl (ls rfl (ls rfl (ls rfl (ls rfl (ls rfl (ls rfl (ls rfl (ls rfl (ls rfl (ls rfl (ls rfl (ls rfl (ls rfl (ls rfl (ls rfl (ls rfl (ls rfl (ls rfl (ls rfl (ls rfl (ls rfl (ls rfl (ls rfl (ls rfl (ls rfl (ls rfl (ls rfl (ls rfl (ls rfl (ls rfl (ls rfl (ls rfl (ls rfl (os rfl oz)))))))))))))))))))))))))))))))))))))))))))))))), lg lz, trivial⟩ ?_
  refine aw_cond _ (os rfl oz) (fun hc => ?_) (fun hc => ?_)
  · skip
    replace h0 := ifb_t h0 hc
    clear hc
    refine aw_seq ?_
    refine aw_region (by decide) ?_
    refine rts _ rfl (opD_assign (ev_const _ _)) ?_
    refine .nil ?_
    refine aw_keep [(4, _)] ⟨lg lz, trivial⟩ ?_
    refine aw_ret ?_
    obtain rfl := some_of h0
    exact done_ext (.inr rfl) ((res_one rfl (it_tmp oz)).le zLr) zPb
  · skip
    replace h0 := ifb_f h0 hc
    clear hc
    refine aw_skip ?_
    refine aw_keep [(3, _)] ⟨lg oz, trivial⟩ ?_
    refine aw_seq ?_
    refine aw_region (by decide) ?_
    refine rts _ rfl (opD_load_aggX (qs := [_, _, _, _, _, _, _]) ag88_U6 sz88_U6 oz (loc_getN rfl rfl) (zNb rfl) rfl) ?_
    replace h0 := bnd_some h0
    obtain ⟨x_5, hx_5, h0⟩ := h0
    refine rts _ rfl (opD_pure ht52_U6 (c_rgive hx_5) ⟨(le_of_eq lz).trans (agg_le ⟨zLr, zLr, zLr, zLr, zLr, zLr, zLr, trivial⟩), trivial⟩) ?_
    refine rts _ rfl (allocN rfl zt94_U6 (by first | exact List.length_nil | (simp only [List.length_cons, List.length_nil, Nat.zero_add, Nat.reduceAdd] <;> rfl)) (by simp only [znz] <;> rfl)) ?_
    refine rts _ rfl (storeAN rfl sz94_U6 lz (ls rfl lz) (ones_cons (one_pl rfl) (ones_cons (one_pl rfl) (ones_cons (one_pl rfl) (ones_cons (one_pl rfl) (ones_cons (one_sl _ _ _ _) (ones_cons (one_sl _ _ _ _) (ones_cons (one_sl _ _ _ _) ones_nil))))))) rfl rfl (zNb rfl) (List.cons_ne_nil _ _) (zbc zPb (zbc zPb (zbc zPb (zbc zPb (zbc (sl_b kb_Ent) (zbc (sl_b kb_Rf) (zbc (sl_b kb_Lin) bnd_nil))))))) (by simp only [znz] <;> rfl) (by simp only [znz] <;> rfl)) ?_
    refine .nil ?_
    refine aw_keep [(3, _), (10, _)] ⟨lg (lx (ls rfl (ls rfl (ls rfl oz)))), lg (lx lz), trivial⟩ ?_
    refine aw_seq ?_
    refine aw_seq ?_
    refine aw_region (by decide) ?_
    refine rts _ rfl (opD_load_aggX (qs := [_, _, _, _, _, _, _]) ag88_U6 sz88_U6 oz (loc_getN rfl rfl) (zNb rfl) rfl) ?_
    replace h0 := bnd_some h0
    obtain ⟨x_6, hx_6, h0⟩ := h0
    refine rts _ rfl (opD_pure ht49_U6 (c_rbig hx_6) ⟨(le_of_eq lz).trans (agg_le ⟨zLr, zLr, zLr, zLr, zLr, zLr, zLr, trivial⟩), trivial⟩) ?_
    refine .nil ?_
    refine aw_keep [(10, _), (78, _)] ⟨lg (ls rfl (ls rfl (os rfl oz))), lg lz, trivial⟩ ?_
    refine aw_cond _ (os rfl oz) (fun hc => ?_) (fun hc => ?_)
    · skip
      replace h0 := ifb_t h0 hc
      clear hc
      refine aw_seq ?_
      refine aw_region (by decide) ?_
      replace h0 := bnd_some h0
      obtain ⟨x_7, hx_7, h0⟩ := h0
      refine rts _ rfl (opD_call ht50_U6 (c_sure36 hx_7 hst) trivial) ?_
      refine rts _ rfl (opD_assign lz) ?_
      refine .nil ?_
      refine aw_keep [(4, _)] ⟨lg lz, trivial⟩ ?_
      refine aw_ret ?_
      obtain rfl := some_of h0
      exact done_ext (.inr rfl) ((res_one rfl (it_tmp oz)).le zLr) zPb
    · skip
      replace h0 := ifb_f h0 hc
      clear hc
      refine aw_skip ?_
      refine aw_keep [(10, _)] ⟨lg oz, trivial⟩ ?_
      refine aw_seq ?_
      refine aw_region (by decide) ?_
      refine rts _ rfl (opD_load_aggX (qs := [_, _, _, _, _, _, _]) ag94_U6 sz94_U6 oz (loc_getN rfl rfl) (zNb rfl) rfl) ?_
      refine rts _ rfl (allocN rfl zt94_U6 (by first | exact List.length_nil | (simp only [List.length_cons, List.length_nil, Nat.zero_add, Nat.reduceAdd] <;> rfl)) (by simp only [znz] <;> rfl)) ?_
      refine rts _ rfl (storeAN rfl sz94_U6 lz (ls rfl lz) (ones_cons (one_pl rfl) (ones_cons (one_pl rfl) (ones_cons (one_pl rfl) (ones_cons (one_pl rfl) (ones_cons (one_sl _ _ _ _) (ones_cons (one_sl _ _ _ _) (ones_cons (one_sl _ _ _ _) ones_nil))))))) rfl rfl (zNb rfl) (List.cons_ne_nil _ _) (zbc zPb (zbc zPb (zbc zPb (zbc zPb (zbc (sl_b kb_Ent) (zbc (sl_b kb_Rf) (zbc (sl_b kb_Lin) bnd_nil))))))) (by simp only [znz] <;> rfl) (by simp only [znz] <;> rfl)) ?_
      refine .nil ?_
      refine aw_keep [(10, _), (11, _)] ⟨lg (lx (ls rfl (ls rfl oz))), lg (lx lz), trivial⟩ ?_
      refine aw_seq ?_
      refine aw_region (by decide) ?_
      refine rts _ rfl (opD_fieldAddr fo94_1_U6 oz) ?_
      refine rts _ rfl (opD_load_one ag22_U6 lz (loc_getN rfl rfl) rfl) ?_
      refine rts _ rfl (opD_bits (.inr (.inr (.inl rfl))) lz (ev_const _ _) rfl) ?_
      refine rts _ rfl (opD_fieldAddr fo94_1_U6 (ls rfl (ls rfl (ls rfl (os rfl oz))))) ?_
      refine rts _ rfl (storeON rfl sz22_U6 lz (le_of_eq (ls rfl lz)) (one_pl rfl) rfl (zNb rfl) zPb (by simp only [znz] <;> rfl) (by simp only [znz] <;> rfl)) ?_
      refine .nil ?_
      refine aw_keep [(10, _), (11, _)] ⟨lg (lx (ls rfl (ls rfl (ls rfl (ls rfl oz))))), lg (lx (ls rfl (ls rfl (ls rfl (ls rfl (os rfl oz)))))), trivial⟩ ?_
      refine aw_seq ?_
      refine aw_region (by decide) ?_
      refine rts _ rfl (opD_load_aggX (qs := [_, _, _, _, _, _, _]) ag94_U6 sz94_U6 oz (loc_getN rfl rfl) (zNb rfl) rfl) ?_
      refine rts _ rfl (allocN rfl zt94_U6 (by first | exact List.length_nil | (simp only [List.length_cons, List.length_nil, Nat.zero_add, Nat.reduceAdd] <;> rfl)) (by simp only [znz] <;> rfl)) ?_
      refine rts _ rfl (storeAN rfl sz94_U6 lz (ls rfl lz) (ones_cons (one_pl rfl) (ones_cons (one_pl rfl) (ones_cons (one_pl rfl) (ones_cons (one_pl rfl) (ones_cons (one_sl _ _ _ _) (ones_cons (one_sl _ _ _ _) (ones_cons (one_sl _ _ _ _) ones_nil))))))) rfl rfl (zNb rfl) (List.cons_ne_nil _ _) (zbc zPb (zbc zPb (zbc zPb (zbc zPb (zbc (sl_b kb_Ent) (zbc (sl_b kb_Rf) (zbc (sl_b kb_Lin) bnd_nil))))))) (by simp only [znz] <;> rfl) (by simp only [znz] <;> rfl)) ?_
      refine .nil ?_
      refine aw_keep [(10, _), (11, _), (12, _)] ⟨lg (lx (ls rfl (ls rfl oz))), lg (lx (ls rfl (ls rfl (os rfl oz)))), lg (lx lz), trivial⟩ ?_
      refine aw_seq ?_
      refine aw_region (by decide) ?_
      refine rts _ rfl (opD_fieldAddr fo94_2_U6 oz) ?_
      refine rts _ rfl (opD_load_one ag4_U6 lz (loc_getN rfl rfl) rfl) ?_
      refine rts _ rfl (opD_not lz) ?_
      refine rts _ rfl (opD_fieldAddr fo94_2_U6 (ls rfl (ls rfl (ls rfl (os rfl (os rfl oz)))))) ?_
      refine rts _ rfl (storeON rfl sz4_U6 lz (le_of_eq (ls rfl lz)) (one_pl rfl) rfl (zNb rfl) zPb (by simp only [znz] <;> rfl) (by simp only [znz] <;> rfl)) ?_
      refine .nil ?_
      refine aw_keep [(10, _), (11, _), (12, _)] ⟨lg (lx (ls rfl (ls rfl (ls rfl (ls rfl oz))))), lg (lx (ls rfl (ls rfl (ls rfl (ls rfl (os rfl oz)))))), lg (lx (ls rfl (ls rfl (ls rfl (ls rfl (os rfl (os rfl oz))))))), trivial⟩ ?_
      refine aw_seq ?_
      refine aw_region (by decide) ?_
      refine rts _ rfl (opD_load_aggX (qs := [_, _, _, _, _, _, _]) ag94_U6 sz94_U6 oz (loc_getN rfl rfl) (zNb rfl) rfl) ?_
      refine rts _ rfl (allocN rfl zt94_U6 (by first | exact List.length_nil | (simp only [List.length_cons, List.length_nil, Nat.zero_add, Nat.reduceAdd] <;> rfl)) (by simp only [znz] <;> rfl)) ?_
      refine rts _ rfl (storeAN rfl sz94_U6 lz (ls rfl lz) (ones_cons (one_pl rfl) (ones_cons (one_pl rfl) (ones_cons (one_pl rfl) (ones_cons (one_pl rfl) (ones_cons (one_sl _ _ _ _) (ones_cons (one_sl _ _ _ _) (ones_cons (one_sl _ _ _ _) ones_nil))))))) rfl rfl (zNb rfl) (List.cons_ne_nil _ _) (zbc zPb (zbc zPb (zbc zPb (zbc zPb (zbc (sl_b kb_Ent) (zbc (sl_b kb_Rf) (zbc (sl_b kb_Lin) bnd_nil))))))) (by simp only [znz] <;> rfl) (by simp only [znz] <;> rfl)) ?_
      refine .nil ?_
      refine aw_keep [(10, _), (11, _), (12, _), (13, _)] ⟨lg (lx (ls rfl (ls rfl oz))), lg (lx (ls rfl (ls rfl (os rfl oz)))), lg (lx (ls rfl (ls rfl (os rfl (os rfl oz))))), lg (lx lz), trivial⟩ ?_
      refine aw_seq ?_
      refine aw_region (by decide) ?_
      refine rts _ rfl (opD_buildEmpty (k := kEnt) Tryd.underlying91 sz109_U6 zt109_U6 rfl (by first | exact List.length_nil | (simp only [List.length_cons, List.length_nil, Nat.zero_add, Nat.reduceAdd] <;> rfl)) (by simp only [znz] <;> rfl)) ?_
      refine rts _ rfl (opD_fieldAddr fo94_4_U6 (ls rfl oz)) ?_
      refine rts _ rfl (opD_load_one ag91_U6 lz (loc_getN rfl rfl) rfl) ?_
      replace h0 := grd_some h0
      obtain ⟨hg_32, h0⟩ := h0
      refine rts _ rfl (opD_appendX Tryd.underlying91 el109_U6 (ls rfl (ls rfl lz)) lz rfl hg_32.1 hg_32.2 (List.nil_append _) (by simp only [znz] <;> rfl)) ?_
      refine rts _ rfl (opD_build_struct (rs := [_, _]) Tryd.underlying109 pt109_U6 zt109_U6 parts_nil rfl) ?_
      refine rts _ rfl (opD_buildOwn (k := kEnt) ([(⟨⟨#[]⟩, ⟨#[]⟩⟩ : Ent)] : (List Ent)) Tryd.underlying91 sz109_U6 zt109_U6 (by decide) rfl (parts_cons (cellsA lz) parts_nil) rfl rfl (by first | exact List.length_nil | (simp only [List.length_cons, List.length_nil, Nat.zero_add, Nat.reduceAdd] <;> rfl)) (by simp only [znz] <;> rfl)) ?_
      replace h0 := grd_some h0
      obtain ⟨hg_33, h0⟩ := h0
      refine rts _ rfl (opD_appendX Tryd.underlying91 el109_U6 (ls rfl (ls rfl lz)) lz rfl hg_33.1 hg_33.2 rfl (by simp only [znz] <;> rfl)) ?_
      refine rts _ rfl (opD_fieldAddr fo94_4_U6 (ls rfl (ls rfl (ls rfl (ls rfl (ls rfl (ls rfl (ls rfl (os rfl (os rfl (os rfl oz))))))))))) ?_
      refine rts _ rfl (storeON rfl sz91_U6 lz (le_of_eq (ls rfl lz)) (one_sl _ _ _ _) rfl (zNb rfl) (sl_ob kb_Ent (by first | omega | (simp only [List.length_append, List.length_cons, List.length_nil, ext_fr_length, upd_fr_length]; omega))) (by simp only [znz] <;> rfl) (by simp only [znz] <;> rfl)) ?_
      refine .nil ?_
      refine aw_keep [(10, _), (11, _), (12, _), (13, _)] ⟨lg (lx (ls rfl (ls rfl (ls rfl (ls rfl (ls rfl (ls rfl (ls rfl (ls rfl oz))))))))), lg (lx (ls rfl (ls rfl (ls rfl (ls rfl (ls rfl (ls rfl (ls rfl (ls rfl (os rfl oz)))))))))), lg (lx (ls rfl (ls rfl (ls rfl (ls rfl (ls rfl (ls rfl (ls rfl (ls rfl (os rfl (os rfl oz))))))))))), lg (lx (ls rfl (ls rfl (ls rfl (ls rfl (ls rfl (ls rfl (ls rfl (ls rfl (os rfl (os rfl (os rfl oz)))))))))))), trivial⟩ ?_
      refine aw_seq ?_
      refine aw_region (by decide) ?_
      refine rts _ rfl (opD_load_aggX (qs := [_, _, _, _, _, _, _]) ag94_U6 sz94_U6 oz (loc_getN rfl rfl) (zNb rfl) rfl) ?_
      refine rts _ rfl (opD_load_aggX (qs := [_, _, _, _, _, _, _]) ag94_U6 sz94_U6 (ls rfl (os rfl oz)) (loc_getN rfl rfl) (zNb rfl) rfl) ?_
      replace h0 := bnd_some h0
      obtain ⟨x_8, hx_8, h0⟩ := h0
      refine rts _ rfl (opD_pure ht60_U6 (c_rsame hx_8) ⟨(le_of_eq (ls rfl lz)).trans (agg_le ⟨zLr, zLr, zLr, zLr, zLr, zLr, zLr, trivial⟩), (le_of_eq lz).trans (agg_le ⟨zLr, zLr, zLr, zLr, zLr, zLr, zLr, trivial⟩), trivial⟩) ?_
      refine rts _ rfl (opD_not lz) ?_
      refine rts _ rfl (opD_move lz) ?_
      refine rtg _ rfl lz (fun hg15_5_34 => opD_load_aggX (qs := [_, _, _, _, _, _, _]) ag94_U6 sz94_U6 (ls rfl (ls rfl (ls rfl (ls rfl (ls rfl oz))))) (loc_getN rfl rfl) (zNb rfl) rfl) ?_
      refine rtg _ rfl (ls rfl lz) (fun hg15_6_35 => opD_load_aggX (qs := [_, _, _, _, _, _, _]) ag94_U6 sz94_U6 (ls rfl (ls rfl (ls rfl (ls rfl (ls rfl (ls rfl (os rfl (os rfl oz)))))))) (loc_getN rfl rfl) (zNb rfl) rfl) ?_
      replace h0 := bnd_some h0
      obtain ⟨x_9, hx_9, h0⟩ := h0
      refine rtg _ rfl (ls rfl (ls rfl lz)) (fun hg15_7_36 => opD_pure ht60_U6 (c_rsame (gif_some hx_9 hg15_7_36)) ⟨(le_of_eq ((ls rfl lz).trans (pif_pos hg15_7_36))).trans (agg_le ⟨zLr, zLr, zLr, zLr, zLr, zLr, zLr, trivial⟩), (le_of_eq (lz.trans (pif_pos hg15_7_36))).trans (agg_le ⟨zLr, zLr, zLr, zLr, zLr, zLr, zLr, trivial⟩), trivial⟩) ?_
      refine rtg _ rfl (ls rfl (ls rfl (ls rfl lz))) (fun hg15_8_37 => opD_not (lz.trans (pif_pos hg15_8_37))) ?_
      refine rts _ rfl (opD_and (ls rfl (ls rfl (ls rfl (ls rfl lz)))) lz) ?_
      refine rts _ rfl (opD_move lz) ?_
      refine rtg _ rfl lz (fun hg15_11_38 => opD_load_aggX (qs := [_, _, _, _, _, _, _]) ag94_U6 sz94_U6 (ls rfl (ls rfl (ls rfl (ls rfl (ls rfl (ls rfl (ls rfl (ls rfl (ls rfl (ls rfl (ls rfl (os rfl (os rfl (os rfl oz)))))))))))))) (loc_getN rfl rfl) (zNb rfl) rfl) ?_
      refine rtg _ rfl (ls rfl lz) (fun hg15_12_39 => opD_load_aggX (qs := [_, _, _, _, _, _, _]) ag94_U6 sz94_U6 (ls rfl (ls rfl (ls rfl (ls rfl (ls rfl (ls rfl (ls rfl (ls rfl (ls rfl (ls rfl (ls rfl (ls rfl oz)))))))))))) (loc_getN rfl rfl) (zNb rfl) rfl) ?_
      replace h0 := bnd_some h0
      obtain ⟨x_10, hx_10, h0⟩ := h0
      refine rtg _ rfl (ls rfl (ls rfl lz)) (fun hg15_13_40 => opD_pure ht60_U6 (c_rsame (gif_some hx_10 hg15_13_40)) ⟨(le_of_eq ((ls rfl lz).trans (pif_pos hg15_13_40))).trans (agg_le ⟨zLr, zLr, zLr, zLr, (sl_any _ _ _ _), zLr, zLr, trivial⟩), (le_of_eq (lz.trans (pif_pos hg15_13_40))).trans (agg_le ⟨zLr, zLr, zLr, zLr, zLr, zLr, zLr, trivial⟩), trivial⟩) ?_
      refine rtg _ rfl (ls rfl (ls rfl (ls rfl lz))) (fun hg15_14_41 => opD_not (lz.trans (pif_pos hg15_14_41))) ?_
      refine rts _ rfl (opD_and (ls rfl (ls rfl (ls rfl (ls rfl lz)))) lz) ?_
      refine rts _ rfl (opD_move lz) ?_
      refine rtg _ rfl lz (fun hg15_17_42 => opD_load_aggX (qs := [_, _, _, _, _, _, _]) ag94_U6 sz94_U6 (ls rfl (ls rfl (ls rfl (ls rfl (ls rfl (ls rfl (ls rfl (ls rfl (ls rfl (ls rfl (ls rfl (ls rfl (ls rfl (ls rfl (ls rfl (ls rfl (ls rfl oz))))))))))))))))) (loc_getN rfl rfl) (zNb rfl) rfl) ?_
      refine rtg _ rfl (ls rfl lz) (fun hg15_18_43 => opD_load_aggX (qs := [_, _, _, _, _, _, _]) ag94_U6 sz94_U6 (ls rfl (ls rfl (ls rfl (ls rfl (ls rfl (ls rfl (ls rfl (ls rfl (ls rfl (ls rfl (ls rfl (ls rfl (ls rfl (ls rfl (ls rfl (ls rfl (ls rfl (ls rfl oz)))))))))))))))))) (loc_getN rfl rfl) (zNb rfl) rfl) ?_
      replace h0 := bnd_some h0
      obtain ⟨x_11, hx_11, h0⟩ := h0
      refine rtg _ rfl (ls rfl (ls rfl lz)) (fun hg15_19_44 => opD_pure ht60_U6 (c_rsame (gif_some hx_11 hg15_19_44)) ⟨(le_of_eq ((ls rfl lz).trans (pif_pos hg15_19_44))).trans (agg_le ⟨zLr, zLr, zLr, zLr, zLr, zLr, zLr, trivial⟩), (le_of_eq (lz.trans (pif_pos hg15_19_44))).trans (agg_le ⟨zLr, zLr, zLr, zLr, zLr, zLr, zLr, trivial⟩), trivial⟩) ?_
      refine rts _ rfl (opD_and (ls rfl (ls rfl (ls rfl lz))) lz) ?_
      refine rts _ rfl (opD_move lz) ?_
      replace h0 := bnd_some h0
      obtain ⟨x_12, hx_12, h0⟩ := h0
      refine rtg _ rfl lz (fun hg15_22_45 => opD_call ht50_U6 (c_sure36 (gif_some hx_12 hg15_22_45) hst) trivial) ?_
      refine rts _ rfl (opD_and (ls rfl lz) lz) ?_
      refine rts _ rfl (opD_assign lz) ?_
      refine .nil ?_
      refine aw_keep [(4, _)] ⟨lg lz, trivial⟩ ?_
      refine aw_ret ?_
      obtain rfl := some_of h0
      exact done_ext (.inr rfl) ((res_one rfl (it_tmp oz)).le zLr) zPb
end Go.Proofs.YtmnhfpcbfdgbcaaDoor.Eng.A
