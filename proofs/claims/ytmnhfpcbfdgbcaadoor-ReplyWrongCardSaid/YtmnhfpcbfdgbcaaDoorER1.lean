/- ER1: what functions do, walked; used by the laws of this seat. -/
import Derived.Test.YtmnhfpcbfdgbcaaDoorEU1
namespace Go.Proofs.YtmnhfpcbfdgbcaaDoor.Eng.A
set_option linter.unusedVariables false
set_option linter.unusedSimpArgs false
open Go.RowKit Go.Proofs.YtmnhfpcbfdgbcaaDoor.Plain Go.Proofs.YtmnhfpcbfdgbcaaDoor.Eng Go.Proofs.YtmnhfpcbfdgbcaaDoor.Eng.Pk Go.Proofs.YtmnhfpcbfdgbcaaDoor.Eng.Rd

theorem zLr {p : Pd} : p.le p := Pd.le_refl _
theorem zPb {v : Value} {n m : Nat} : (pl v).Bnd n m := pl_bnd _ _ _
theorem zNb {n m : Nat} (h : Nat.ble n m = true) : n ≤ m := Nat.le_of_ble_eq_true h
theorem zbc {p : Pd} {ps : List Pd} {n m : Nat} (h : p.Bnd n m) (h2 : ∀ q ∈ ps, q.Bnd n m) : ∀ q ∈ p :: ps, q.Bnd n m := bnd_cons h h2
set_option linter.defProp false in
def znz := And.intro @na (And.intro @nb (And.intro @nc (And.intro @nd (And.intro @nf (And.intro @ng (And.intro @nh (And.intro @ni (And.intro @nj @nk))))))))


theorem ag94_U3 : aggT Tryd.prog 94 = some true := by kernel_rfl
theorem sz94_U3 : sizeT Tryd.prog 94 = some 7 := by kernel_rfl
theorem ht58_U3 : hasText Tryd.prog 58 = true := by kernel_rfl
theorem fo94_0_U3 : fieldOff Tryd.prog 94 0 = some 0 := by kernel_rfl
theorem ag3_U3 : aggT Tryd.prog 3 = some false := by kernel_rfl
theorem ht21_U3 : hasText Tryd.prog 21 = true := by kernel_rfl
theorem fo94_1_U3 : fieldOff Tryd.prog 94 1 = some 1 := by kernel_rfl
theorem ag22_U3 : aggT Tryd.prog 22 = some false := by kernel_rfl
theorem fo94_2_U3 : fieldOff Tryd.prog 94 2 = some 2 := by kernel_rfl
theorem ag4_U3 : aggT Tryd.prog 4 = some false := by kernel_rfl
theorem ht97_U3 : hasText Tryd.prog 97 = true := by kernel_rfl
theorem ht19_U3 : hasText Tryd.prog 19 = true := by kernel_rfl
theorem mixed_U3 : Tryd.prog.follows .mixedOrders = true := by kernel_rfl
theorem fo94_3_U3 : fieldOff Tryd.prog 94 3 = some 3 := by kernel_rfl
theorem ag9_U3 : aggT Tryd.prog 9 = some false := by kernel_rfl
theorem ht20_U3 : hasText Tryd.prog 20 = true := by kernel_rfl
theorem fo94_4_U3 : fieldOff Tryd.prog 94 4 = some 4 := by kernel_rfl
theorem ag91_U3 : aggT Tryd.prog 91 = some false := by kernel_rfl
theorem sz109_U3 : sizeT Tryd.prog 109 = some 2 := by kernel_rfl
theorem ag109_U3 : aggT Tryd.prog 109 = some true := by kernel_rfl
theorem zt109_U3 : zeroT Tryd.prog 109 = some [.string ⟨#[]⟩, .string ⟨#[]⟩] := by kernel_rfl
theorem fo109_0_U3 : fieldOff Tryd.prog 109 0 = some 0 := by kernel_rfl
theorem fo109_1_U3 : fieldOff Tryd.prog 109 1 = some 1 := by kernel_rfl
theorem fo94_5_U3 : fieldOff Tryd.prog 94 5 = some 5 := by kernel_rfl
theorem ag92_U3 : aggT Tryd.prog 92 = some false := by kernel_rfl
theorem sz116_U3 : sizeT Tryd.prog 116 = some 2 := by kernel_rfl
theorem ag116_U3 : aggT Tryd.prog 116 = some true := by kernel_rfl
theorem zt116_U3 : zeroT Tryd.prog 116 = some [.int .i64 0, .int .u64 0] := by kernel_rfl
theorem fo116_0_U3 : fieldOff Tryd.prog 116 0 = some 0 := by kernel_rfl
theorem fo116_1_U3 : fieldOff Tryd.prog 116 1 = some 1 := by kernel_rfl
theorem fo94_6_U3 : fieldOff Tryd.prog 94 6 = some 6 := by kernel_rfl
theorem ag55_U3 : aggT Tryd.prog 55 = some false := by kernel_rfl
theorem sz63_U3 : sizeT Tryd.prog 63 = some 5 := by kernel_rfl
theorem ag63_U3 : aggT Tryd.prog 63 = some true := by kernel_rfl
theorem zt63_U3 : zeroT Tryd.prog 63 = some [.int .u64 0, .int .u64 0, .int .u8 0, .int .u16 0, .string ⟨#[]⟩] := by kernel_rfl
theorem fo63_0_U3 : fieldOff Tryd.prog 63 0 = some 0 := by kernel_rfl
theorem fo63_1_U3 : fieldOff Tryd.prog 63 1 = some 1 := by kernel_rfl
theorem fo63_2_U3 : fieldOff Tryd.prog 63 2 = some 2 := by kernel_rfl
theorem ag5_U3 : aggT Tryd.prog 5 = some false := by kernel_rfl
theorem fo63_3_U3 : fieldOff Tryd.prog 63 3 = some 3 := by kernel_rfl
theorem ag58_U3 : aggT Tryd.prog 58 = some false := by kernel_rfl
theorem fo63_4_U3 : fieldOff Tryd.prog 63 4 = some 4 := by kernel_rfl
theorem ht23_U3 : hasText Tryd.prog 23 = true := by kernel_rfl
theorem ht25_U3 : hasText Tryd.prog 25 = true := by kernel_rfl
theorem pt63_U3 : placesT Tryd.prog 63 5 = some [(0, 1), (1, 1), (2, 1), (3, 1), (4, 1)] := by kernel_rfl
theorem ht24_U3 : hasText Tryd.prog 24 = true := by kernel_rfl
theorem sz9_U3 : sizeT Tryd.prog 9 = some 1 := by kernel_rfl
theorem zt94_U3 : zeroT Tryd.prog 94 = some [.int .i64 0, .int .u64 0, .bool false, .string ⟨#[]⟩, .slice none 0 0, .slice none 0 0, .slice none 0 0] := by kernel_rfl
theorem ht22_U3 : hasText Tryd.prog 22 = true := by kernel_rfl
theorem pt94_U3 : placesT Tryd.prog 94 7 = some [(0, 1), (1, 1), (2, 1), (3, 1), (4, 1), (5, 1), (6, 1)] := by kernel_rfl
theorem sz4_U3 : sizeT Tryd.prog 4 = some 1 := by kernel_rfl
theorem pt109_U3 : placesT Tryd.prog 109 2 = some [(0, 1), (1, 1)] := by kernel_rfl
theorem el109_U3 : elT Tryd.prog 109 = some (2, 32) := by kernel_rfl
theorem sz91_U3 : sizeT Tryd.prog 91 = some 1 := by kernel_rfl
theorem pt116_U3 : placesT Tryd.prog 116 2 = some [(0, 1), (1, 1)] := by kernel_rfl
theorem el116_U3 : elT Tryd.prog 116 = some (2, 16) := by kernel_rfl
theorem sz92_U3 : sizeT Tryd.prog 92 = some 1 := by kernel_rfl
theorem ht98_U3 : hasText Tryd.prog 98 = true := by kernel_rfl
theorem el63_U3 : elT Tryd.prog 63 = some (5, 40) := by kernel_rfl
theorem sz55_U3 : sizeT Tryd.prog 55 = some 1 := by kernel_rfl
theorem ht26_U3 : hasText Tryd.prog 26 = true := by kernel_rfl
theorem cc107_U3 : Tryd.prog.concrete 107 = true := by kernel_rfl

def F_renc_b0 (p0 : Rpl) (t_9 : (List Int) × Int) : Option (((List Int) × Int) ⊕ (((List Int)))) :=
  ifb (decide (t_9.2 < (p0.Rows.length : Int))) (ixb p0.Rows t_9.2 fun x_11 => bnd (oBytes t_9.1 (bytesOf x_11.Key)) fun x_12 => bnd (oBytes x_12 (bytesOf x_11.Value)) fun x_13 => some (.inl (x_13, IntKind.i64.wrap (t_9.2 + 1)))) (some (.inr t_9.1))
def F_renc_b1 (p0 : Rpl) (t_16 : (List Int) × Int) : Option (((List Int) × Int) ⊕ (((List Int)))) :=
  ifb (decide (t_16.2 < (p0.Refs.length : Int))) (ixb p0.Refs t_16.2 fun x_18 => bnd (oByte t_16.1 (IntKind.u8.wrap (x_18.Slot))) fun x_19 => bnd (oNum x_19 x_18.Gen) fun x_20 => some (.inl (x_20, IntKind.i64.wrap (t_16.2 + 1)))) (some (.inr t_16.1))
def F_renc_b2 (p0 : Rpl) (t_23 : (List Int) × Int) : Option (((List Int) × Int) ⊕ (((List Int)))) :=
  ifb (decide (t_23.2 < (p0.Lines.length : Int))) (ixb p0.Lines t_23.2 fun x_25 => bnd (oNum t_23.1 x_25.Seq) fun x_26 => bnd (oNum x_26 x_25.Who) fun x_27 => bnd (oByte x_27 x_25.What) fun x_28 => bnd (oNum x_28 (IntKind.u64.wrap (x_25.Code))) fun x_29 => bnd (oBytes x_29 (bytesOf x_25.Key)) fun x_30 => some (.inl (x_30, IntKind.i64.wrap (t_23.2 + 1)))) (some (.inr t_23.1))
def F_renc (fl : Nat) (p0 : Rpl) : Option ((List Int) × (Option Int)) :=
  bnd (F_rcheck fl p0) fun x_1 => ifb x_1.isSome (some ([], x_1)) (bnd (oNum [] (IntKind.u64.wrap (p0.Code))) fun x_2 => bnd (oNum x_2 p0.N) fun x_3 => bnd (F_flag p0.Found) fun x_4 => bnd (oByte x_3 x_4) fun x_5 => bnd (oBytes x_5 (bytesOf p0.Value)) fun x_6 => bnd (oNum x_6 (IntKind.u64.wrap ((p0.Rows.length : Int)))) fun x_7 => bnd (lp (F_renc_b0 p0) fl (x_7, 0)) fun z_8 => bnd (oNum z_8 (IntKind.u64.wrap ((p0.Refs.length : Int)))) fun x_14 => bnd (lp (F_renc_b1 p0) fl (x_14, 0)) fun z_15 => bnd (oNum z_15 (IntKind.u64.wrap ((p0.Lines.length : Int)))) fun x_21 => bnd (lp (F_renc_b2 p0) fl (x_21, 0)) fun z_22 => some (z_22, none))
set_option maxRecDepth 100000 in
set_option maxHeartbeats 2000000 in
theorem c_renc {fl : Nat} {p0 : Rpl} {R : (List Int) × (Option Int)} (h0 : F_renc fl p0 = some R) : Pure Tryd.prog 51 [agg [pl (.int .i64 p0.Code), pl (.int .u64 p0.N), pl (.bool p0.Found), pl (.string p0.Value), sl kEnt none none p0.Rows, sl kRf none none p0.Refs, sl kLin none none p0.Lines]] (tup [sl (kI .u8) none none R.1, pl (errV R.2)]) := by
  intro s
  unfold F_renc at h0
  refine ac_of_aw s.boxes.length s.fr.length Tryd.func51 rfl (by simp [Tryd.ntmps51]) ?_
  refine aw_ext0 ?_
  refine aw_keep [(0, _)] ⟨lg ez, trivial⟩ ?_
  refine aw_seq ?_
  refine aw_region (by decide) ?_
  refine rts _ rfl (boxAN rfl oz (zbc zPb (zbc zPb (zbc zPb (zbc zPb (zbc (sl_b kb_Ent) (zbc (sl_b kb_Rf) (zbc (sl_b kb_Lin) bnd_nil))))))) (by first | exact List.length_nil | (simp only [List.length_cons, List.length_nil, Nat.zero_add, Nat.reduceAdd] <;> rfl)) (by simp only [znz] <;> rfl)) ?_
  refine rts _ rfl (opD_assign (ev_const _ _)) ?_
  refine rts _ rfl (opD_assign (ev_const _ _)) ?_
  refine .nil ?_
  refine aw_keep [(1, _)] ⟨lg (ls rfl (ls rfl lz)), trivial⟩ ?_
  refine aw_seq ?_
  refine aw_seq ?_
  refine aw_region (by decide) ?_
  refine rts _ rfl (opD_load_aggX (qs := [_, _, _, _, _, _, _]) ag94_U3 sz94_U3 oz (loc_getN rfl rfl) (zNb rfl) rfl) ?_
  replace h0 := bnd_some h0
  obtain ⟨x_1, hx_1, h0⟩ := h0
  refine rts _ rfl (opD_pure ht58_U3 (c_rcheck hx_1) ⟨(le_of_eq lz).trans (agg_le ⟨zLr, zLr, zLr, zLr, zLr, zLr, zLr, trivial⟩), trivial⟩) ?_
  refine rts _ rfl (opD_assign lz) ?_
  refine .nil ?_
  refine aw_keep [(1, _), (4, _)] ⟨lg (ls rfl (ls rfl (ls rfl oz))), lg lz, trivial⟩ ?_
  refine aw_seq ?_
  refine aw_region (by decide) ?_
  refine rts _ rfl (opD_move (os rfl oz)) ?_
  refine rts _ rfl (opD_bin lz (ev_const _ _) (fun w => errV_guard _ w _) (fun w => errV_beq _ w)) ?_
  refine .nil ?_
  refine aw_keep [(1, _), (4, _), (15, _)] ⟨lg (ls rfl (ls rfl oz)), lg (ls rfl (ls rfl (os rfl oz))), lg lz, trivial⟩ ?_
  refine aw_cond _ (os rfl (os rfl oz)) (fun hc => ?_) (fun hc => ?_)
  · skip
    replace h0 := ifb_t h0 hc
    clear hc
    refine aw_seq ?_
    refine aw_region (by decide) ?_
    refine rts _ rfl (opD_move (os rfl oz)) ?_
    refine rts _ rfl (opD_assign (ev_const _ _)) ?_
    refine rts _ rfl (opD_assign (ls rfl lz)) ?_
    refine .nil ?_
    refine aw_keep [(2, _), (3, _)] ⟨lg (ls rfl lz), lg lz, trivial⟩ ?_
    refine aw_ret ?_
    obtain rfl := some_of h0
    exact done_ext (.inr rfl) ((res_list (rs := [_, _]) (ps := [_, _]) rfl rfl ⟨it_tmp oz, it_tmp (os rfl oz), trivial⟩).le (tup_le ⟨(le_nil rfl), zLr, trivial⟩)) (tup_bnd (zbc (sl_b (kb_I _)) (zbc zPb bnd_nil)))
  · skip
    replace h0 := ifb_f h0 hc
    clear hc
    refine aw_skip ?_
    refine aw_keep [(1, _)] ⟨lg oz, trivial⟩ ?_
    refine aw_seq ?_
    refine aw_drawn [false, false, false, true, false, false, true, false, false, false, true, false] [[0], [0], [0], [0, 1], [0, 1], [0, 1], [1, 2], [0, 1, 2], [0, 1, 2], [2], [2, 3], [3]] mixed_U3 (by decide +kernel) ?_
    refine dtp _ rfl (fun s => opD_fieldAddr fo94_0_U3 oz) ?_
    refine dtlG1 ag3_U3 lz (loc_getN rfl rfl) rfl rfl ?_
    refine dtp _ rfl (fun s => opD_conv_int Tryd.underlying3 Tryd.underlying22 lz rfl) ?_
    replace h0 := bnd_some h0
    obtain ⟨x_2, hx_2, h0⟩ := h0
    refine dta _ rfl (opD_own1 ht21_U3 (c_oNum hx_2) ⟨(le_of_eq (ev_const _ _)).trans (le_nil rfl), le_of_eq lz, trivial⟩ (by first | exact List.length_nil | (simp only [List.length_cons, List.length_nil, Nat.zero_add, Nat.reduceAdd] <;> rfl)) (by simp only [znz] <;> rfl)) ?_
    refine dtp _ rfl (fun s => opD_fieldAddr fo94_1_U3 (ls rfl (ls rfl (ls rfl (ls rfl oz))))) ?_
    refine dtlG1 ag22_U3 lz (loc_getN rfl rfl) rfl rfl ?_
    replace h0 := bnd_some h0
    obtain ⟨x_3, hx_3, h0⟩ := h0
    refine dta _ rfl (opD_adopt (j := 0) (kb_I _) (opD_own1 ht21_U3 (c_oNum hx_3) ⟨(le_of_eq (ls rfl (ls rfl lz))).trans (sl_any _ _ _ _), le_of_eq lz, trivial⟩ (by first | exact List.length_nil | (simp only [List.length_cons, List.length_nil, Nat.zero_add, Nat.reduceAdd] <;> rfl)) rfl) (by first | exact List.length_nil | (simp only [List.length_cons, List.length_nil, Nat.zero_add, Nat.reduceAdd] <;> rfl)) rfl (len_oNum hx_3) (by simp only [znz] <;> rfl)) ?_
    refine dtp _ rfl (fun s => opD_fieldAddr fo94_2_U3 (ls rfl (ls rfl (ls rfl (ls rfl (ls rfl (ls rfl (ls rfl oz)))))))) ?_
    refine dtlG1 ag4_U3 lz (loc_getN rfl rfl) rfl rfl ?_
    replace h0 := bnd_some h0
    obtain ⟨x_4, hx_4, h0⟩ := h0
    refine dtp _ rfl (fun s => opD_pure ht97_U3 (c_flag hx_4) ⟨le_of_eq lz, trivial⟩) ?_
    replace h0 := bnd_some h0
    obtain ⟨x_5, hx_5, h0⟩ := h0
    refine dta _ rfl (opD_adopt (j := 0) (kb_I _) (opD_own1 ht19_U3 (c_oByte hx_5) ⟨(le_of_eq (ls rfl (ls rfl (ls rfl lz)))).trans (sl_any _ _ _ _), le_of_eq lz, trivial⟩ (by first | exact List.length_nil | (simp only [List.length_cons, List.length_nil, Nat.zero_add, Nat.reduceAdd] <;> rfl)) rfl) (by first | exact List.length_nil | (simp only [List.length_cons, List.length_nil, Nat.zero_add, Nat.reduceAdd] <;> rfl)) rfl (len_oByte hx_5) (by simp only [znz] <;> rfl)) ?_
    refine dtp _ rfl (fun s => opD_assign lz) ?_
    refine .nil ?_
    dsimp only [List.nil_append, List.cons_append]
    refine ⟨rfl, ⟨trivial, ⟨(by first | exact loc_getN rfl rfl | exact updx_get hlt | exact upd2_g hgh hlt | exact upd2_h hlt2), trivial⟩, trivial, trivial, trivial, ⟨(by first | exact loc_getN rfl rfl | exact updx_get hlt | exact upd2_g hgh hlt | exact upd2_h hlt2), (by first | exact loc_getN rfl rfl | exact updx_get hlt | exact upd2_g hgh hlt | exact upd2_h hlt2), trivial⟩, trivial, trivial, ⟨(by first | exact loc_getN rfl rfl | exact updx_get hlt | exact upd2_g hgh hlt | exact upd2_h hlt2), (by first | exact loc_getN rfl rfl | exact updx_get hlt | exact upd2_g hgh hlt | exact upd2_h hlt2), (by first | exact loc_getN rfl rfl | exact updx_get hlt | exact upd2_g hgh hlt | exact upd2_h hlt2), trivial⟩, trivial, trivial, trivial, trivial⟩, ?_⟩
    refine aw_keep [(1, _), (5, _)] ⟨lg (ls rfl (ls rfl (ls rfl (ls rfl (ls rfl (ls rfl (ls rfl (ls rfl (ls rfl (ls rfl (ls rfl (ls rfl oz)))))))))))), lg lz, trivial⟩ ?_
    refine aw_seq ?_
    refine aw_drawn [false, false, false, false, true, false, false, false, false, true, false] [[0], [0], [0], [0], [0, 1], [0, 1], [0, 1], [0, 1], [0, 1], [1, 2], [2]] mixed_U3 (by decide +kernel) ?_
    refine dtp _ rfl (fun s => opD_move (os rfl oz)) ?_
    refine dtp _ rfl (fun s => opD_fieldAddr fo94_3_U3 (ls rfl oz)) ?_
    refine dtlG1 ag9_U3 lz (loc_getN rfl rfl) rfl rfl ?_
    refine dtp _ rfl (fun s => opD_str_bytes Tryd.underlying9 Tryd.underlying23 Tryd.underlying5 lz) ?_
    replace h0 := bnd_some h0
    obtain ⟨x_6, hx_6, h0⟩ := h0
    refine dta _ rfl (opD_adopt (j := 0) (kb_I _) (opD_own1 ht20_U3 (c_oBytes hx_6) ⟨(le_of_eq (ls rfl (ls rfl (ls rfl lz)))).trans (sl_any _ _ _ _), (le_of_eq lz).trans (sl_any _ _ _ _), trivial⟩ (by first | exact List.length_nil | (simp only [List.length_cons, List.length_nil, Nat.zero_add, Nat.reduceAdd] <;> rfl)) rfl) (by first | exact List.length_nil | (simp only [List.length_cons, List.length_nil, Nat.zero_add, Nat.reduceAdd] <;> rfl)) rfl (len_oBytes hx_6) (by simp only [znz] <;> rfl)) ?_
    refine dtp _ rfl (fun s => opD_fieldAddr fo94_4_U3 (ls rfl (ls rfl (ls rfl (ls rfl (ls rfl oz)))))) ?_
    refine dtlG1 ag91_U3 lz (loc_getN rfl rfl) rfl rfl ?_
    refine dtp _ rfl (fun s => opD_len_sl Tryd.underlying91 lz) ?_
    refine dtp _ rfl (fun s => opD_conv_int Tryd.underlying3 Tryd.underlying22 lz rfl) ?_
    replace h0 := bnd_some h0
    obtain ⟨x_7, hx_7, h0⟩ := h0
    refine dta _ rfl (opD_adopt (j := 0) (kb_I _) (opD_own1 ht21_U3 (c_oNum hx_7) ⟨(le_of_eq (ls rfl (ls rfl (ls rfl (ls rfl lz))))).trans (sl_any _ _ _ _), le_of_eq lz, trivial⟩ (by first | exact List.length_nil | (simp only [List.length_cons, List.length_nil, Nat.zero_add, Nat.reduceAdd] <;> rfl)) rfl) (by first | exact List.length_nil | (simp only [List.length_cons, List.length_nil, Nat.zero_add, Nat.reduceAdd] <;> rfl)) rfl (len_oNum hx_7) (by simp only [znz] <;> rfl)) ?_
    refine dtp _ rfl (fun s => opD_assign lz) ?_
    refine .nil ?_
    dsimp only [List.nil_append, List.cons_append]
    refine ⟨rfl, ⟨trivial, trivial, ⟨(by first | exact loc_getN rfl rfl | exact updx_get hlt | exact upd2_g hgh hlt | exact upd2_h hlt2), trivial⟩, trivial, trivial, trivial, ⟨(by first | exact loc_getN rfl rfl | exact updx_get hlt | exact upd2_g hgh hlt | exact upd2_h hlt2), (by first | exact loc_getN rfl rfl | exact updx_get hlt | exact upd2_g hgh hlt | exact upd2_h hlt2), trivial⟩, trivial, trivial, trivial, trivial, trivial⟩, ?_⟩
    refine aw_keep [(1, _), (5, _)] ⟨lg (ls rfl (ls rfl (ls rfl (ls rfl (ls rfl (ls rfl (ls rfl (ls rfl (ls rfl (ls rfl (ls rfl oz))))))))))), lg lz, trivial⟩ ?_
    refine aw_seq ?_
    refine aw_seq ?_
    refine aw_region (by decide) ?_
    refine rts _ rfl (opD_fieldAddr fo94_4_U3 oz) ?_
    refine rts _ rfl (opD_load_one ag91_U3 lz (loc_getN rfl rfl) rfl) ?_
    refine rts _ rfl (opD_len_sl Tryd.underlying91 lz) ?_
    refine rts _ rfl (opD_move (ev_const _ _)) ?_
    refine .nil ?_
    refine aw_keep [(1, _), (5, _), (39, _), (40, _), (41, _)] ⟨lg (ls rfl (ls rfl (ls rfl (ls rfl oz)))), lg (ls rfl (ls rfl (ls rfl (ls rfl (os rfl oz))))), lg (ls rfl (ls rfl lz)), lg (ls rfl lz), lg lz, trivial⟩ ?_
    replace h0 := bnd_some h0
    obtain ⟨z_8, hz_8, h0⟩ := h0
    refine aw_mid (fun e st => ∃ v : (List Int), Holds e [(1, ptr (s.boxes.length + 0) 0), (5, sl (kI .u8) (some (s.fr.length + 0)) none v)] ∧ st = s.ext [⟨94, [pl (.int .i64 p0.Code), pl (.int .u64 p0.N), pl (.bool p0.Found), pl (.string p0.Value), sl kEnt none none p0.Rows, sl kRf none none p0.Refs, sl kLin none none p0.Lines]⟩] [⟨5, 1, v.length⟩] ∧ v = z_8) ?_ ?_
    · skip
      refine aw_wkN rfl 1 1 rfl rfl ?_
      refine aw_block ?_
      refine aw_loop (fun n e st => ∃ v : (List Int) × Int, Holds e [(1, ptr (s.boxes.length + 0) 0), (5, sl (kI .u8) (some (s.fr.length + 0)) none v.1), (39, sl kEnt none none p0.Rows), (40, pl (.int .i64 (p0.Rows.length : Int))), (41, pl (.int .i64 v.2))] ∧ st = s.ext [⟨94, [pl (.int .i64 p0.Code), pl (.int .u64 p0.N), pl (.bool p0.Found), pl (.string p0.Value), sl kEnt none none p0.Rows, sl kRf none none p0.Refs, sl kLin none none p0.Lines]⟩] [⟨5, 1, v.1.length⟩] ∧ lp (F_renc_b0 p0) n v = some z_8) fl ⟨(x_7, 0), ⟨le_of_eq (eg oz), le_of_eq (eg (os rfl oz)), le_of_eq (eg (os rfl (os rfl oz))), le_of_eq (eg (os rfl (os rfl (os rfl oz)))), le_of_eq (eg (os rfl (os rfl (os rfl (os rfl oz))))), trivial⟩, rfl, hz_8⟩ ?_
      rintro n e st ⟨t_9, hH, rfl, hz_8⟩
      replace hz_8 := lp_some hz_8
      obtain ⟨m_z_10, z_10, rfl, hz_10, hz_8⟩ := hz_8
      unfold F_renc_b0 at hz_10
      refine aw_keep _ hH ?_
      refine aw_wkN rfl 1 1 rfl rfl ?_
      refine aw_seq ?_
      refine aw_region (by decide) ?_
      refine rts _ rfl (opD_lss (os rfl (os rfl (os rfl (os rfl oz)))) (os rfl (os rfl (os rfl oz)))) ?_
      refine .nil ?_
      refine aw_keep [(1, _), (5, _), (39, _), (40, _), (41, _), (42, _)] ⟨lg (ls rfl oz), lg (ls rfl (os rfl oz)), lg (ls rfl (os rfl (os rfl oz))), lg (ls rfl (os rfl (os rfl (os rfl oz)))), lg (ls rfl (os rfl (os rfl (os rfl (os rfl oz))))), lg lz, trivial⟩ ?_
      refine aw_seq ?_
      refine aw_cond _ (os rfl (os rfl (os rfl (os rfl (os rfl oz))))) (fun hc => ?_) (fun hc => ?_)
      · skip
        replace hz_10 := ifb_t hz_10 hc
        clear hc
        refine aw_skip ?_
        refine aw_keep [(1, _), (5, _), (39, _), (40, _), (41, _)] ⟨lg oz, lg (os rfl oz), lg (os rfl (os rfl oz)), lg (os rfl (os rfl (os rfl oz))), lg (os rfl (os rfl (os rfl (os rfl oz)))), trivial⟩ ?_
        refine aw_seq ?_
        refine aw_block ?_
        refine aw_seq ?_
        refine aw_region (by decide) ?_
        replace hz_10 := ixb_some hz_10
        obtain ⟨x_11, hx_11, hbx_11, hz_10⟩ := hz_10
        refine rts _ rfl (opD_indexAddr_sl (i := t_9.2.toNat) Tryd.underlying91 sz109_U3 (os rfl (os rfl oz)) (os rfl (os rfl (os rfl (os rfl oz)))) hbx_11.2.2 hbx_11.2.1) ?_
        refine rts _ rfl (opD_load_el_aggX (qs := [_, _]) ag109_U3 sz109_U3 lz hx_11 (zNb rfl) rfl) ?_
        refine rts _ rfl (allocN rfl zt109_U3 (by first | exact List.length_nil | (simp only [List.length_cons, List.length_nil, Nat.zero_add, Nat.reduceAdd] <;> rfl)) (by simp only [znz] <;> rfl)) ?_
        refine rts _ rfl (storeAN rfl sz109_U3 lz (ls rfl lz) (ones_cons (one_pl rfl) (ones_cons (one_pl rfl) ones_nil)) rfl rfl (zNb rfl) (List.cons_ne_nil _ _) (zbc zPb (zbc zPb bnd_nil)) (by simp only [znz] <;> rfl) (by simp only [znz] <;> rfl)) ?_
        refine .nil ?_
        refine aw_keep [(1, _), (5, _), (7, _), (39, _), (40, _), (41, _)] ⟨lg (lx (ls rfl (ls rfl (ls rfl oz)))), lg (lx (ls rfl (ls rfl (ls rfl (os rfl oz))))), lg (lx lz), lg (lx (ls rfl (ls rfl (ls rfl (os rfl (os rfl oz)))))), lg (lx (ls rfl (ls rfl (ls rfl (os rfl (os rfl (os rfl oz))))))), lg (lx (ls rfl (ls rfl (ls rfl (os rfl (os rfl (os rfl (os rfl oz)))))))), trivial⟩ ?_
        refine aw_drawn [false, false, false, false, true, false, false, false, true, false] [[0], [0], [0], [0], [0, 1], [0, 1], [0, 1], [0, 1], [1, 2], [2]] mixed_U3 (by decide +kernel) ?_
        refine dtp _ rfl (fun s => opD_move (os rfl oz)) ?_
        refine dtp _ rfl (fun s => opD_fieldAddr fo109_0_U3 (ls rfl (os rfl (os rfl oz)))) ?_
        refine dtlG1 ag9_U3 lz (loc_getN rfl rfl) rfl rfl ?_
        refine dtp _ rfl (fun s => opD_str_bytes Tryd.underlying9 Tryd.underlying23 Tryd.underlying5 lz) ?_
        replace hz_10 := bnd_some hz_10
        obtain ⟨x_12, hx_12, hz_10⟩ := hz_10
        refine dta _ rfl (opD_adopt (j := 0) (kb_I _) (opD_own1 ht20_U3 (c_oBytes hx_12) ⟨(le_of_eq (ls rfl (ls rfl (ls rfl lz)))).trans (sl_any _ _ _ _), (le_of_eq lz).trans (sl_any _ _ _ _), trivial⟩ (by first | exact List.length_nil | (simp only [List.length_cons, List.length_nil, Nat.zero_add, Nat.reduceAdd] <;> rfl)) rfl) (by first | exact List.length_nil | (simp only [List.length_cons, List.length_nil, Nat.zero_add, Nat.reduceAdd] <;> rfl)) rfl (len_oBytes hx_12) (by simp only [znz] <;> rfl)) ?_
        refine dtp _ rfl (fun s => opD_fieldAddr fo109_1_U3 (ls rfl (ls rfl (ls rfl (ls rfl (ls rfl (os rfl (os rfl oz)))))))) ?_
        refine dtlG1 ag9_U3 lz (loc_getN rfl rfl) rfl rfl ?_
        refine dtp _ rfl (fun s => opD_str_bytes Tryd.underlying9 Tryd.underlying23 Tryd.underlying5 lz) ?_
        replace hz_10 := bnd_some hz_10
        obtain ⟨x_13, hx_13, hz_10⟩ := hz_10
        refine dta _ rfl (opD_adopt (j := 0) (kb_I _) (opD_own1 ht20_U3 (c_oBytes hx_13) ⟨(le_of_eq (ls rfl (ls rfl (ls rfl lz)))).trans (sl_any _ _ _ _), (le_of_eq lz).trans (sl_any _ _ _ _), trivial⟩ (by first | exact List.length_nil | (simp only [List.length_cons, List.length_nil, Nat.zero_add, Nat.reduceAdd] <;> rfl)) rfl) (by first | exact List.length_nil | (simp only [List.length_cons, List.length_nil, Nat.zero_add, Nat.reduceAdd] <;> rfl)) rfl (len_oBytes hx_13) (by simp only [znz] <;> rfl)) ?_
        refine dtp _ rfl (fun s => opD_assign lz) ?_
        refine .nil ?_
        dsimp only [List.nil_append, List.cons_append]
        refine ⟨rfl, ⟨trivial, trivial, ⟨(by first | exact loc_getN rfl rfl | exact updx_get hlt | exact upd2_g hgh hlt | exact upd2_h hlt2), trivial⟩, trivial, trivial, trivial, ⟨(by first | exact loc_getN rfl rfl | exact updx_get hlt | exact upd2_g hgh hlt | exact upd2_h hlt2), (by first | exact loc_getN rfl rfl | exact updx_get hlt | exact upd2_g hgh hlt | exact upd2_h hlt2), trivial⟩, trivial, trivial, trivial, trivial⟩, ?_⟩
        refine aw_keep [(1, _), (5, _), (39, _), (40, _), (41, _)] ⟨lg (ls rfl (ls rfl (ls rfl (ls rfl (ls rfl (ls rfl (ls rfl (ls rfl (ls rfl (ls rfl oz)))))))))), lg lz, lg (ls rfl (ls rfl (ls rfl (ls rfl (ls rfl (ls rfl (ls rfl (ls rfl (ls rfl (ls rfl (os rfl (os rfl (os rfl oz))))))))))))), lg (ls rfl (ls rfl (ls rfl (ls rfl (ls rfl (ls rfl (ls rfl (ls rfl (ls rfl (ls rfl (os rfl (os rfl (os rfl (os rfl oz)))))))))))))), lg (ls rfl (ls rfl (ls rfl (ls rfl (ls rfl (ls rfl (ls rfl (ls rfl (ls rfl (ls rfl (os rfl (os rfl (os rfl (os rfl (os rfl oz))))))))))))))), trivial⟩ ?_
        refine aw_region (by decide) ?_
        refine rts _ rfl (opD_add (os rfl (os rfl (os rfl (os rfl oz)))) (ev_const _ _) rfl) ?_
        refine rts _ rfl (opD_move lz) ?_
        refine .nil ?_
        obtain rfl := some_of hz_10
        replace hz_8 := ocs_l hz_8
        refine wk_yesN rfl (l := [(1, ptr (s.boxes.length + 0) 0), (5, sl (kI .u8) (some (s.fr.length + 0)) none x_13), (39, sl kEnt none none p0.Rows), (40, pl (.int .i64 (p0.Rows.length : Int))), (41, pl (.int .i64 (IntKind.i64.wrap (t_9.2 + 1))))]) (bs' := [⟨94, [pl (.int .i64 p0.Code), pl (.int .u64 p0.N), pl (.bool p0.Found), pl (.string p0.Value), sl kEnt none none p0.Rows, sl kRf none none p0.Refs, sl kLin none none p0.Lines]⟩]) ⟨le_of_eq (eg (ls rfl (ls rfl oz))), le_of_eq (eg (ls rfl (ls rfl (os rfl oz)))), le_of_eq (eg (ls rfl (ls rfl (os rfl (os rfl oz))))), le_of_eq (eg (ls rfl (ls rfl (os rfl (os rfl (os rfl oz)))))), le_of_eq (eg lz), trivial⟩ (zbc (ptr_bnd _ (by first | omega | (simp only [List.length_append, List.length_cons, List.length_nil]; omega))) (zbc (sl_ob (kb_I _) (by first | omega | (simp only [List.length_append, List.length_cons, List.length_nil, ext_fr_length, upd_fr_length]; omega))) (zbc (sl_b kb_Ent) (zbc zPb (zbc zPb bnd_nil))))) (zNb rfl) (by simp only [znz] <;> rfl) (bxle_same bxle_nil) rfl (by simp only [znz] <;> rfl) (bl_cons (zbc zPb (zbc zPb (zbc zPb (zbc zPb (zbc (sl_b kb_Ent) (zbc (sl_b kb_Rf) (zbc (sl_b kb_Lin) bnd_nil))))))) bl_nil) ?_
        exact ⟨m_z_10, Nat.lt_succ_self _, (x_13, IntKind.i64.wrap (t_9.2 + 1)), ⟨le_of_eq (eg oz), le_of_eq (eg (os rfl oz)), le_of_eq (eg (os rfl (os rfl oz))), le_of_eq (eg (os rfl (os rfl (os rfl oz)))), le_of_eq (eg (os rfl (os rfl (os rfl (os rfl oz))))), trivial⟩, rfl, hz_8⟩
      · skip
        replace hz_10 := ifb_f hz_10 hc
        clear hc
        refine aw_exit ?_
        obtain rfl := some_of hz_10
        replace hz_8 := ocs_r hz_8
        refine wk_no ?_
        refine wk_yesN rfl (l := [(1, ptr (s.boxes.length + 0) 0), (5, sl (kI .u8) (some (s.fr.length + 0)) none t_9.1)]) (bs' := [⟨94, [pl (.int .i64 p0.Code), pl (.int .u64 p0.N), pl (.bool p0.Found), pl (.string p0.Value), sl kEnt none none p0.Rows, sl kRf none none p0.Refs, sl kLin none none p0.Lines]⟩]) ⟨le_of_eq (eg oz), le_of_eq (eg (os rfl oz)), trivial⟩ (zbc (ptr_bnd _ (by first | omega | (simp only [List.length_append, List.length_cons, List.length_nil]; omega))) (zbc (sl_ob (kb_I _) (by first | omega | (simp only [List.length_append, List.length_cons, List.length_nil, ext_fr_length, upd_fr_length]; omega))) bnd_nil)) (zNb rfl) (by simp only [znz] <;> rfl) (bxle_same bxle_nil) rfl (by simp only [znz] <;> rfl) (bl_cons (zbc zPb (zbc zPb (zbc zPb (zbc zPb (zbc (sl_b kb_Ent) (zbc (sl_b kb_Rf) (zbc (sl_b kb_Lin) bnd_nil))))))) bl_nil) ?_
        exact ⟨t_9.1, ⟨le_of_eq (eg oz), le_of_eq (eg (os rfl oz)), trivial⟩, rfl, some_of hz_8⟩
    · rintro e st ⟨vz_8, hH, rfl, rfl⟩
      refine aw_keep _ hH ?_
      refine aw_keep [(1, _), (5, _)] ⟨lg oz, lg (os rfl oz), trivial⟩ ?_
      refine aw_seq ?_
      refine aw_region (by decide) ?_
      refine rts _ rfl (opD_move (os rfl oz)) ?_
      refine rts _ rfl (opD_fieldAddr fo94_5_U3 (ls rfl oz)) ?_
      refine rts _ rfl (opD_load_one ag92_U3 lz (loc_getN rfl rfl) rfl) ?_
      refine rts _ rfl (opD_len_sl Tryd.underlying92 lz) ?_
      refine rts _ rfl (opD_conv_int Tryd.underlying3 Tryd.underlying22 lz rfl) ?_
      replace h0 := bnd_some h0
      obtain ⟨x_14, hx_14, h0⟩ := h0
      refine rts _ rfl (opD_adopt (j := 0) (kb_I _) (opD_own1 ht21_U3 (c_oNum hx_14) ⟨(le_of_eq (ls rfl (ls rfl (ls rfl (ls rfl lz))))).trans (sl_any _ _ _ _), le_of_eq lz, trivial⟩ (by first | exact List.length_nil | (simp only [List.length_cons, List.length_nil, Nat.zero_add, Nat.reduceAdd] <;> rfl)) rfl) (by first | exact List.length_nil | (simp only [List.length_cons, List.length_nil, Nat.zero_add, Nat.reduceAdd] <;> rfl)) rfl (len_oNum hx_14) (by simp only [znz] <;> rfl)) ?_
      refine rts _ rfl (opD_assign lz) ?_
      refine .nil ?_
      refine aw_keep [(1, _), (5, _)] ⟨lg (ls rfl (ls rfl (ls rfl (ls rfl (ls rfl (ls rfl (ls rfl oz))))))), lg lz, trivial⟩ ?_
      refine aw_seq ?_
      refine aw_seq ?_
      refine aw_region (by decide) ?_
      refine rts _ rfl (opD_fieldAddr fo94_5_U3 oz) ?_
      refine rts _ rfl (opD_load_one ag92_U3 lz (loc_getN rfl rfl) rfl) ?_
      refine rts _ rfl (opD_len_sl Tryd.underlying92 lz) ?_
      refine rts _ rfl (opD_move (ev_const _ _)) ?_
      refine .nil ?_
      refine aw_keep [(1, _), (5, _), (62, _), (63, _), (64, _)] ⟨lg (ls rfl (ls rfl (ls rfl (ls rfl oz)))), lg (ls rfl (ls rfl (ls rfl (ls rfl (os rfl oz))))), lg (ls rfl (ls rfl lz)), lg (ls rfl lz), lg lz, trivial⟩ ?_
      replace h0 := bnd_some h0
      obtain ⟨z_15, hz_15, h0⟩ := h0
      refine aw_mid (fun e st => ∃ v : (List Int), Holds e [(1, ptr (s.boxes.length + 0) 0), (5, sl (kI .u8) (some (s.fr.length + 0)) none v)] ∧ st = s.ext [⟨94, [pl (.int .i64 p0.Code), pl (.int .u64 p0.N), pl (.bool p0.Found), pl (.string p0.Value), sl kEnt none none p0.Rows, sl kRf none none p0.Refs, sl kLin none none p0.Lines]⟩] [⟨5, 1, v.length⟩] ∧ v = z_15) ?_ ?_
      · skip
        refine aw_wkN rfl 1 1 rfl rfl ?_
        refine aw_block ?_
        refine aw_loop (fun n e st => ∃ v : (List Int) × Int, Holds e [(1, ptr (s.boxes.length + 0) 0), (5, sl (kI .u8) (some (s.fr.length + 0)) none v.1), (62, sl kRf none none p0.Refs), (63, pl (.int .i64 (p0.Refs.length : Int))), (64, pl (.int .i64 v.2))] ∧ st = s.ext [⟨94, [pl (.int .i64 p0.Code), pl (.int .u64 p0.N), pl (.bool p0.Found), pl (.string p0.Value), sl kEnt none none p0.Rows, sl kRf none none p0.Refs, sl kLin none none p0.Lines]⟩] [⟨5, 1, v.1.length⟩] ∧ lp (F_renc_b1 p0) n v = some z_15) fl ⟨(x_14, 0), ⟨le_of_eq (eg oz), le_of_eq (eg (os rfl oz)), le_of_eq (eg (os rfl (os rfl oz))), le_of_eq (eg (os rfl (os rfl (os rfl oz)))), le_of_eq (eg (os rfl (os rfl (os rfl (os rfl oz))))), trivial⟩, rfl, hz_15⟩ ?_
        rintro n e st ⟨t_16, hH, rfl, hz_15⟩
        replace hz_15 := lp_some hz_15
        obtain ⟨m_z_17, z_17, rfl, hz_17, hz_15⟩ := hz_15
        unfold F_renc_b1 at hz_17
        refine aw_keep _ hH ?_
        refine aw_wkN rfl 1 1 rfl rfl ?_
        refine aw_seq ?_
        refine aw_region (by decide) ?_
        refine rts _ rfl (opD_lss (os rfl (os rfl (os rfl (os rfl oz)))) (os rfl (os rfl (os rfl oz)))) ?_
        refine .nil ?_
        refine aw_keep [(1, _), (5, _), (62, _), (63, _), (64, _), (65, _)] ⟨lg (ls rfl oz), lg (ls rfl (os rfl oz)), lg (ls rfl (os rfl (os rfl oz))), lg (ls rfl (os rfl (os rfl (os rfl oz)))), lg (ls rfl (os rfl (os rfl (os rfl (os rfl oz))))), lg lz, trivial⟩ ?_
        refine aw_seq ?_
        refine aw_cond _ (os rfl (os rfl (os rfl (os rfl (os rfl oz))))) (fun hc => ?_) (fun hc => ?_)
        · skip
          replace hz_17 := ifb_t hz_17 hc
          clear hc
          refine aw_skip ?_
          refine aw_keep [(1, _), (5, _), (62, _), (63, _), (64, _)] ⟨lg oz, lg (os rfl oz), lg (os rfl (os rfl oz)), lg (os rfl (os rfl (os rfl oz))), lg (os rfl (os rfl (os rfl (os rfl oz)))), trivial⟩ ?_
          refine aw_seq ?_
          refine aw_block ?_
          refine aw_seq ?_
          refine aw_region (by decide) ?_
          replace hz_17 := ixb_some hz_17
          obtain ⟨x_18, hx_18, hbx_18, hz_17⟩ := hz_17
          refine rts _ rfl (opD_indexAddr_sl (i := t_16.2.toNat) Tryd.underlying92 sz116_U3 (os rfl (os rfl oz)) (os rfl (os rfl (os rfl (os rfl oz)))) hbx_18.2.2 hbx_18.2.1) ?_
          refine rts _ rfl (opD_load_el_aggX (qs := [_, _]) ag116_U3 sz116_U3 lz hx_18 (zNb rfl) rfl) ?_
          refine rts _ rfl (allocN rfl zt116_U3 (by first | exact List.length_nil | (simp only [List.length_cons, List.length_nil, Nat.zero_add, Nat.reduceAdd] <;> rfl)) (by simp only [znz] <;> rfl)) ?_
          refine rts _ rfl (storeAN rfl sz116_U3 lz (ls rfl lz) (ones_cons (one_pl rfl) (ones_cons (one_pl rfl) ones_nil)) rfl rfl (zNb rfl) (List.cons_ne_nil _ _) (zbc zPb (zbc zPb bnd_nil)) (by simp only [znz] <;> rfl) (by simp only [znz] <;> rfl)) ?_
          refine .nil ?_
          refine aw_keep [(1, _), (5, _), (9, _), (62, _), (63, _), (64, _)] ⟨lg (lx (ls rfl (ls rfl (ls rfl oz)))), lg (lx (ls rfl (ls rfl (ls rfl (os rfl oz))))), lg (lx lz), lg (lx (ls rfl (ls rfl (ls rfl (os rfl (os rfl oz)))))), lg (lx (ls rfl (ls rfl (ls rfl (os rfl (os rfl (os rfl oz))))))), lg (lx (ls rfl (ls rfl (ls rfl (os rfl (os rfl (os rfl (os rfl oz)))))))), trivial⟩ ?_
          refine aw_drawn [false, false, false, false, true, false, false, true, false] [[0], [0], [0], [0], [0, 1], [0, 1], [0, 1], [1, 2], [2]] mixed_U3 (by decide +kernel) ?_
          refine dtp _ rfl (fun s => opD_move (os rfl oz)) ?_
          refine dtp _ rfl (fun s => opD_fieldAddr fo116_0_U3 (ls rfl (os rfl (os rfl oz)))) ?_
          refine dtlG1 ag3_U3 lz (loc_getN rfl rfl) rfl rfl ?_
          refine dtp _ rfl (fun s => opD_conv_int Tryd.underlying3 Tryd.underlying5 lz rfl) ?_
          replace hz_17 := bnd_some hz_17
          obtain ⟨x_19, hx_19, hz_17⟩ := hz_17
          refine dta _ rfl (opD_adopt (j := 0) (kb_I _) (opD_own1 ht19_U3 (c_oByte hx_19) ⟨(le_of_eq (ls rfl (ls rfl (ls rfl lz)))).trans (sl_any _ _ _ _), le_of_eq lz, trivial⟩ (by first | exact List.length_nil | (simp only [List.length_cons, List.length_nil, Nat.zero_add, Nat.reduceAdd] <;> rfl)) rfl) (by first | exact List.length_nil | (simp only [List.length_cons, List.length_nil, Nat.zero_add, Nat.reduceAdd] <;> rfl)) rfl (len_oByte hx_19) (by simp only [znz] <;> rfl)) ?_
          refine dtp _ rfl (fun s => opD_fieldAddr fo116_1_U3 (ls rfl (ls rfl (ls rfl (ls rfl (ls rfl (os rfl (os rfl oz)))))))) ?_
          refine dtlG1 ag22_U3 lz (loc_getN rfl rfl) rfl rfl ?_
          replace hz_17 := bnd_some hz_17
          obtain ⟨x_20, hx_20, hz_17⟩ := hz_17
          refine dta _ rfl (opD_adopt (j := 0) (kb_I _) (opD_own1 ht21_U3 (c_oNum hx_20) ⟨(le_of_eq (ls rfl (ls rfl lz))).trans (sl_any _ _ _ _), le_of_eq lz, trivial⟩ (by first | exact List.length_nil | (simp only [List.length_cons, List.length_nil, Nat.zero_add, Nat.reduceAdd] <;> rfl)) rfl) (by first | exact List.length_nil | (simp only [List.length_cons, List.length_nil, Nat.zero_add, Nat.reduceAdd] <;> rfl)) rfl (len_oNum hx_20) (by simp only [znz] <;> rfl)) ?_
          refine dtp _ rfl (fun s => opD_assign lz) ?_
          refine .nil ?_
          dsimp only [List.nil_append, List.cons_append]
          refine ⟨rfl, ⟨trivial, trivial, ⟨(by first | exact loc_getN rfl rfl | exact updx_get hlt | exact upd2_g hgh hlt | exact upd2_h hlt2), trivial⟩, trivial, trivial, trivial, ⟨(by first | exact loc_getN rfl rfl | exact updx_get hlt | exact upd2_g hgh hlt | exact upd2_h hlt2), (by first | exact loc_getN rfl rfl | exact updx_get hlt | exact upd2_g hgh hlt | exact upd2_h hlt2), trivial⟩, trivial, trivial, trivial⟩, ?_⟩
          refine aw_keep [(1, _), (5, _), (62, _), (63, _), (64, _)] ⟨lg (ls rfl (ls rfl (ls rfl (ls rfl (ls rfl (ls rfl (ls rfl (ls rfl (ls rfl oz))))))))), lg lz, lg (ls rfl (ls rfl (ls rfl (ls rfl (ls rfl (ls rfl (ls rfl (ls rfl (ls rfl (os rfl (os rfl (os rfl oz)))))))))))), lg (ls rfl (ls rfl (ls rfl (ls rfl (ls rfl (ls rfl (ls rfl (ls rfl (ls rfl (os rfl (os rfl (os rfl (os rfl oz))))))))))))), lg (ls rfl (ls rfl (ls rfl (ls rfl (ls rfl (ls rfl (ls rfl (ls rfl (ls rfl (os rfl (os rfl (os rfl (os rfl (os rfl oz)))))))))))))), trivial⟩ ?_
          refine aw_region (by decide) ?_
          refine rts _ rfl (opD_add (os rfl (os rfl (os rfl (os rfl oz)))) (ev_const _ _) rfl) ?_
          refine rts _ rfl (opD_move lz) ?_
          refine .nil ?_
          obtain rfl := some_of hz_17
          replace hz_15 := ocs_l hz_15
          refine wk_yesN rfl (l := [(1, ptr (s.boxes.length + 0) 0), (5, sl (kI .u8) (some (s.fr.length + 0)) none x_20), (62, sl kRf none none p0.Refs), (63, pl (.int .i64 (p0.Refs.length : Int))), (64, pl (.int .i64 (IntKind.i64.wrap (t_16.2 + 1))))]) (bs' := [⟨94, [pl (.int .i64 p0.Code), pl (.int .u64 p0.N), pl (.bool p0.Found), pl (.string p0.Value), sl kEnt none none p0.Rows, sl kRf none none p0.Refs, sl kLin none none p0.Lines]⟩]) ⟨le_of_eq (eg (ls rfl (ls rfl oz))), le_of_eq (eg (ls rfl (ls rfl (os rfl oz)))), le_of_eq (eg (ls rfl (ls rfl (os rfl (os rfl oz))))), le_of_eq (eg (ls rfl (ls rfl (os rfl (os rfl (os rfl oz)))))), le_of_eq (eg lz), trivial⟩ (zbc (ptr_bnd _ (by first | omega | (simp only [List.length_append, List.length_cons, List.length_nil]; omega))) (zbc (sl_ob (kb_I _) (by first | omega | (simp only [List.length_append, List.length_cons, List.length_nil, ext_fr_length, upd_fr_length]; omega))) (zbc (sl_b kb_Rf) (zbc zPb (zbc zPb bnd_nil))))) (zNb rfl) (by simp only [znz] <;> rfl) (bxle_same bxle_nil) rfl (by simp only [znz] <;> rfl) (bl_cons (zbc zPb (zbc zPb (zbc zPb (zbc zPb (zbc (sl_b kb_Ent) (zbc (sl_b kb_Rf) (zbc (sl_b kb_Lin) bnd_nil))))))) bl_nil) ?_
          exact ⟨m_z_17, Nat.lt_succ_self _, (x_20, IntKind.i64.wrap (t_16.2 + 1)), ⟨le_of_eq (eg oz), le_of_eq (eg (os rfl oz)), le_of_eq (eg (os rfl (os rfl oz))), le_of_eq (eg (os rfl (os rfl (os rfl oz)))), le_of_eq (eg (os rfl (os rfl (os rfl (os rfl oz))))), trivial⟩, rfl, hz_15⟩
        · skip
          replace hz_17 := ifb_f hz_17 hc
          clear hc
          refine aw_exit ?_
          obtain rfl := some_of hz_17
          replace hz_15 := ocs_r hz_15
          refine wk_no ?_
          refine wk_yesN rfl (l := [(1, ptr (s.boxes.length + 0) 0), (5, sl (kI .u8) (some (s.fr.length + 0)) none t_16.1)]) (bs' := [⟨94, [pl (.int .i64 p0.Code), pl (.int .u64 p0.N), pl (.bool p0.Found), pl (.string p0.Value), sl kEnt none none p0.Rows, sl kRf none none p0.Refs, sl kLin none none p0.Lines]⟩]) ⟨le_of_eq (eg oz), le_of_eq (eg (os rfl oz)), trivial⟩ (zbc (ptr_bnd _ (by first | omega | (simp only [List.length_append, List.length_cons, List.length_nil]; omega))) (zbc (sl_ob (kb_I _) (by first | omega | (simp only [List.length_append, List.length_cons, List.length_nil, ext_fr_length, upd_fr_length]; omega))) bnd_nil)) (zNb rfl) (by simp only [znz] <;> rfl) (bxle_same bxle_nil) rfl (by simp only [znz] <;> rfl) (bl_cons (zbc zPb (zbc zPb (zbc zPb (zbc zPb (zbc (sl_b kb_Ent) (zbc (sl_b kb_Rf) (zbc (sl_b kb_Lin) bnd_nil))))))) bl_nil) ?_
          exact ⟨t_16.1, ⟨le_of_eq (eg oz), le_of_eq (eg (os rfl oz)), trivial⟩, rfl, some_of hz_15⟩
      · rintro e st ⟨vz_15, hH, rfl, rfl⟩
        refine aw_keep _ hH ?_
        refine aw_keep [(1, _), (5, _)] ⟨lg oz, lg (os rfl oz), trivial⟩ ?_
        refine aw_seq ?_
        refine aw_region (by decide) ?_
        refine rts _ rfl (opD_move (os rfl oz)) ?_
        refine rts _ rfl (opD_fieldAddr fo94_6_U3 (ls rfl oz)) ?_
        refine rts _ rfl (opD_load_one ag55_U3 lz (loc_getN rfl rfl) rfl) ?_
        refine rts _ rfl (opD_len_sl Tryd.underlying55 lz) ?_
        refine rts _ rfl (opD_conv_int Tryd.underlying3 Tryd.underlying22 lz rfl) ?_
        replace h0 := bnd_some h0
        obtain ⟨x_21, hx_21, h0⟩ := h0
        refine rts _ rfl (opD_adopt (j := 0) (kb_I _) (opD_own1 ht21_U3 (c_oNum hx_21) ⟨(le_of_eq (ls rfl (ls rfl (ls rfl (ls rfl lz))))).trans (sl_any _ _ _ _), le_of_eq lz, trivial⟩ (by first | exact List.length_nil | (simp only [List.length_cons, List.length_nil, Nat.zero_add, Nat.reduceAdd] <;> rfl)) rfl) (by first | exact List.length_nil | (simp only [List.length_cons, List.length_nil, Nat.zero_add, Nat.reduceAdd] <;> rfl)) rfl (len_oNum hx_21) (by simp only [znz] <;> rfl)) ?_
        refine rts _ rfl (opD_assign lz) ?_
        refine .nil ?_
        refine aw_keep [(1, _), (5, _)] ⟨lg (ls rfl (ls rfl (ls rfl (ls rfl (ls rfl (ls rfl (ls rfl oz))))))), lg lz, trivial⟩ ?_
        refine aw_seq ?_
        refine aw_seq ?_
        refine aw_region (by decide) ?_
        refine rts _ rfl (opD_fieldAddr fo94_6_U3 oz) ?_
        refine rts _ rfl (opD_load_one ag55_U3 lz (loc_getN rfl rfl) rfl) ?_
        refine rts _ rfl (opD_len_sl Tryd.underlying55 lz) ?_
        refine rts _ rfl (opD_move (ev_const _ _)) ?_
        refine .nil ?_
        refine aw_keep [(5, _), (84, _), (85, _), (86, _)] ⟨lg (ls rfl (ls rfl (ls rfl (ls rfl (os rfl oz))))), lg (ls rfl (ls rfl lz)), lg (ls rfl lz), lg lz, trivial⟩ ?_
        replace h0 := bnd_some h0
        obtain ⟨z_22, hz_22, h0⟩ := h0
        refine aw_mid (fun e st => ∃ v : (List Int), Holds e [(5, sl (kI .u8) (some (s.fr.length + 0)) none v)] ∧ st = s.ext [⟨94, [pl (.int .i64 p0.Code), pl (.int .u64 p0.N), pl (.bool p0.Found), pl (.string p0.Value), sl kEnt none none p0.Rows, sl kRf none none p0.Refs, sl kLin none none p0.Lines]⟩] [⟨5, 1, v.length⟩] ∧ v = z_22) ?_ ?_
        · skip
          refine aw_wkN rfl 1 1 rfl rfl ?_
          refine aw_block ?_
          refine aw_loop (fun n e st => ∃ v : (List Int) × Int, Holds e [(5, sl (kI .u8) (some (s.fr.length + 0)) none v.1), (84, sl kLin none none p0.Lines), (85, pl (.int .i64 (p0.Lines.length : Int))), (86, pl (.int .i64 v.2))] ∧ st = s.ext [⟨94, [pl (.int .i64 p0.Code), pl (.int .u64 p0.N), pl (.bool p0.Found), pl (.string p0.Value), sl kEnt none none p0.Rows, sl kRf none none p0.Refs, sl kLin none none p0.Lines]⟩] [⟨5, 1, v.1.length⟩] ∧ lp (F_renc_b2 p0) n v = some z_22) fl ⟨(x_21, 0), ⟨le_of_eq (eg oz), le_of_eq (eg (os rfl oz)), le_of_eq (eg (os rfl (os rfl oz))), le_of_eq (eg (os rfl (os rfl (os rfl oz)))), trivial⟩, rfl, hz_22⟩ ?_
          rintro n e st ⟨t_23, hH, rfl, hz_22⟩
          replace hz_22 := lp_some hz_22
          obtain ⟨m_z_24, z_24, rfl, hz_24, hz_22⟩ := hz_22
          unfold F_renc_b2 at hz_24
          refine aw_keep _ hH ?_
          refine aw_wkN rfl 1 1 rfl rfl ?_
          refine aw_seq ?_
          refine aw_region (by decide) ?_
          refine rts _ rfl (opD_lss (os rfl (os rfl (os rfl oz))) (os rfl (os rfl oz))) ?_
          refine .nil ?_
          refine aw_keep [(5, _), (84, _), (85, _), (86, _), (87, _)] ⟨lg (ls rfl oz), lg (ls rfl (os rfl oz)), lg (ls rfl (os rfl (os rfl oz))), lg (ls rfl (os rfl (os rfl (os rfl oz)))), lg lz, trivial⟩ ?_
          refine aw_seq ?_
          refine aw_cond _ (os rfl (os rfl (os rfl (os rfl oz)))) (fun hc => ?_) (fun hc => ?_)
          · skip
            replace hz_24 := ifb_t hz_24 hc
            clear hc
            refine aw_skip ?_
            refine aw_keep [(5, _), (84, _), (85, _), (86, _)] ⟨lg oz, lg (os rfl oz), lg (os rfl (os rfl oz)), lg (os rfl (os rfl (os rfl oz))), trivial⟩ ?_
            refine aw_seq ?_
            refine aw_block ?_
            refine aw_seq ?_
            refine aw_region (by decide) ?_
            replace hz_24 := ixb_some hz_24
            obtain ⟨x_25, hx_25, hbx_25, hz_24⟩ := hz_24
            refine rts _ rfl (opD_indexAddr_sl (i := t_23.2.toNat) Tryd.underlying55 sz63_U3 (os rfl oz) (os rfl (os rfl (os rfl oz))) hbx_25.2.2 hbx_25.2.1) ?_
            refine rts _ rfl (opD_load_el_aggX (qs := [_, _, _, _, _]) ag63_U3 sz63_U3 lz hx_25 (zNb rfl) rfl) ?_
            refine rts _ rfl (allocN rfl zt63_U3 (by first | exact List.length_nil | (simp only [List.length_cons, List.length_nil, Nat.zero_add, Nat.reduceAdd] <;> rfl)) (by simp only [znz] <;> rfl)) ?_
            refine rts _ rfl (storeAN rfl sz63_U3 lz (ls rfl lz) (ones_cons (one_pl rfl) (ones_cons (one_pl rfl) (ones_cons (one_pl rfl) (ones_cons (one_pl rfl) (ones_cons (one_pl rfl) ones_nil))))) rfl rfl (zNb rfl) (List.cons_ne_nil _ _) (zbc zPb (zbc zPb (zbc zPb (zbc zPb (zbc zPb bnd_nil))))) (by simp only [znz] <;> rfl) (by simp only [znz] <;> rfl)) ?_
            refine .nil ?_
            refine aw_keep [(5, _), (11, _), (84, _), (85, _), (86, _)] ⟨lg (lx (ls rfl (ls rfl (ls rfl oz)))), lg (lx lz), lg (lx (ls rfl (ls rfl (ls rfl (os rfl oz))))), lg (lx (ls rfl (ls rfl (ls rfl (os rfl (os rfl oz)))))), lg (lx (ls rfl (ls rfl (ls rfl (os rfl (os rfl (os rfl oz))))))), trivial⟩ ?_
            refine aw_seq ?_
            refine aw_drawn [false, false, false, true, false, false, true, false, false, true, false] [[0], [0], [0], [0, 1], [0, 1], [0, 1], [1, 2], [0, 1, 2], [0, 1, 2], [2, 3], [3]] mixed_U3 (by decide +kernel) ?_
            refine dtp _ rfl (fun s => opD_move oz) ?_
            refine dtp _ rfl (fun s => opD_fieldAddr fo63_0_U3 (ls rfl (os rfl oz))) ?_
            refine dtlG1 ag22_U3 lz (loc_getN rfl rfl) rfl rfl ?_
            replace hz_24 := bnd_some hz_24
            obtain ⟨x_26, hx_26, hz_24⟩ := hz_24
            refine dta _ rfl (opD_adopt (j := 0) (kb_I _) (opD_own1 ht21_U3 (c_oNum hx_26) ⟨(le_of_eq (ls rfl (ls rfl lz))).trans (sl_any _ _ _ _), le_of_eq lz, trivial⟩ (by first | exact List.length_nil | (simp only [List.length_cons, List.length_nil, Nat.zero_add, Nat.reduceAdd] <;> rfl)) rfl) (by first | exact List.length_nil | (simp only [List.length_cons, List.length_nil, Nat.zero_add, Nat.reduceAdd] <;> rfl)) rfl (len_oNum hx_26) (by simp only [znz] <;> rfl)) ?_
            refine dtp _ rfl (fun s => opD_fieldAddr fo63_1_U3 (ls rfl (ls rfl (ls rfl (ls rfl (os rfl oz)))))) ?_
            refine dtlG1 ag22_U3 lz (loc_getN rfl rfl) rfl rfl ?_
            replace hz_24 := bnd_some hz_24
            obtain ⟨x_27, hx_27, hz_24⟩ := hz_24
            refine dta _ rfl (opD_adopt (j := 0) (kb_I _) (opD_own1 ht21_U3 (c_oNum hx_27) ⟨(le_of_eq (ls rfl (ls rfl lz))).trans (sl_any _ _ _ _), le_of_eq lz, trivial⟩ (by first | exact List.length_nil | (simp only [List.length_cons, List.length_nil, Nat.zero_add, Nat.reduceAdd] <;> rfl)) rfl) (by first | exact List.length_nil | (simp only [List.length_cons, List.length_nil, Nat.zero_add, Nat.reduceAdd] <;> rfl)) rfl (len_oNum hx_27) (by simp only [znz] <;> rfl)) ?_
            refine dtp _ rfl (fun s => opD_fieldAddr fo63_2_U3 (ls rfl (ls rfl (ls rfl (ls rfl (ls rfl (ls rfl (ls rfl (os rfl oz))))))))) ?_
            refine dtlG1 ag5_U3 lz (loc_getN rfl rfl) rfl rfl ?_
            replace hz_24 := bnd_some hz_24
            obtain ⟨x_28, hx_28, hz_24⟩ := hz_24
            refine dta _ rfl (opD_adopt (j := 0) (kb_I _) (opD_own1 ht19_U3 (c_oByte hx_28) ⟨(le_of_eq (ls rfl (ls rfl lz))).trans (sl_any _ _ _ _), le_of_eq lz, trivial⟩ (by first | exact List.length_nil | (simp only [List.length_cons, List.length_nil, Nat.zero_add, Nat.reduceAdd] <;> rfl)) rfl) (by first | exact List.length_nil | (simp only [List.length_cons, List.length_nil, Nat.zero_add, Nat.reduceAdd] <;> rfl)) rfl (len_oByte hx_28) (by simp only [znz] <;> rfl)) ?_
            refine dtp _ rfl (fun s => opD_assign lz) ?_
            refine .nil ?_
            dsimp only [List.nil_append, List.cons_append]
            refine ⟨rfl, ⟨trivial, trivial, ⟨(by first | exact loc_getN rfl rfl | exact updx_get hlt | exact upd2_g hgh hlt | exact upd2_h hlt2), trivial⟩, trivial, trivial, ⟨(by first | exact loc_getN rfl rfl | exact updx_get hlt | exact upd2_g hgh hlt | exact upd2_h hlt2), (by first | exact loc_getN rfl rfl | exact updx_get hlt | exact upd2_g hgh hlt | exact upd2_h hlt2), trivial⟩, trivial, trivial, ⟨(by first | exact loc_getN rfl rfl | exact updx_get hlt | exact upd2_g hgh hlt | exact upd2_h hlt2), (by first | exact loc_getN rfl rfl | exact updx_get hlt | exact upd2_g hgh hlt | exact upd2_h hlt2), (by first | exact loc_getN rfl rfl | exact updx_get hlt | exact upd2_g hgh hlt | exact upd2_h hlt2), trivial⟩, trivial, trivial, trivial⟩, ?_⟩
            refine aw_keep [(5, _), (11, _), (84, _), (85, _), (86, _)] ⟨lg lz, lg (ls rfl (ls rfl (ls rfl (ls rfl (ls rfl (ls rfl (ls rfl (ls rfl (ls rfl (ls rfl (ls rfl (os rfl oz)))))))))))), lg (ls rfl (ls rfl (ls rfl (ls rfl (ls rfl (ls rfl (ls rfl (ls rfl (ls rfl (ls rfl (ls rfl (os rfl (os rfl oz))))))))))))), lg (ls rfl (ls rfl (ls rfl (ls rfl (ls rfl (ls rfl (ls rfl (ls rfl (ls rfl (ls rfl (ls rfl (os rfl (os rfl (os rfl oz)))))))))))))), lg (ls rfl (ls rfl (ls rfl (ls rfl (ls rfl (ls rfl (ls rfl (ls rfl (ls rfl (ls rfl (ls rfl (os rfl (os rfl (os rfl (os rfl oz))))))))))))))), trivial⟩ ?_
            refine aw_drawn [false, false, false, false, true, false, false, false, true, false] [[0], [0], [0], [0], [0, 1], [0, 1], [0, 1], [0, 1], [1, 2], [2]] mixed_U3 (by decide +kernel) ?_
            refine dtp _ rfl (fun s => opD_move oz) ?_
            refine dtp _ rfl (fun s => opD_fieldAddr fo63_3_U3 (ls rfl (os rfl oz))) ?_
            refine dtlG1 ag58_U3 lz (loc_getN rfl rfl) rfl rfl ?_
            refine dtp _ rfl (fun s => opD_conv_int Tryd.underlying58 Tryd.underlying22 lz rfl) ?_
            replace hz_24 := bnd_some hz_24
            obtain ⟨x_29, hx_29, hz_24⟩ := hz_24
            refine dta _ rfl (opD_adopt (j := 0) (kb_I _) (opD_own1 ht21_U3 (c_oNum hx_29) ⟨(le_of_eq (ls rfl (ls rfl (ls rfl lz)))).trans (sl_any _ _ _ _), le_of_eq lz, trivial⟩ (by first | exact List.length_nil | (simp only [List.length_cons, List.length_nil, Nat.zero_add, Nat.reduceAdd] <;> rfl)) rfl) (by first | exact List.length_nil | (simp only [List.length_cons, List.length_nil, Nat.zero_add, Nat.reduceAdd] <;> rfl)) rfl (len_oNum hx_29) (by simp only [znz] <;> rfl)) ?_
            refine dtp _ rfl (fun s => opD_fieldAddr fo63_4_U3 (ls rfl (ls rfl (ls rfl (ls rfl (ls rfl (os rfl oz))))))) ?_
            refine dtlG1 ag9_U3 lz (loc_getN rfl rfl) rfl rfl ?_
            refine dtp _ rfl (fun s => opD_str_bytes Tryd.underlying9 Tryd.underlying23 Tryd.underlying5 lz) ?_
            replace hz_24 := bnd_some hz_24
            obtain ⟨x_30, hx_30, hz_24⟩ := hz_24
            refine dta _ rfl (opD_adopt (j := 0) (kb_I _) (opD_own1 ht20_U3 (c_oBytes hx_30) ⟨(le_of_eq (ls rfl (ls rfl (ls rfl lz)))).trans (sl_any _ _ _ _), (le_of_eq lz).trans (sl_any _ _ _ _), trivial⟩ (by first | exact List.length_nil | (simp only [List.length_cons, List.length_nil, Nat.zero_add, Nat.reduceAdd] <;> rfl)) rfl) (by first | exact List.length_nil | (simp only [List.length_cons, List.length_nil, Nat.zero_add, Nat.reduceAdd] <;> rfl)) rfl (len_oBytes hx_30) (by simp only [znz] <;> rfl)) ?_
            refine dtp _ rfl (fun s => opD_assign lz) ?_
            refine .nil ?_
            dsimp only [List.nil_append, List.cons_append]
            refine ⟨rfl, ⟨trivial, trivial, ⟨(by first | exact loc_getN rfl rfl | exact updx_get hlt | exact upd2_g hgh hlt | exact upd2_h hlt2), trivial⟩, trivial, trivial, trivial, ⟨(by first | exact loc_getN rfl rfl | exact updx_get hlt | exact upd2_g hgh hlt | exact upd2_h hlt2), (by first | exact loc_getN rfl rfl | exact updx_get hlt | exact upd2_g hgh hlt | exact upd2_h hlt2), trivial⟩, trivial, trivial, trivial, trivial⟩, ?_⟩
            refine aw_keep [(5, _), (84, _), (85, _), (86, _)] ⟨lg lz, lg (ls rfl (ls rfl (ls rfl (ls rfl (ls rfl (ls rfl (ls rfl (ls rfl (ls rfl (ls rfl (os rfl (os rfl oz)))))))))))), lg (ls rfl (ls rfl (ls rfl (ls rfl (ls rfl (ls rfl (ls rfl (ls rfl (ls rfl (ls rfl (os rfl (os rfl (os rfl oz))))))))))))), lg (ls rfl (ls rfl (ls rfl (ls rfl (ls rfl (ls rfl (ls rfl (ls rfl (ls rfl (ls rfl (os rfl (os rfl (os rfl (os rfl oz)))))))))))))), trivial⟩ ?_
            refine aw_region (by decide) ?_
            refine rts _ rfl (opD_add (os rfl (os rfl (os rfl oz))) (ev_const _ _) rfl) ?_
            refine rts _ rfl (opD_move lz) ?_
            refine .nil ?_
            obtain rfl := some_of hz_24
            replace hz_22 := ocs_l hz_22
            refine wk_yesN rfl (l := [(5, sl (kI .u8) (some (s.fr.length + 0)) none x_30), (84, sl kLin none none p0.Lines), (85, pl (.int .i64 (p0.Lines.length : Int))), (86, pl (.int .i64 (IntKind.i64.wrap (t_23.2 + 1))))]) (bs' := [⟨94, [pl (.int .i64 p0.Code), pl (.int .u64 p0.N), pl (.bool p0.Found), pl (.string p0.Value), sl kEnt none none p0.Rows, sl kRf none none p0.Refs, sl kLin none none p0.Lines]⟩]) ⟨le_of_eq (eg (ls rfl (ls rfl oz))), le_of_eq (eg (ls rfl (ls rfl (os rfl oz)))), le_of_eq (eg (ls rfl (ls rfl (os rfl (os rfl oz))))), le_of_eq (eg lz), trivial⟩ (zbc (sl_ob (kb_I _) (by first | omega | (simp only [List.length_append, List.length_cons, List.length_nil, ext_fr_length, upd_fr_length]; omega))) (zbc (sl_b kb_Lin) (zbc zPb (zbc zPb bnd_nil)))) (zNb rfl) (by simp only [znz] <;> rfl) (bxle_same bxle_nil) rfl (by simp only [znz] <;> rfl) (bl_cons (zbc zPb (zbc zPb (zbc zPb (zbc zPb (zbc (sl_b kb_Ent) (zbc (sl_b kb_Rf) (zbc (sl_b kb_Lin) bnd_nil))))))) bl_nil) ?_
            exact ⟨m_z_24, Nat.lt_succ_self _, (x_30, IntKind.i64.wrap (t_23.2 + 1)), ⟨le_of_eq (eg oz), le_of_eq (eg (os rfl oz)), le_of_eq (eg (os rfl (os rfl oz))), le_of_eq (eg (os rfl (os rfl (os rfl oz)))), trivial⟩, rfl, hz_22⟩
          · skip
            replace hz_24 := ifb_f hz_24 hc
            clear hc
            refine aw_exit ?_
            obtain rfl := some_of hz_24
            replace hz_22 := ocs_r hz_22
            refine wk_no ?_
            refine wk_yesN rfl (l := [(5, sl (kI .u8) (some (s.fr.length + 0)) none t_23.1)]) (bs' := [⟨94, [pl (.int .i64 p0.Code), pl (.int .u64 p0.N), pl (.bool p0.Found), pl (.string p0.Value), sl kEnt none none p0.Rows, sl kRf none none p0.Refs, sl kLin none none p0.Lines]⟩]) ⟨le_of_eq (eg oz), trivial⟩ (zbc (sl_ob (kb_I _) (by first | omega | (simp only [List.length_append, List.length_cons, List.length_nil, ext_fr_length, upd_fr_length]; omega))) bnd_nil) (zNb rfl) (by simp only [znz] <;> rfl) (bxle_same bxle_nil) rfl (by simp only [znz] <;> rfl) (bl_cons (zbc zPb (zbc zPb (zbc zPb (zbc zPb (zbc (sl_b kb_Ent) (zbc (sl_b kb_Rf) (zbc (sl_b kb_Lin) bnd_nil))))))) bl_nil) ?_
            exact ⟨t_23.1, ⟨le_of_eq (eg oz), trivial⟩, rfl, some_of hz_22⟩
        · rintro e st ⟨vz_22, hH, rfl, rfl⟩
          refine aw_keep _ hH ?_
          refine aw_keep [(5, _)] ⟨lg oz, trivial⟩ ?_
          refine aw_seq ?_
          refine aw_region (by decide) ?_
          refine rts _ rfl (opD_move oz) ?_
          refine rts _ rfl (opD_assign lz) ?_
          refine rts _ rfl (opD_assign (ev_const _ _)) ?_
          refine .nil ?_
          refine aw_keep [(2, _), (3, _)] ⟨lg (ls rfl lz), lg lz, trivial⟩ ?_
          refine aw_ret ?_
          obtain rfl := some_of h0
          exact done_ext (.inr rfl) ((res_list (rs := [_, _]) (ps := [_, _]) rfl rfl ⟨it_tmp oz, it_tmp (os rfl oz), trivial⟩).le (tup_le ⟨(sl_any _ _ _ _), zLr, trivial⟩)) (tup_bnd (zbc (sl_b (kb_I _)) (zbc zPb bnd_nil)))

def F_rline (p0 : Rdr) : Option (Lin × Rdr) :=
  bnd (oRNum p0 4611686018427387904) fun x_1 => bnd (oRNum x_1.2 4611686018427387904) fun x_2 => bnd (oRByte x_2.2) fun x_3 => bnd (oRNum x_3.2 65535) fun x_4 => bnd (oRBytes x_4.2 40) fun x_5 => some ((⟨x_1.1, x_2.1, x_3.1, IntKind.u16.wrap (x_4.1), (strOf x_5.1)⟩ : Lin), x_5.2)
set_option maxRecDepth 100000 in
set_option maxHeartbeats 2000000 in
theorem c_rline {p0 : Rdr} {R : Lin × Rdr} {s : St} {g : Nat} (h0 : F_rline p0 = some R) (hG : s.boxes[g]? = some ⟨164, [sl (kI .u8) none none p0.b_, pl (.bool p0.wrong_)]⟩) : AC Tryd.prog 98 [ptr g 0] s (agg [pl (.int .u64 R.1.Seq), pl (.int .u64 R.1.Who), pl (.int .u8 R.1.What), pl (.int .u16 R.1.Code), pl (.string R.1.Key)]) (s.upd g ⟨164, [sl (kI .u8) none none R.2.b_, pl (.bool R.2.wrong_)]⟩) := by
  have hlt := (List.getElem?_eq_some_iff.1 hG).1
  unfold F_rline at h0
  refine ac_of_aw s.boxes.length s.fr.length Tryd.func98 rfl (by simp [Tryd.ntmps98]) ?_
  refine aw_ext0 ?_
  refine aw_upd0 hG ?_
  obtain ⟨N, hNs⟩ : ∃ N, s.boxes.length = N := ⟨_, rfl⟩
  refine aw_keep [(0, _)] ⟨lg ez, trivial⟩ ?_
  refine aw_seq ?_
  refine aw_region (by decide) ?_
  refine rts _ rfl (allocN ((upd_boxes_length _ _ _).trans hNs) zt63_U3 (by first | exact List.length_nil | (simp only [List.length_cons, List.length_nil, Nat.zero_add, Nat.reduceAdd] <;> rfl)) (by simp only [znz] <;> rfl)) ?_
  refine .nil ?_
  refine aw_keep [(0, _), (2, _)] ⟨lg (ls rfl oz), lg lz, trivial⟩ ?_
  refine aw_seq ?_
  refine aw_region (by decide) ?_
  refine rts _ rfl (opD_move oz) ?_
  replace h0 := bnd_some h0
  obtain ⟨x_1, hx_1, h0⟩ := h0
  refine rts _ rfl (opD_callU ht23_U3 (fun s h => c_oRNum hx_1 h) hlt ⟨le_of_eq lz, le_of_eq (ev_const _ _), trivial⟩) ?_
  refine rts _ rfl (opD_move (ls rfl (ls rfl oz))) ?_
  replace h0 := bnd_some h0
  obtain ⟨x_2, hx_2, h0⟩ := h0
  refine rts _ rfl (opD_callU ht23_U3 (fun s h => c_oRNum hx_2 h) hlt ⟨le_of_eq lz, le_of_eq (ev_const _ _), trivial⟩) ?_
  refine rts _ rfl (opD_move (ls rfl (ls rfl (ls rfl (ls rfl oz))))) ?_
  replace h0 := bnd_some h0
  obtain ⟨x_3, hx_3, h0⟩ := h0
  refine rts _ rfl (opD_callU ht25_U3 (fun s h => c_oRByte hx_3 h) hlt ⟨le_of_eq lz, trivial⟩) ?_
  refine rts _ rfl (opD_move (ls rfl (ls rfl (ls rfl (ls rfl (ls rfl (ls rfl oz))))))) ?_
  replace h0 := bnd_some h0
  obtain ⟨x_4, hx_4, h0⟩ := h0
  refine rts _ rfl (opD_callU ht23_U3 (fun s h => c_oRNum hx_4 h) hlt ⟨le_of_eq lz, le_of_eq (ev_const _ _), trivial⟩) ?_
  refine rts _ rfl (opD_conv_int Tryd.underlying22 Tryd.underlying58 lz rfl) ?_
  refine rts _ rfl (opD_build_struct (rs := [_, _, _, _, _]) Tryd.underlying63 pt63_U3 zt63_U3 (parts_cons (cells1 (ls rfl (ls rfl (ls rfl (ls rfl (ls rfl (ls rfl (ls rfl lz))))))) (one_pl rfl)) (parts_cons (cells1 (ls rfl (ls rfl (ls rfl (ls rfl (ls rfl lz))))) (one_pl rfl)) (parts_cons (cells1 (ls rfl (ls rfl (ls rfl lz))) (one_pl rfl)) (parts_cons (cells1 lz (one_pl rfl)) parts_nil)))) (fill_step rfl (by rfl) (by rfl) (by simp only [na, nb, nl, nc, nd, nh, ni, nj, nk, nm, Nat.reduceAdd] <;> rfl) (fill_step rfl (by rfl) (by rfl) (by simp only [na, nb, nl, nc, nd, nh, ni, nj, nk, nm, Nat.reduceAdd] <;> rfl) (fill_step rfl (by rfl) (by rfl) (by simp only [na, nb, nl, nc, nd, nh, ni, nj, nk, nm, Nat.reduceAdd] <;> rfl) (fill_step rfl (by rfl) (by rfl) (by simp only [na, nb, nl, nc, nd, nh, ni, nj, nk, nm, Nat.reduceAdd] <;> rfl) fill_nil))))) ?_
  refine rts _ rfl (allocN ((upd_boxes_length _ _ _).trans hNs) zt63_U3 (by first | exact List.length_nil | (simp only [List.length_cons, List.length_nil, Nat.zero_add, Nat.reduceAdd] <;> rfl)) (by simp only [znz] <;> rfl)) ?_
  refine rts _ rfl (storeAN ((upd_boxes_length _ _ _).trans hNs) sz63_U3 lz (ls rfl lz) (ones_cons (one_pl rfl) (ones_cons (one_pl rfl) (ones_cons (one_pl rfl) (ones_cons (one_pl rfl) (ones_cons (one_pl rfl) ones_nil))))) rfl rfl (zNb rfl) (List.cons_ne_nil _ _) (zbc zPb (zbc zPb (zbc zPb (zbc zPb (zbc zPb bnd_nil))))) (by simp only [znz] <;> rfl) (by simp only [znz] <;> rfl)) ?_
  refine .nil ?_
  refine aw_keep [(0, _), (2, _), (3, _)] ⟨lg (lx (ls rfl (ls rfl (ls rfl (ls rfl (ls rfl (ls rfl (ls rfl (ls rfl (ls rfl (ls rfl (ls rfl oz)))))))))))), lg (lx (ls rfl (ls rfl (ls rfl (ls rfl (ls rfl (ls rfl (ls rfl (ls rfl (ls rfl (ls rfl (ls rfl (os rfl oz))))))))))))), lg (lx lz), trivial⟩ ?_
  refine aw_seq ?_
  refine aw_region (by decide) ?_
  refine rts _ rfl (opD_move oz) ?_
  replace h0 := bnd_some h0
  obtain ⟨x_5, hx_5, h0⟩ := h0
  refine rts _ rfl (opD_callU ht24_U3 (fun s h => c_oRBytes hx_5 h) hlt ⟨le_of_eq lz, le_of_eq (ev_const _ _), trivial⟩) ?_
  refine rts _ rfl (opD_bytes_str Tryd.underlying23 Tryd.underlying5 Tryd.underlying9 lz) ?_
  refine rts _ rfl (opD_fieldAddr fo63_4_U3 (ls rfl (ls rfl (ls rfl (os rfl (os rfl oz)))))) ?_
  refine rts _ rfl (storeON ((upd_boxes_length _ _ _).trans hNs) sz9_U3 lz (le_of_eq (ls rfl lz)) (one_pl rfl) rfl (zNb rfl) zPb (by simp only [znz] <;> rfl) (by simp only [znz] <;> rfl)) ?_
  refine .nil ?_
  refine aw_keep [(2, _), (3, _)] ⟨lg (lx (ls rfl (ls rfl (ls rfl (ls rfl (os rfl oz)))))), lg (lx (ls rfl (ls rfl (ls rfl (ls rfl (os rfl (os rfl oz))))))), trivial⟩ ?_
  refine aw_seq ?_
  refine aw_region (by decide) ?_
  refine rts _ rfl (opD_load_aggX (qs := [_, _, _, _, _]) ag63_U3 sz63_U3 (os rfl oz) (loc_getN ((upd_boxes_length _ _ _).trans hNs) rfl) (zNb rfl) rfl) ?_
  refine rts _ rfl (storeAN ((upd_boxes_length _ _ _).trans hNs) sz63_U3 (ls rfl oz) lz (ones_cons (one_pl rfl) (ones_cons (one_pl rfl) (ones_cons (one_pl rfl) (ones_cons (one_pl rfl) (ones_cons (one_pl rfl) ones_nil))))) rfl rfl (zNb rfl) (List.cons_ne_nil _ _) (zbc zPb (zbc zPb (zbc zPb (zbc zPb (zbc zPb bnd_nil))))) (by simp only [znz] <;> rfl) (by simp only [znz] <;> rfl)) ?_
  refine .nil ?_
  refine aw_keep [(2, _)] ⟨lg (lx (ls rfl oz)), trivial⟩ ?_
  refine aw_ret ?_
  obtain rfl := some_of h0
  exact done_upd (.inr rfl) ((res_one rfl (it_cellA (B := ⟨63, [_, _, _, _, _]⟩) ag63_U3 sz63_U3 oz (loc_getN ((upd_boxes_length _ _ _).trans hNs) rfl) rfl)).le (agg_le ⟨zLr, zLr, zLr, zLr, zLr, trivial⟩)) (agg_bnd (zbc zPb (zbc zPb (zbc zPb (zbc zPb (zbc zPb bnd_nil)))))) (zbc (sl_b (kb_I _)) (zbc zPb bnd_nil))

def F_rdec_b0 (x_6 : (Int × Rdr)) (t_8 : Int × Rdr × (List Ent)) : Option ((Int × Rdr × (List Ent)) ⊕ ((Rdr × (List Ent)))) :=
  ifb (decide (t_8.1 < x_6.1)) (bnd (oRBytes t_8.2.1 40) fun x_10 => bnd (oRBytes x_10.2 2048) fun x_11 => grd (Fits 32 (t_8.2.2.length + ([(⟨(strOf x_10.1), (strOf x_11.1)⟩ : Ent)] : (List Ent)).length)) <| some (.inl (IntKind.u64.wrap (t_8.1 + 1), x_11.2, (t_8.2.2 ++ ([(⟨(strOf x_10.1), (strOf x_11.1)⟩ : Ent)] : (List Ent)))))) (some (.inr (t_8.2.1, t_8.2.2)))
def F_rdec_b1 (x_12 : (Int × Rdr)) (t_14 : Int × Rdr × (List Rf)) : Option ((Int × Rdr × (List Rf)) ⊕ ((Rdr × (List Rf)))) :=
  ifb (decide (t_14.1 < x_12.1)) (bnd (oRByte t_14.2.1) fun x_16 => bnd (oRNum x_16.2 4611686018427387904) fun x_17 => grd (Fits 16 (t_14.2.2.length + ([(⟨IntKind.i64.wrap (x_16.1), x_17.1⟩ : Rf)] : (List Rf)).length)) <| some (.inl (IntKind.u64.wrap (t_14.1 + 1), x_17.2, (t_14.2.2 ++ ([(⟨IntKind.i64.wrap (x_16.1), x_17.1⟩ : Rf)] : (List Rf)))))) (some (.inr (t_14.2.1, t_14.2.2)))
def F_rdec_b2 (x_18 : (Int × Rdr)) (t_20 : Int × Rdr × (List Lin)) : Option ((Int × Rdr × (List Lin)) ⊕ ((Rdr × (List Lin)))) :=
  ifb (decide (t_20.1 < x_18.1)) (bnd (F_rline t_20.2.1) fun x_22 => grd (Fits 40 (t_20.2.2.length + ([x_22.1] : (List Lin)).length)) <| some (.inl (IntKind.u64.wrap (t_20.1 + 1), x_22.2, (t_20.2.2 ++ ([x_22.1] : (List Lin)))))) (some (.inr (t_20.2.1, t_20.2.2)))
def F_rdec (fl : Nat) (p0 : (List Int)) : Option (Rpl × (Option Int)) :=
  bnd (oNew p0) fun x_1 => bnd (oRNum x_1 65535) fun x_2 => bnd (oRNum x_2.2 4611686018427387904) fun x_3 => bnd (oRByte x_3.2) fun x_4 => bnd (oRBytes x_4.2 2048) fun x_5 => bnd (oRNum x_5.2 64) fun x_6 => bnd (lp (F_rdec_b0 x_6) fl (0, x_6.2, ([] : (List Ent)))) fun z_7 => bnd (oRNum z_7.1 64) fun x_12 => bnd (lp (F_rdec_b1 x_12) fl (0, x_12.2, ([] : (List Rf)))) fun z_13 => bnd (oRNum z_13.1 32) fun x_18 => bnd (lp (F_rdec_b2 x_18) fl (0, x_18.2, ([] : (List Lin)))) fun z_19 => bnd (gif ((decide (1 < x_4.1)) == false) (oRDone z_19.1)) fun x_23 => bnd (gif (((decide (1 < x_4.1)) || x_23.isSome) == false) (F_rcheck fl (⟨IntKind.i64.wrap (x_2.1), x_3.1, (decide (x_4.1 = 1)), (strOf x_5.1), z_7.2, z_13.2, z_19.2⟩ : Rpl))) fun x_24 => ifb (((decide (1 < x_4.1)) || x_23.isSome) || x_24.isSome) (some ((⟨0, 0, false, ⟨#[]⟩, [], [], []⟩ : Rpl), some 3)) (some ((⟨IntKind.i64.wrap (x_2.1), x_3.1, (decide (x_4.1 = 1)), (strOf x_5.1), z_7.2, z_13.2, z_19.2⟩ : Rpl), none))
set_option maxRecDepth 100000 in
set_option maxHeartbeats 2000000 in
theorem c_rdec {fl : Nat} {p0 : (List Int)} {R : Rpl × (Option Int)} (h0 : F_rdec fl p0 = some R) : Pure Tryd.prog 54 [sl (kI .u8) none none p0] (tup [agg [pl (.int .i64 R.1.Code), pl (.int .u64 R.1.N), pl (.bool R.1.Found), pl (.string R.1.Value), sl kEnt none none R.1.Rows, sl kRf none none R.1.Refs, sl kLin none none R.1.Lines], pl (errV R.2)]) := by
  intro s
  unfold F_rdec at h0
  refine ac_of_aw s.boxes.length s.fr.length Tryd.func54 rfl (by simp [Tryd.ntmps54]) ?_
  refine aw_ext0 ?_
  refine aw_keep [(0, _)] ⟨lg ez, trivial⟩ ?_
  refine aw_seq ?_
  refine aw_region (by decide) ?_
  refine rts _ rfl (allocN rfl zt94_U3 (by first | exact List.length_nil | (simp only [List.length_cons, List.length_nil, Nat.zero_add, Nat.reduceAdd] <;> rfl)) (by simp only [znz] <;> rfl)) ?_
  refine rts _ rfl (opD_assign (ev_const _ _)) ?_
  refine .nil ?_
  refine aw_keep [(0, _), (2, _)] ⟨lg (ls rfl (ls rfl oz)), lg (ls rfl lz), trivial⟩ ?_
  refine aw_seq ?_
  refine aw_region (by decide) ?_
  refine rts _ rfl (opD_move oz) ?_
  replace h0 := bnd_some h0
  obtain ⟨x_1, hx_1, h0⟩ := h0
  refine rts _ rfl (callNN rfl ht22_U3 (fun s => c_oNew hx_1 s) ⟨le_of_eq lz, trivial⟩ (by first | exact List.length_nil | (simp only [List.length_cons, List.length_nil, Nat.zero_add, Nat.reduceAdd] <;> rfl)) (by simp only [znz] <;> rfl)) ?_
  refine rts _ rfl (opD_assign lz) ?_
  refine .nil ?_
  refine aw_keep [(2, _), (4, _)] ⟨lg (ls rfl (ls rfl (ls rfl (os rfl oz)))), lg lz, trivial⟩ ?_
  refine aw_seq ?_
  refine aw_region (by decide) ?_
  refine rts _ rfl (opD_move (os rfl oz)) ?_
  replace h0 := bnd_some h0
  obtain ⟨x_2, hx_2, h0⟩ := h0
  refine rts _ rfl (callLN rfl ht23_U3 (fun s g h => c_oRNum hx_2 h) rfl ⟨le_of_eq lz, le_of_eq (ev_const _ _), trivial⟩ (by simp only [znz] <;> rfl)) ?_
  refine rts _ rfl (opD_conv_int Tryd.underlying22 Tryd.underlying3 lz rfl) ?_
  refine rts _ rfl (opD_move (ls rfl (ls rfl (ls rfl (os rfl oz))))) ?_
  replace h0 := bnd_some h0
  obtain ⟨x_3, hx_3, h0⟩ := h0
  refine rts _ rfl (callLN rfl ht23_U3 (fun s g h => c_oRNum hx_3 h) rfl ⟨le_of_eq lz, le_of_eq (ev_const _ _), trivial⟩ (by simp only [znz] <;> rfl)) ?_
  refine rts _ rfl (opD_build_struct (rs := [_, _, _, _, _, _, _]) Tryd.underlying94 pt94_U3 zt94_U3 (parts_cons (cells1 (ls rfl (ls rfl lz)) (one_pl rfl)) (parts_cons (cells1 lz (one_pl rfl)) parts_nil)) rfl) ?_
  refine rts _ rfl (allocN rfl zt94_U3 (by first | exact List.length_nil | (simp only [List.length_cons, List.length_nil, Nat.zero_add, Nat.reduceAdd] <;> rfl)) (by simp only [znz] <;> rfl)) ?_
  refine rts _ rfl (storeAN rfl sz94_U3 lz (ls rfl lz) (ones_cons (one_pl rfl) (ones_cons (one_pl rfl) (ones_cons (one_pl rfl) (ones_cons (one_pl rfl) (ones_cons (one_pl rfl) (ones_cons (one_pl rfl) (ones_cons (one_pl rfl) ones_nil))))))) rfl rfl (zNb rfl) (List.cons_ne_nil _ _) (zbc zPb (zbc zPb (zbc zPb (zbc zPb (zbc zPb (zbc zPb (zbc zPb bnd_nil))))))) (by simp only [znz] <;> rfl) (by simp only [znz] <;> rfl)) ?_
  refine .nil ?_
  refine aw_keep [(2, _), (4, _), (5, _)] ⟨lg (lx (ls rfl (ls rfl (ls rfl (ls rfl (ls rfl (ls rfl (ls rfl oz)))))))), lg (lx (ls rfl (ls rfl (ls rfl (ls rfl (ls rfl (ls rfl (ls rfl (os rfl oz))))))))), lg (lx lz), trivial⟩ ?_
  refine aw_seq ?_
  refine aw_region (by decide) ?_
  refine rts _ rfl (opD_move (os rfl oz)) ?_
  replace h0 := bnd_some h0
  obtain ⟨x_4, hx_4, h0⟩ := h0
  refine rts _ rfl (callLN rfl ht25_U3 (fun s g h => c_oRByte hx_4 h) rfl ⟨le_of_eq lz, trivial⟩ (by simp only [znz] <;> rfl)) ?_
  refine rts _ rfl (opD_assign lz) ?_
  refine .nil ?_
  refine aw_keep [(2, _), (4, _), (5, _), (6, _)] ⟨lg (ls rfl (ls rfl (ls rfl oz))), lg (ls rfl (ls rfl (ls rfl (os rfl oz)))), lg (ls rfl (ls rfl (ls rfl (os rfl (os rfl oz))))), lg lz, trivial⟩ ?_
  refine aw_seq ?_
  refine aw_drawn [false, false, false, true, false, false, true, false, true] [[0, 1], [0, 1], [0], [0, 1], [1, 2], [0, 1], [1, 2], [2], [2, 3]] mixed_U3 (by decide +kernel) ?_
  refine dtp _ rfl (fun s => opD_move (os rfl (os rfl (os rfl oz)))) ?_
  refine dtp _ rfl (fun s => opD_eql lz (ev_const _ _)) ?_
  refine dtp _ rfl (fun s => opD_move (ls rfl (ls rfl (os rfl oz)))) ?_
  replace h0 := bnd_some h0
  obtain ⟨x_5, hx_5, h0⟩ := h0
  refine dta _ rfl (callLN rfl ht24_U3 (fun s g h => c_oRBytes hx_5 h) rfl ⟨le_of_eq lz, le_of_eq (ev_const _ _), trivial⟩ (by simp only [znz] <;> rfl)) ?_
  refine dtp _ rfl (fun s => opD_bytes_str Tryd.underlying23 Tryd.underlying5 Tryd.underlying9 lz) ?_
  refine dtp _ rfl (fun s => opD_fieldAddr fo94_2_U3 (ls rfl (ls rfl (ls rfl (ls rfl (ls rfl (os rfl (os rfl oz)))))))) ?_
  refine dta _ rfl (storeON rfl sz4_U3 lz (le_of_eq (ls rfl (ls rfl (ls rfl (ls rfl lz))))) (one_pl rfl) rfl (zNb rfl) zPb (by simp only [znz] <;> rfl) (by simp only [znz] <;> rfl)) ?_
  refine dtp _ rfl (fun s => opD_fieldAddr fo94_3_U3 (lx (ls rfl (ls rfl (ls rfl (ls rfl (ls rfl (ls rfl (os rfl (os rfl oz)))))))))) ?_
  refine dta _ rfl (storeON rfl sz9_U3 lz (le_of_eq (ls rfl (lx (ls rfl lz)))) (one_pl rfl) rfl (zNb rfl) zPb (by simp only [znz] <;> rfl) (by simp only [znz] <;> rfl)) ?_
  refine .nil ?_
  dsimp only [List.nil_append, List.cons_append]
  refine ⟨rfl, ⟨trivial, trivial, trivial, trivial, trivial, trivial, trivial, trivial, trivial, trivial⟩, ?_⟩
  refine aw_keep [(2, _), (4, _), (5, _), (6, _)] ⟨lg (lx (ls rfl (lx (ls rfl (ls rfl (ls rfl (ls rfl (ls rfl (ls rfl oz))))))))), lg (lx (ls rfl (lx (ls rfl (ls rfl (ls rfl (ls rfl (ls rfl (ls rfl (os rfl oz)))))))))), lg (lx (ls rfl (lx (ls rfl (ls rfl (ls rfl (ls rfl (ls rfl (ls rfl (os rfl (os rfl oz))))))))))), lg (lx (ls rfl (lx (ls rfl (ls rfl (ls rfl (ls rfl (ls rfl (ls rfl (os rfl (os rfl (os rfl oz)))))))))))), trivial⟩ ?_
  refine aw_seq ?_
  refine aw_seq ?_
  refine aw_region (by decide) ?_
  refine rts _ rfl (opD_move (os rfl oz)) ?_
  replace h0 := bnd_some h0
  obtain ⟨x_6, hx_6, h0⟩ := h0
  refine rts _ rfl (callLN rfl ht23_U3 (fun s g h => c_oRNum hx_6 h) rfl ⟨le_of_eq lz, le_of_eq (ev_const _ _), trivial⟩ (by simp only [znz] <;> rfl)) ?_
  refine rts _ rfl (opD_move (ev_const _ _)) ?_
  refine .nil ?_
  refine aw_keep [(2, _), (4, _), (5, _), (6, _), (25, _), (26, _)] ⟨lg (ls rfl (ls rfl (ls rfl oz))), lg (ls rfl (ls rfl (ls rfl (os rfl oz)))), lg (ls rfl (ls rfl (ls rfl (os rfl (os rfl oz))))), lg (ls rfl (ls rfl (ls rfl (os rfl (os rfl (os rfl oz)))))), lg (ls rfl lz), lg lz, trivial⟩ ?_
  replace h0 := bnd_some h0
  obtain ⟨z_7, hz_7, h0⟩ := h0
  refine aw_mid (fun e st => ∃ v : Rdr × (List Ent), Holds e [(2, ptr (s.boxes.length + 0) 0), (4, ptr (s.boxes.length + 1) 0), (5, ptr (s.boxes.length + 2) 0), (6, pl (.int .u8 x_4.1))] ∧ st = s.ext [⟨94, [pl (.int .i64 0), pl (.int .u64 0), pl (.bool false), pl (.string ⟨#[]⟩), pl (.slice none 0 0), pl (.slice none 0 0), pl (.slice none 0 0)]⟩, ⟨164, [sl (kI .u8) none none v.1.b_, pl (.bool v.1.wrong_)]⟩, ⟨94, [pl (.int .i64 (IntKind.i64.wrap (x_2.1))), pl (.int .u64 x_3.1), pl (.bool (decide (x_4.1 = 1))), pl (.string (strOf x_5.1)), sl kEnt none none v.2, pl (.slice none 0 0), pl (.slice none 0 0)]⟩] [] ∧ v = z_7) ?_ ?_
  · skip
    refine aw_wkN rfl 3 0 rfl rfl ?_
    refine aw_block ?_
    refine aw_fr ⟨109, 2, 0⟩ ?_
    refine aw_wkBN rfl (bs' := [⟨94, [pl (.int .i64 0), pl (.int .u64 0), pl (.bool false), pl (.string ⟨#[]⟩), pl (.slice none 0 0), pl (.slice none 0 0), pl (.slice none 0 0)]⟩, ⟨164, [sl (kI .u8) none none x_6.2.b_, pl (.bool x_6.2.wrong_)]⟩, ⟨94, [pl (.int .i64 (IntKind.i64.wrap (x_2.1))), pl (.int .u64 x_3.1), pl (.bool (decide (x_4.1 = 1))), pl (.string (strOf x_5.1)), sl kEnt (some (s.fr.length + 0)) none [], pl (.slice none 0 0), pl (.slice none 0 0)]⟩]) (bxle_same (bxle_same (bxle_cons (B := ⟨94, [_, _, _, _, _, _, _]⟩) (@Eq.refl TypeId 94) (lel_cons zLr (lel_cons zLr (lel_cons zLr (lel_cons zLr (lel_cons (nil_own rfl) (lel_cons zLr (lel_cons zLr lel_nil))))))) bxle_nil))) (bl_cons (zbc zPb (zbc zPb (zbc zPb (zbc zPb (zbc zPb (zbc zPb (zbc zPb bnd_nil))))))) (bl_cons (zbc (sl_b (kb_I _)) (zbc zPb bnd_nil)) (bl_cons (zbc zPb (zbc zPb (zbc zPb (zbc zPb (zbc (sl_ob kb_Ent (by first | omega | (simp only [List.length_append, List.length_cons, List.length_nil, ext_fr_length, upd_fr_length]; omega))) (zbc zPb (zbc zPb bnd_nil))))))) bl_nil))) ?_
    refine aw_loop (fun n e st => ∃ v : Int × Rdr × (List Ent), Holds e [(2, ptr (s.boxes.length + 0) 0), (4, ptr (s.boxes.length + 1) 0), (5, ptr (s.boxes.length + 2) 0), (6, pl (.int .u8 x_4.1)), (25, pl (.int .u64 x_6.1)), (26, pl (.int .u64 v.1))] ∧ st = s.ext [⟨94, [pl (.int .i64 0), pl (.int .u64 0), pl (.bool false), pl (.string ⟨#[]⟩), pl (.slice none 0 0), pl (.slice none 0 0), pl (.slice none 0 0)]⟩, ⟨164, [sl (kI .u8) none none v.2.1.b_, pl (.bool v.2.1.wrong_)]⟩, ⟨94, [pl (.int .i64 (IntKind.i64.wrap (x_2.1))), pl (.int .u64 x_3.1), pl (.bool (decide (x_4.1 = 1))), pl (.string (strOf x_5.1)), sl kEnt (some (s.fr.length + 0)) none v.2.2, pl (.slice none 0 0), pl (.slice none 0 0)]⟩] [⟨109, 2, v.2.2.length⟩] ∧ lp (F_rdec_b0 x_6) n v = some z_7) fl ⟨(0, x_6.2, ([] : (List Ent))), ⟨le_of_eq (eg oz), le_of_eq (eg (os rfl oz)), le_of_eq (eg (os rfl (os rfl oz))), le_of_eq (eg (os rfl (os rfl (os rfl oz)))), le_of_eq (eg (os rfl (os rfl (os rfl (os rfl oz))))), le_of_eq (eg (os rfl (os rfl (os rfl (os rfl (os rfl oz)))))), trivial⟩, rfl, hz_7⟩ ?_
    rintro n e st ⟨t_8, hH, rfl, hz_7⟩
    replace hz_7 := lp_some hz_7
    obtain ⟨m_z_9, z_9, rfl, hz_9, hz_7⟩ := hz_7
    unfold F_rdec_b0 at hz_9
    refine aw_keep _ hH ?_
    refine aw_wkN rfl 3 1 rfl rfl ?_
    refine aw_seq ?_
    refine aw_region (by decide) ?_
    refine rts _ rfl (opD_lss (os rfl (os rfl (os rfl (os rfl (os rfl oz))))) (os rfl (os rfl (os rfl (os rfl oz))))) ?_
    refine .nil ?_
    refine aw_keep [(2, _), (4, _), (5, _), (6, _), (25, _), (26, _), (27, _)] ⟨lg (ls rfl oz), lg (ls rfl (os rfl oz)), lg (ls rfl (os rfl (os rfl oz))), lg (ls rfl (os rfl (os rfl (os rfl oz)))), lg (ls rfl (os rfl (os rfl (os rfl (os rfl oz))))), lg (ls rfl (os rfl (os rfl (os rfl (os rfl (os rfl oz)))))), lg lz, trivial⟩ ?_
    refine aw_seq ?_
    refine aw_cond _ (os rfl (os rfl (os rfl (os rfl (os rfl (os rfl oz)))))) (fun hc => ?_) (fun hc => ?_)
    · skip
      replace hz_9 := ifb_t hz_9 hc
      clear hc
      refine aw_skip ?_
      refine aw_keep [(2, _), (4, _), (5, _), (6, _), (25, _), (26, _)] ⟨lg oz, lg (os rfl oz), lg (os rfl (os rfl oz)), lg (os rfl (os rfl (os rfl oz))), lg (os rfl (os rfl (os rfl (os rfl oz)))), lg (os rfl (os rfl (os rfl (os rfl (os rfl oz))))), trivial⟩ ?_
      refine aw_seq ?_
      refine aw_block ?_
      refine aw_drawn [false, false, false, true, false, false, true, false, false, false, true, false, true] [[0, 1, 2], [0, 1, 2], [0], [0, 1], [1, 2], [0, 1], [1, 2], [2], [2], [2], [2, 3], [3], [3, 4]] mixed_U3 (by decide +kernel) ?_
      refine dtp _ rfl (fun s => opD_fieldAddr fo94_4_U3 (os rfl (os rfl oz))) ?_
      refine dtlG1 ag91_U3 lz (loc_getN rfl rfl) rfl rfl ?_
      refine dtp _ rfl (fun s => opD_move (ls rfl (ls rfl (os rfl oz)))) ?_
      replace hz_9 := bnd_some hz_9
      obtain ⟨x_10, hx_10, hz_9⟩ := hz_9
      refine dta _ rfl (callLN rfl ht24_U3 (fun s g h => c_oRBytes hx_10 h) rfl ⟨le_of_eq lz, le_of_eq (ev_const _ _), trivial⟩ (by simp only [znz] <;> rfl)) ?_
      refine dtp _ rfl (fun s => opD_bytes_str Tryd.underlying23 Tryd.underlying5 Tryd.underlying9 lz) ?_
      refine dtp _ rfl (fun s => opD_move (ls rfl (ls rfl (ls rfl (ls rfl (ls rfl (os rfl oz))))))) ?_
      replace hz_9 := bnd_some hz_9
      obtain ⟨x_11, hx_11, hz_9⟩ := hz_9
      refine dta _ rfl (callLN rfl ht24_U3 (fun s g h => c_oRBytes hx_11 h) rfl ⟨le_of_eq lz, le_of_eq (ev_const _ _), trivial⟩ (by simp only [znz] <;> rfl)) ?_
      refine dtp _ rfl (fun s => opD_bytes_str Tryd.underlying23 Tryd.underlying5 Tryd.underlying9 lz) ?_
      refine dtp _ rfl (fun s => opD_build_struct (rs := [_, _]) Tryd.underlying109 pt109_U3 zt109_U3 (parts_cons (cells1 (ls rfl (ls rfl (ls rfl lz))) (one_pl rfl)) (parts_cons (cells1 lz (one_pl rfl)) parts_nil)) rfl) ?_
      refine dtp _ rfl (fun s => opD_buildSlice (k := kEnt) ([(⟨(strOf x_10.1), (strOf x_11.1)⟩ : Ent)] : (List Ent)) Tryd.underlying91 sz109_U3 zt109_U3 (by decide) rfl (parts_cons (cellsA lz) parts_nil) rfl rfl) ?_
      replace hz_9 := grd_some hz_9
      obtain ⟨hg_12, hz_9⟩ := hz_9
      refine dta _ rfl (opD_appendX Tryd.underlying91 el109_U3 (ls rfl (ls rfl (ls rfl (ls rfl (ls rfl (ls rfl (ls rfl (ls rfl lz)))))))) lz rfl hg_12.1 hg_12.2 rfl (by simp only [znz] <;> rfl)) ?_
      refine dtp _ rfl (fun s => opD_fieldAddr fo94_4_U3 (ls rfl (ls rfl (ls rfl (ls rfl (ls rfl (ls rfl (ls rfl (ls rfl (ls rfl (ls rfl (ls rfl (os rfl (os rfl oz)))))))))))))) ?_
      refine dta _ rfl (storeON rfl sz91_U3 lz (le_of_eq (ls rfl lz)) (one_sl _ _ _ _) rfl (zNb rfl) (sl_ob kb_Ent (by first | omega | (simp only [List.length_append, List.length_cons, List.length_nil, ext_fr_length, upd_fr_length]; omega))) (by simp only [znz] <;> rfl) (by simp only [znz] <;> rfl)) ?_
      refine .nil ?_
      dsimp only [List.nil_append, List.cons_append]
      refine ⟨rfl, ⟨trivial, ⟨(by first | exact loc_getN rfl rfl | exact updx_get hlt | exact upd2_g hgh hlt | exact upd2_h hlt2), (by first | exact loc_getN rfl rfl | exact updx_get hlt | exact upd2_g hgh hlt | exact upd2_h hlt2), (by first | exact loc_getN rfl rfl | exact updx_get hlt | exact upd2_g hgh hlt | exact upd2_h hlt2), trivial⟩, trivial, trivial, trivial, trivial, trivial, trivial, trivial, trivial, trivial, trivial, trivial, trivial⟩, ?_⟩
      refine aw_keep [(2, _), (4, _), (5, _), (6, _), (25, _), (26, _)] ⟨lg (lx (ls rfl (ls rfl (ls rfl (ls rfl (ls rfl (ls rfl (ls rfl (ls rfl (ls rfl (ls rfl (ls rfl (ls rfl oz))))))))))))), lg (lx (ls rfl (ls rfl (ls rfl (ls rfl (ls rfl (ls rfl (ls rfl (ls rfl (ls rfl (ls rfl (ls rfl (ls rfl (os rfl oz)))))))))))))), lg (lx (ls rfl (ls rfl (ls rfl (ls rfl (ls rfl (ls rfl (ls rfl (ls rfl (ls rfl (ls rfl (ls rfl (ls rfl (os rfl (os rfl oz))))))))))))))), lg (lx (ls rfl (ls rfl (ls rfl (ls rfl (ls rfl (ls rfl (ls rfl (ls rfl (ls rfl (ls rfl (ls rfl (ls rfl (os rfl (os rfl (os rfl oz)))))))))))))))), lg (lx (ls rfl (ls rfl (ls rfl (ls rfl (ls rfl (ls rfl (ls rfl (ls rfl (ls rfl (ls rfl (ls rfl (ls rfl (os rfl (os rfl (os rfl (os rfl oz))))))))))))))))), lg (lx (ls rfl (ls rfl (ls rfl (ls rfl (ls rfl (ls rfl (ls rfl (ls rfl (ls rfl (ls rfl (ls rfl (ls rfl (os rfl (os rfl (os rfl (os rfl (os rfl oz)))))))))))))))))), trivial⟩ ?_
      refine aw_region (by decide) ?_
      refine rts _ rfl (opD_add (os rfl (os rfl (os rfl (os rfl (os rfl oz))))) (ev_const _ _) rfl) ?_
      refine rts _ rfl (opD_move lz) ?_
      refine .nil ?_
      obtain rfl := some_of hz_9
      replace hz_7 := ocs_l hz_7
      refine wk_yesN rfl (l := [(2, ptr (s.boxes.length + 0) 0), (4, ptr (s.boxes.length + 1) 0), (5, ptr (s.boxes.length + 2) 0), (6, pl (.int .u8 x_4.1)), (25, pl (.int .u64 x_6.1)), (26, pl (.int .u64 (IntKind.u64.wrap (t_8.1 + 1))))]) (bs' := [⟨94, [pl (.int .i64 0), pl (.int .u64 0), pl (.bool false), pl (.string ⟨#[]⟩), pl (.slice none 0 0), pl (.slice none 0 0), pl (.slice none 0 0)]⟩, ⟨164, [sl (kI .u8) none none x_11.2.b_, pl (.bool x_11.2.wrong_)]⟩, ⟨94, [pl (.int .i64 (IntKind.i64.wrap (x_2.1))), pl (.int .u64 x_3.1), pl (.bool (decide (x_4.1 = 1))), pl (.string (strOf x_5.1)), sl kEnt (some (s.fr.length + 0)) none (t_8.2.2 ++ ([(⟨(strOf x_10.1), (strOf x_11.1)⟩ : Ent)] : (List Ent))), pl (.slice none 0 0), pl (.slice none 0 0)]⟩]) ⟨le_of_eq (eg (ls rfl (ls rfl oz))), le_of_eq (eg (ls rfl (ls rfl (os rfl oz)))), le_of_eq (eg (ls rfl (ls rfl (os rfl (os rfl oz))))), le_of_eq (eg (ls rfl (ls rfl (os rfl (os rfl (os rfl oz)))))), le_of_eq (eg (ls rfl (ls rfl (os rfl (os rfl (os rfl (os rfl oz))))))), le_of_eq (eg lz), trivial⟩ (zbc (ptr_bnd _ (by first | omega | (simp only [List.length_append, List.length_cons, List.length_nil]; omega))) (zbc (ptr_bnd _ (by first | omega | (simp only [List.length_append, List.length_cons, List.length_nil]; omega))) (zbc (ptr_bnd _ (by first | omega | (simp only [List.length_append, List.length_cons, List.length_nil]; omega))) (zbc zPb (zbc zPb (zbc zPb bnd_nil)))))) (zNb rfl) (by simp only [znz] <;> rfl) (bxle_same (bxle_same (bxle_same bxle_nil))) rfl (by simp only [znz] <;> rfl) (bl_cons (zbc zPb (zbc zPb (zbc zPb (zbc zPb (zbc zPb (zbc zPb (zbc zPb bnd_nil))))))) (bl_cons (zbc (sl_b (kb_I _)) (zbc zPb bnd_nil)) (bl_cons (zbc zPb (zbc zPb (zbc zPb (zbc zPb (zbc (sl_ob kb_Ent (by first | omega | (simp only [List.length_append, List.length_cons, List.length_nil, ext_fr_length, upd_fr_length]; omega))) (zbc zPb (zbc zPb bnd_nil))))))) bl_nil))) ?_
      exact ⟨m_z_9, Nat.lt_succ_self _, (IntKind.u64.wrap (t_8.1 + 1), x_11.2, (t_8.2.2 ++ ([(⟨(strOf x_10.1), (strOf x_11.1)⟩ : Ent)] : (List Ent)))), ⟨le_of_eq (eg oz), le_of_eq (eg (os rfl oz)), le_of_eq (eg (os rfl (os rfl oz))), le_of_eq (eg (os rfl (os rfl (os rfl oz)))), le_of_eq (eg (os rfl (os rfl (os rfl (os rfl oz))))), le_of_eq (eg (os rfl (os rfl (os rfl (os rfl (os rfl oz)))))), trivial⟩, rfl, hz_7⟩
    · skip
      replace hz_9 := ifb_f hz_9 hc
      clear hc
      refine aw_exit ?_
      obtain rfl := some_of hz_9
      replace hz_7 := ocs_r hz_7
      refine wk_no ?_
      refine wk_yesN rfl (l := [(2, ptr (s.boxes.length + 0) 0), (4, ptr (s.boxes.length + 1) 0), (5, ptr (s.boxes.length + 2) 0), (6, pl (.int .u8 x_4.1))]) (bs' := [⟨94, [pl (.int .i64 0), pl (.int .u64 0), pl (.bool false), pl (.string ⟨#[]⟩), pl (.slice none 0 0), pl (.slice none 0 0), pl (.slice none 0 0)]⟩, ⟨164, [sl (kI .u8) none none t_8.2.1.b_, pl (.bool t_8.2.1.wrong_)]⟩, ⟨94, [pl (.int .i64 (IntKind.i64.wrap (x_2.1))), pl (.int .u64 x_3.1), pl (.bool (decide (x_4.1 = 1))), pl (.string (strOf x_5.1)), sl kEnt none none t_8.2.2, pl (.slice none 0 0), pl (.slice none 0 0)]⟩]) ⟨le_of_eq (eg oz), le_of_eq (eg (os rfl oz)), le_of_eq (eg (os rfl (os rfl oz))), le_of_eq (eg (os rfl (os rfl (os rfl oz)))), trivial⟩ (zbc (ptr_bnd _ (by first | omega | (simp only [List.length_append, List.length_cons, List.length_nil]; omega))) (zbc (ptr_bnd _ (by first | omega | (simp only [List.length_append, List.length_cons, List.length_nil]; omega))) (zbc (ptr_bnd _ (by first | omega | (simp only [List.length_append, List.length_cons, List.length_nil]; omega))) (zbc zPb bnd_nil)))) (zNb rfl) (by simp only [znz] <;> rfl) (bxle_same (bxle_same (bxle_cons (B := ⟨94, [_, _, _, _, _, _, _]⟩) (@Eq.refl TypeId 94) (lel_cons zLr (lel_cons zLr (lel_cons zLr (lel_cons zLr (lel_cons (sl_le _ (some (s.fr.length + 0)) none _) (lel_cons zLr (lel_cons zLr lel_nil))))))) bxle_nil))) rfl (by simp only [znz] <;> rfl) (bl_cons (zbc zPb (zbc zPb (zbc zPb (zbc zPb (zbc zPb (zbc zPb (zbc zPb bnd_nil))))))) (bl_cons (zbc (sl_b (kb_I _)) (zbc zPb bnd_nil)) (bl_cons (zbc zPb (zbc zPb (zbc zPb (zbc zPb (zbc (sl_b kb_Ent) (zbc zPb (zbc zPb bnd_nil))))))) bl_nil))) ?_
      exact ⟨(t_8.2.1, t_8.2.2), ⟨le_of_eq (eg oz), le_of_eq (eg (os rfl oz)), le_of_eq (eg (os rfl (os rfl oz))), le_of_eq (eg (os rfl (os rfl (os rfl oz)))), trivial⟩, rfl, some_of hz_7⟩
  · rintro e st ⟨vz_7, hH, rfl, rfl⟩
    refine aw_keep _ hH ?_
    refine aw_keep [(2, _), (4, _), (5, _), (6, _)] ⟨lg oz, lg (os rfl oz), lg (os rfl (os rfl oz)), lg (os rfl (os rfl (os rfl oz))), trivial⟩ ?_
    refine aw_seq ?_
    refine aw_seq ?_
    refine aw_region (by decide) ?_
    refine rts _ rfl (opD_move (os rfl oz)) ?_
    replace h0 := bnd_some h0
    obtain ⟨x_12, hx_12, h0⟩ := h0
    refine rts _ rfl (callLN rfl ht23_U3 (fun s g h => c_oRNum hx_12 h) rfl ⟨le_of_eq lz, le_of_eq (ev_const _ _), trivial⟩ (by simp only [znz] <;> rfl)) ?_
    refine rts _ rfl (opD_move (ev_const _ _)) ?_
    refine .nil ?_
    refine aw_keep [(2, _), (4, _), (5, _), (6, _), (42, _), (43, _)] ⟨lg (ls rfl (ls rfl (ls rfl oz))), lg (ls rfl (ls rfl (ls rfl (os rfl oz)))), lg (ls rfl (ls rfl (ls rfl (os rfl (os rfl oz))))), lg (ls rfl (ls rfl (ls rfl (os rfl (os rfl (os rfl oz)))))), lg (ls rfl lz), lg lz, trivial⟩ ?_
    replace h0 := bnd_some h0
    obtain ⟨z_13, hz_13, h0⟩ := h0
    refine aw_mid (fun e st => ∃ v : Rdr × (List Rf), Holds e [(2, ptr (s.boxes.length + 0) 0), (4, ptr (s.boxes.length + 1) 0), (5, ptr (s.boxes.length + 2) 0), (6, pl (.int .u8 x_4.1))] ∧ st = s.ext [⟨94, [pl (.int .i64 0), pl (.int .u64 0), pl (.bool false), pl (.string ⟨#[]⟩), pl (.slice none 0 0), pl (.slice none 0 0), pl (.slice none 0 0)]⟩, ⟨164, [sl (kI .u8) none none v.1.b_, pl (.bool v.1.wrong_)]⟩, ⟨94, [pl (.int .i64 (IntKind.i64.wrap (x_2.1))), pl (.int .u64 x_3.1), pl (.bool (decide (x_4.1 = 1))), pl (.string (strOf x_5.1)), sl kEnt none none vz_7.2, sl kRf none none v.2, pl (.slice none 0 0)]⟩] [] ∧ v = z_13) ?_ ?_
    · skip
      refine aw_wkN rfl 3 0 rfl rfl ?_
      refine aw_block ?_
      refine aw_fr ⟨116, 2, 0⟩ ?_
      refine aw_wkBN rfl (bs' := [⟨94, [pl (.int .i64 0), pl (.int .u64 0), pl (.bool false), pl (.string ⟨#[]⟩), pl (.slice none 0 0), pl (.slice none 0 0), pl (.slice none 0 0)]⟩, ⟨164, [sl (kI .u8) none none x_12.2.b_, pl (.bool x_12.2.wrong_)]⟩, ⟨94, [pl (.int .i64 (IntKind.i64.wrap (x_2.1))), pl (.int .u64 x_3.1), pl (.bool (decide (x_4.1 = 1))), pl (.string (strOf x_5.1)), sl kEnt none none vz_7.2, sl kRf (some (s.fr.length + 0)) none [], pl (.slice none 0 0)]⟩]) (bxle_same (bxle_same (bxle_cons (B := ⟨94, [_, _, _, _, _, _, _]⟩) (@Eq.refl TypeId 94) (lel_cons zLr (lel_cons zLr (lel_cons zLr (lel_cons zLr (lel_cons zLr (lel_cons (nil_own rfl) (lel_cons zLr lel_nil))))))) bxle_nil))) (bl_cons (zbc zPb (zbc zPb (zbc zPb (zbc zPb (zbc zPb (zbc zPb (zbc zPb bnd_nil))))))) (bl_cons (zbc (sl_b (kb_I _)) (zbc zPb bnd_nil)) (bl_cons (zbc zPb (zbc zPb (zbc zPb (zbc zPb (zbc (sl_b kb_Ent) (zbc (sl_ob kb_Rf (by first | omega | (simp only [List.length_append, List.length_cons, List.length_nil, ext_fr_length, upd_fr_length]; omega))) (zbc zPb bnd_nil))))))) bl_nil))) ?_
      refine aw_loop (fun n e st => ∃ v : Int × Rdr × (List Rf), Holds e [(2, ptr (s.boxes.length + 0) 0), (4, ptr (s.boxes.length + 1) 0), (5, ptr (s.boxes.length + 2) 0), (6, pl (.int .u8 x_4.1)), (42, pl (.int .u64 x_12.1)), (43, pl (.int .u64 v.1))] ∧ st = s.ext [⟨94, [pl (.int .i64 0), pl (.int .u64 0), pl (.bool false), pl (.string ⟨#[]⟩), pl (.slice none 0 0), pl (.slice none 0 0), pl (.slice none 0 0)]⟩, ⟨164, [sl (kI .u8) none none v.2.1.b_, pl (.bool v.2.1.wrong_)]⟩, ⟨94, [pl (.int .i64 (IntKind.i64.wrap (x_2.1))), pl (.int .u64 x_3.1), pl (.bool (decide (x_4.1 = 1))), pl (.string (strOf x_5.1)), sl kEnt none none vz_7.2, sl kRf (some (s.fr.length + 0)) none v.2.2, pl (.slice none 0 0)]⟩] [⟨116, 2, v.2.2.length⟩] ∧ lp (F_rdec_b1 x_12) n v = some z_13) fl ⟨(0, x_12.2, ([] : (List Rf))), ⟨le_of_eq (eg oz), le_of_eq (eg (os rfl oz)), le_of_eq (eg (os rfl (os rfl oz))), le_of_eq (eg (os rfl (os rfl (os rfl oz)))), le_of_eq (eg (os rfl (os rfl (os rfl (os rfl oz))))), le_of_eq (eg (os rfl (os rfl (os rfl (os rfl (os rfl oz)))))), trivial⟩, rfl, hz_13⟩ ?_
      rintro n e st ⟨t_14, hH, rfl, hz_13⟩
      replace hz_13 := lp_some hz_13
      obtain ⟨m_z_15, z_15, rfl, hz_15, hz_13⟩ := hz_13
      unfold F_rdec_b1 at hz_15
      refine aw_keep _ hH ?_
      refine aw_wkN rfl 3 1 rfl rfl ?_
      refine aw_seq ?_
      refine aw_region (by decide) ?_
      refine rts _ rfl (opD_lss (os rfl (os rfl (os rfl (os rfl (os rfl oz))))) (os rfl (os rfl (os rfl (os rfl oz))))) ?_
      refine .nil ?_
      refine aw_keep [(2, _), (4, _), (5, _), (6, _), (42, _), (43, _), (44, _)] ⟨lg (ls rfl oz), lg (ls rfl (os rfl oz)), lg (ls rfl (os rfl (os rfl oz))), lg (ls rfl (os rfl (os rfl (os rfl oz)))), lg (ls rfl (os rfl (os rfl (os rfl (os rfl oz))))), lg (ls rfl (os rfl (os rfl (os rfl (os rfl (os rfl oz)))))), lg lz, trivial⟩ ?_
      refine aw_seq ?_
      refine aw_cond _ (os rfl (os rfl (os rfl (os rfl (os rfl (os rfl oz)))))) (fun hc => ?_) (fun hc => ?_)
      · skip
        replace hz_15 := ifb_t hz_15 hc
        clear hc
        refine aw_skip ?_
        refine aw_keep [(2, _), (4, _), (5, _), (6, _), (42, _), (43, _)] ⟨lg oz, lg (os rfl oz), lg (os rfl (os rfl oz)), lg (os rfl (os rfl (os rfl oz))), lg (os rfl (os rfl (os rfl (os rfl oz)))), lg (os rfl (os rfl (os rfl (os rfl (os rfl oz))))), trivial⟩ ?_
        refine aw_seq ?_
        refine aw_block ?_
        refine aw_drawn [false, false, false, true, false, false, true, false, false, true, false, true] [[0, 1, 2], [0, 1, 2], [0], [0, 1], [1, 2], [0, 1], [1, 2], [2], [2], [2, 3], [3], [3, 4]] mixed_U3 (by decide +kernel) ?_
        refine dtp _ rfl (fun s => opD_fieldAddr fo94_5_U3 (os rfl (os rfl oz))) ?_
        refine dtlG1 ag92_U3 lz (loc_getN rfl rfl) rfl rfl ?_
        refine dtp _ rfl (fun s => opD_move (ls rfl (ls rfl (os rfl oz)))) ?_
        replace hz_15 := bnd_some hz_15
        obtain ⟨x_16, hx_16, hz_15⟩ := hz_15
        refine dta _ rfl (callLN rfl ht25_U3 (fun s g h => c_oRByte hx_16 h) rfl ⟨le_of_eq lz, trivial⟩ (by simp only [znz] <;> rfl)) ?_
        refine dtp _ rfl (fun s => opD_conv_int Tryd.underlying5 Tryd.underlying3 lz rfl) ?_
        refine dtp _ rfl (fun s => opD_move (ls rfl (ls rfl (ls rfl (ls rfl (ls rfl (os rfl oz))))))) ?_
        replace hz_15 := bnd_some hz_15
        obtain ⟨x_17, hx_17, hz_15⟩ := hz_15
        refine dta _ rfl (callLN rfl ht23_U3 (fun s g h => c_oRNum hx_17 h) rfl ⟨le_of_eq lz, le_of_eq (ev_const _ _), trivial⟩ (by simp only [znz] <;> rfl)) ?_
        refine dtp _ rfl (fun s => opD_build_struct (rs := [_, _]) Tryd.underlying116 pt116_U3 zt116_U3 (parts_cons (cells1 (ls rfl (ls rfl lz)) (one_pl rfl)) (parts_cons (cells1 lz (one_pl rfl)) parts_nil)) rfl) ?_
        refine dtp _ rfl (fun s => opD_buildSlice (k := kRf) ([(⟨IntKind.i64.wrap (x_16.1), x_17.1⟩ : Rf)] : (List Rf)) Tryd.underlying92 sz116_U3 zt116_U3 (by decide) rfl (parts_cons (cellsA lz) parts_nil) rfl rfl) ?_
        replace hz_15 := grd_some hz_15
        obtain ⟨hg_24, hz_15⟩ := hz_15
        refine dta _ rfl (opD_appendX Tryd.underlying92 el116_U3 (ls rfl (ls rfl (ls rfl (ls rfl (ls rfl (ls rfl (ls rfl lz))))))) lz rfl hg_24.1 hg_24.2 rfl (by simp only [znz] <;> rfl)) ?_
        refine dtp _ rfl (fun s => opD_fieldAddr fo94_5_U3 (ls rfl (ls rfl (ls rfl (ls rfl (ls rfl (ls rfl (ls rfl (ls rfl (ls rfl (ls rfl (os rfl (os rfl oz))))))))))))) ?_
        refine dta _ rfl (storeON rfl sz92_U3 lz (le_of_eq (ls rfl lz)) (one_sl _ _ _ _) rfl (zNb rfl) (sl_ob kb_Rf (by first | omega | (simp only [List.length_append, List.length_cons, List.length_nil, ext_fr_length, upd_fr_length]; omega))) (by simp only [znz] <;> rfl) (by simp only [znz] <;> rfl)) ?_
        refine .nil ?_
        dsimp only [List.nil_append, List.cons_append]
        refine ⟨rfl, ⟨trivial, ⟨(by first | exact loc_getN rfl rfl | exact updx_get hlt | exact upd2_g hgh hlt | exact upd2_h hlt2), (by first | exact loc_getN rfl rfl | exact updx_get hlt | exact upd2_g hgh hlt | exact upd2_h hlt2), (by first | exact loc_getN rfl rfl | exact updx_get hlt | exact upd2_g hgh hlt | exact upd2_h hlt2), trivial⟩, trivial, trivial, trivial, trivial, trivial, trivial, trivial, trivial, trivial, trivial, trivial⟩, ?_⟩
        refine aw_keep [(2, _), (4, _), (5, _), (6, _), (42, _), (43, _)] ⟨lg (lx (ls rfl (ls rfl (ls rfl (ls rfl (ls rfl (ls rfl (ls rfl (ls rfl (ls rfl (ls rfl (ls rfl oz)))))))))))), lg (lx (ls rfl (ls rfl (ls rfl (ls rfl (ls rfl (ls rfl (ls rfl (ls rfl (ls rfl (ls rfl (ls rfl (os rfl oz))))))))))))), lg (lx (ls rfl (ls rfl (ls rfl (ls rfl (ls rfl (ls rfl (ls rfl (ls rfl (ls rfl (ls rfl (ls rfl (os rfl (os rfl oz)))))))))))))), lg (lx (ls rfl (ls rfl (ls rfl (ls rfl (ls rfl (ls rfl (ls rfl (ls rfl (ls rfl (ls rfl (ls rfl (os rfl (os rfl (os rfl oz))))))))))))))), lg (lx (ls rfl (ls rfl (ls rfl (ls rfl (ls rfl (ls rfl (ls rfl (ls rfl (ls rfl (ls rfl (ls rfl (os rfl (os rfl (os rfl (os rfl oz)))))))))))))))), lg (lx (ls rfl (ls rfl (ls rfl (ls rfl (ls rfl (ls rfl (ls rfl (ls rfl (ls rfl (ls rfl (ls rfl (os rfl (os rfl (os rfl (os rfl (os rfl oz))))))))))))))))), trivial⟩ ?_
        refine aw_region (by decide) ?_
        refine rts _ rfl (opD_add (os rfl (os rfl (os rfl (os rfl (os rfl oz))))) (ev_const _ _) rfl) ?_
        refine rts _ rfl (opD_move lz) ?_
        refine .nil ?_
        obtain rfl := some_of hz_15
        replace hz_13 := ocs_l hz_13
        refine wk_yesN rfl (l := [(2, ptr (s.boxes.length + 0) 0), (4, ptr (s.boxes.length + 1) 0), (5, ptr (s.boxes.length + 2) 0), (6, pl (.int .u8 x_4.1)), (42, pl (.int .u64 x_12.1)), (43, pl (.int .u64 (IntKind.u64.wrap (t_14.1 + 1))))]) (bs' := [⟨94, [pl (.int .i64 0), pl (.int .u64 0), pl (.bool false), pl (.string ⟨#[]⟩), pl (.slice none 0 0), pl (.slice none 0 0), pl (.slice none 0 0)]⟩, ⟨164, [sl (kI .u8) none none x_17.2.b_, pl (.bool x_17.2.wrong_)]⟩, ⟨94, [pl (.int .i64 (IntKind.i64.wrap (x_2.1))), pl (.int .u64 x_3.1), pl (.bool (decide (x_4.1 = 1))), pl (.string (strOf x_5.1)), sl kEnt none none vz_7.2, sl kRf (some (s.fr.length + 0)) none (t_14.2.2 ++ ([(⟨IntKind.i64.wrap (x_16.1), x_17.1⟩ : Rf)] : (List Rf))), pl (.slice none 0 0)]⟩]) ⟨le_of_eq (eg (ls rfl (ls rfl oz))), le_of_eq (eg (ls rfl (ls rfl (os rfl oz)))), le_of_eq (eg (ls rfl (ls rfl (os rfl (os rfl oz))))), le_of_eq (eg (ls rfl (ls rfl (os rfl (os rfl (os rfl oz)))))), le_of_eq (eg (ls rfl (ls rfl (os rfl (os rfl (os rfl (os rfl oz))))))), le_of_eq (eg lz), trivial⟩ (zbc (ptr_bnd _ (by first | omega | (simp only [List.length_append, List.length_cons, List.length_nil]; omega))) (zbc (ptr_bnd _ (by first | omega | (simp only [List.length_append, List.length_cons, List.length_nil]; omega))) (zbc (ptr_bnd _ (by first | omega | (simp only [List.length_append, List.length_cons, List.length_nil]; omega))) (zbc zPb (zbc zPb (zbc zPb bnd_nil)))))) (zNb rfl) (by simp only [znz] <;> rfl) (bxle_same (bxle_same (bxle_same bxle_nil))) rfl (by simp only [znz] <;> rfl) (bl_cons (zbc zPb (zbc zPb (zbc zPb (zbc zPb (zbc zPb (zbc zPb (zbc zPb bnd_nil))))))) (bl_cons (zbc (sl_b (kb_I _)) (zbc zPb bnd_nil)) (bl_cons (zbc zPb (zbc zPb (zbc zPb (zbc zPb (zbc (sl_b kb_Ent) (zbc (sl_ob kb_Rf (by first | omega | (simp only [List.length_append, List.length_cons, List.length_nil, ext_fr_length, upd_fr_length]; omega))) (zbc zPb bnd_nil))))))) bl_nil))) ?_
        exact ⟨m_z_15, Nat.lt_succ_self _, (IntKind.u64.wrap (t_14.1 + 1), x_17.2, (t_14.2.2 ++ ([(⟨IntKind.i64.wrap (x_16.1), x_17.1⟩ : Rf)] : (List Rf)))), ⟨le_of_eq (eg oz), le_of_eq (eg (os rfl oz)), le_of_eq (eg (os rfl (os rfl oz))), le_of_eq (eg (os rfl (os rfl (os rfl oz)))), le_of_eq (eg (os rfl (os rfl (os rfl (os rfl oz))))), le_of_eq (eg (os rfl (os rfl (os rfl (os rfl (os rfl oz)))))), trivial⟩, rfl, hz_13⟩
      · skip
        replace hz_15 := ifb_f hz_15 hc
        clear hc
        refine aw_exit ?_
        obtain rfl := some_of hz_15
        replace hz_13 := ocs_r hz_13
        refine wk_no ?_
        refine wk_yesN rfl (l := [(2, ptr (s.boxes.length + 0) 0), (4, ptr (s.boxes.length + 1) 0), (5, ptr (s.boxes.length + 2) 0), (6, pl (.int .u8 x_4.1))]) (bs' := [⟨94, [pl (.int .i64 0), pl (.int .u64 0), pl (.bool false), pl (.string ⟨#[]⟩), pl (.slice none 0 0), pl (.slice none 0 0), pl (.slice none 0 0)]⟩, ⟨164, [sl (kI .u8) none none t_14.2.1.b_, pl (.bool t_14.2.1.wrong_)]⟩, ⟨94, [pl (.int .i64 (IntKind.i64.wrap (x_2.1))), pl (.int .u64 x_3.1), pl (.bool (decide (x_4.1 = 1))), pl (.string (strOf x_5.1)), sl kEnt none none vz_7.2, sl kRf none none t_14.2.2, pl (.slice none 0 0)]⟩]) ⟨le_of_eq (eg oz), le_of_eq (eg (os rfl oz)), le_of_eq (eg (os rfl (os rfl oz))), le_of_eq (eg (os rfl (os rfl (os rfl oz)))), trivial⟩ (zbc (ptr_bnd _ (by first | omega | (simp only [List.length_append, List.length_cons, List.length_nil]; omega))) (zbc (ptr_bnd _ (by first | omega | (simp only [List.length_append, List.length_cons, List.length_nil]; omega))) (zbc (ptr_bnd _ (by first | omega | (simp only [List.length_append, List.length_cons, List.length_nil]; omega))) (zbc zPb bnd_nil)))) (zNb rfl) (by simp only [znz] <;> rfl) (bxle_same (bxle_same (bxle_cons (B := ⟨94, [_, _, _, _, _, _, _]⟩) (@Eq.refl TypeId 94) (lel_cons zLr (lel_cons zLr (lel_cons zLr (lel_cons zLr (lel_cons zLr (lel_cons (sl_le _ (some (s.fr.length + 0)) none _) (lel_cons zLr lel_nil))))))) bxle_nil))) rfl (by simp only [znz] <;> rfl) (bl_cons (zbc zPb (zbc zPb (zbc zPb (zbc zPb (zbc zPb (zbc zPb (zbc zPb bnd_nil))))))) (bl_cons (zbc (sl_b (kb_I _)) (zbc zPb bnd_nil)) (bl_cons (zbc zPb (zbc zPb (zbc zPb (zbc zPb (zbc (sl_b kb_Ent) (zbc (sl_b kb_Rf) (zbc zPb bnd_nil))))))) bl_nil))) ?_
        exact ⟨(t_14.2.1, t_14.2.2), ⟨le_of_eq (eg oz), le_of_eq (eg (os rfl oz)), le_of_eq (eg (os rfl (os rfl oz))), le_of_eq (eg (os rfl (os rfl (os rfl oz)))), trivial⟩, rfl, some_of hz_13⟩
    · rintro e st ⟨vz_13, hH, rfl, rfl⟩
      refine aw_keep _ hH ?_
      refine aw_keep [(2, _), (4, _), (5, _), (6, _)] ⟨lg oz, lg (os rfl oz), lg (os rfl (os rfl oz)), lg (os rfl (os rfl (os rfl oz))), trivial⟩ ?_
      refine aw_seq ?_
      refine aw_seq ?_
      refine aw_region (by decide) ?_
      refine rts _ rfl (opD_move (os rfl oz)) ?_
      replace h0 := bnd_some h0
      obtain ⟨x_18, hx_18, h0⟩ := h0
      refine rts _ rfl (callLN rfl ht23_U3 (fun s g h => c_oRNum hx_18 h) rfl ⟨le_of_eq lz, le_of_eq (ev_const _ _), trivial⟩ (by simp only [znz] <;> rfl)) ?_
      refine rts _ rfl (opD_move (ev_const _ _)) ?_
      refine .nil ?_
      refine aw_keep [(2, _), (4, _), (5, _), (6, _), (58, _), (59, _)] ⟨lg (ls rfl (ls rfl (ls rfl oz))), lg (ls rfl (ls rfl (ls rfl (os rfl oz)))), lg (ls rfl (ls rfl (ls rfl (os rfl (os rfl oz))))), lg (ls rfl (ls rfl (ls rfl (os rfl (os rfl (os rfl oz)))))), lg (ls rfl lz), lg lz, trivial⟩ ?_
      replace h0 := bnd_some h0
      obtain ⟨z_19, hz_19, h0⟩ := h0
      refine aw_mid (fun e st => ∃ v : Rdr × (List Lin), Holds e [(2, ptr (s.boxes.length + 0) 0), (4, ptr (s.boxes.length + 1) 0), (5, ptr (s.boxes.length + 2) 0), (6, pl (.int .u8 x_4.1))] ∧ st = s.ext [⟨94, [pl (.int .i64 0), pl (.int .u64 0), pl (.bool false), pl (.string ⟨#[]⟩), pl (.slice none 0 0), pl (.slice none 0 0), pl (.slice none 0 0)]⟩, ⟨164, [sl (kI .u8) none none v.1.b_, pl (.bool v.1.wrong_)]⟩, ⟨94, [pl (.int .i64 (IntKind.i64.wrap (x_2.1))), pl (.int .u64 x_3.1), pl (.bool (decide (x_4.1 = 1))), pl (.string (strOf x_5.1)), sl kEnt none none vz_7.2, sl kRf none none vz_13.2, sl kLin none none v.2]⟩] [] ∧ v = z_19) ?_ ?_
      · skip
        refine aw_wkN rfl 3 0 rfl rfl ?_
        refine aw_block ?_
        refine aw_fr ⟨63, 5, 0⟩ ?_
        refine aw_wkBN rfl (bs' := [⟨94, [pl (.int .i64 0), pl (.int .u64 0), pl (.bool false), pl (.string ⟨#[]⟩), pl (.slice none 0 0), pl (.slice none 0 0), pl (.slice none 0 0)]⟩, ⟨164, [sl (kI .u8) none none x_18.2.b_, pl (.bool x_18.2.wrong_)]⟩, ⟨94, [pl (.int .i64 (IntKind.i64.wrap (x_2.1))), pl (.int .u64 x_3.1), pl (.bool (decide (x_4.1 = 1))), pl (.string (strOf x_5.1)), sl kEnt none none vz_7.2, sl kRf none none vz_13.2, sl kLin (some (s.fr.length + 0)) none []]⟩]) (bxle_same (bxle_same (bxle_cons (B := ⟨94, [_, _, _, _, _, _, _]⟩) (@Eq.refl TypeId 94) (lel_cons zLr (lel_cons zLr (lel_cons zLr (lel_cons zLr (lel_cons zLr (lel_cons zLr (lel_cons (nil_own rfl) lel_nil))))))) bxle_nil))) (bl_cons (zbc zPb (zbc zPb (zbc zPb (zbc zPb (zbc zPb (zbc zPb (zbc zPb bnd_nil))))))) (bl_cons (zbc (sl_b (kb_I _)) (zbc zPb bnd_nil)) (bl_cons (zbc zPb (zbc zPb (zbc zPb (zbc zPb (zbc (sl_b kb_Ent) (zbc (sl_b kb_Rf) (zbc (sl_ob kb_Lin (by first | omega | (simp only [List.length_append, List.length_cons, List.length_nil, ext_fr_length, upd_fr_length]; omega))) bnd_nil))))))) bl_nil))) ?_
        refine aw_loop (fun n e st => ∃ v : Int × Rdr × (List Lin), Holds e [(2, ptr (s.boxes.length + 0) 0), (4, ptr (s.boxes.length + 1) 0), (5, ptr (s.boxes.length + 2) 0), (6, pl (.int .u8 x_4.1)), (58, pl (.int .u64 x_18.1)), (59, pl (.int .u64 v.1))] ∧ st = s.ext [⟨94, [pl (.int .i64 0), pl (.int .u64 0), pl (.bool false), pl (.string ⟨#[]⟩), pl (.slice none 0 0), pl (.slice none 0 0), pl (.slice none 0 0)]⟩, ⟨164, [sl (kI .u8) none none v.2.1.b_, pl (.bool v.2.1.wrong_)]⟩, ⟨94, [pl (.int .i64 (IntKind.i64.wrap (x_2.1))), pl (.int .u64 x_3.1), pl (.bool (decide (x_4.1 = 1))), pl (.string (strOf x_5.1)), sl kEnt none none vz_7.2, sl kRf none none vz_13.2, sl kLin (some (s.fr.length + 0)) none v.2.2]⟩] [⟨63, 5, v.2.2.length⟩] ∧ lp (F_rdec_b2 x_18) n v = some z_19) fl ⟨(0, x_18.2, ([] : (List Lin))), ⟨le_of_eq (eg oz), le_of_eq (eg (os rfl oz)), le_of_eq (eg (os rfl (os rfl oz))), le_of_eq (eg (os rfl (os rfl (os rfl oz)))), le_of_eq (eg (os rfl (os rfl (os rfl (os rfl oz))))), le_of_eq (eg (os rfl (os rfl (os rfl (os rfl (os rfl oz)))))), trivial⟩, rfl, hz_19⟩ ?_
        rintro n e st ⟨t_20, hH, rfl, hz_19⟩
        replace hz_19 := lp_some hz_19
        obtain ⟨m_z_21, z_21, rfl, hz_21, hz_19⟩ := hz_19
        unfold F_rdec_b2 at hz_21
        refine aw_keep _ hH ?_
        refine aw_wkN rfl 3 1 rfl rfl ?_
        refine aw_seq ?_
        refine aw_region (by decide) ?_
        refine rts _ rfl (opD_lss (os rfl (os rfl (os rfl (os rfl (os rfl oz))))) (os rfl (os rfl (os rfl (os rfl oz))))) ?_
        refine .nil ?_
        refine aw_keep [(2, _), (4, _), (5, _), (6, _), (58, _), (59, _), (60, _)] ⟨lg (ls rfl oz), lg (ls rfl (os rfl oz)), lg (ls rfl (os rfl (os rfl oz))), lg (ls rfl (os rfl (os rfl (os rfl oz)))), lg (ls rfl (os rfl (os rfl (os rfl (os rfl oz))))), lg (ls rfl (os rfl (os rfl (os rfl (os rfl (os rfl oz)))))), lg lz, trivial⟩ ?_
        refine aw_seq ?_
        refine aw_cond _ (os rfl (os rfl (os rfl (os rfl (os rfl (os rfl oz)))))) (fun hc => ?_) (fun hc => ?_)
        · skip
          replace hz_21 := ifb_t hz_21 hc
          clear hc
          refine aw_skip ?_
          refine aw_keep [(2, _), (4, _), (5, _), (6, _), (58, _), (59, _)] ⟨lg oz, lg (os rfl oz), lg (os rfl (os rfl oz)), lg (os rfl (os rfl (os rfl oz))), lg (os rfl (os rfl (os rfl (os rfl oz)))), lg (os rfl (os rfl (os rfl (os rfl (os rfl oz))))), trivial⟩ ?_
          refine aw_seq ?_
          refine aw_block ?_
          refine aw_drawn [false, false, false, true, false, true, false, true] [[0, 1], [0, 1], [0], [0, 1], [1], [1, 2], [2], [2, 3]] mixed_U3 (by decide +kernel) ?_
          refine dtp _ rfl (fun s => opD_fieldAddr fo94_6_U3 (os rfl (os rfl oz))) ?_
          refine dtlG1 ag55_U3 lz (loc_getN rfl rfl) rfl rfl ?_
          refine dtp _ rfl (fun s => opD_move (ls rfl (ls rfl (os rfl oz)))) ?_
          replace hz_21 := bnd_some hz_21
          obtain ⟨x_22, hx_22, hz_21⟩ := hz_21
          refine dta _ rfl (callLN rfl ht98_U3 (fun s g h => c_rline hx_22 h) rfl ⟨le_of_eq lz, trivial⟩ (by simp only [znz] <;> rfl)) ?_
          refine dtp _ rfl (fun s => opD_buildSlice (k := kLin) ([x_22.1] : (List Lin)) Tryd.underlying55 sz63_U3 zt63_U3 (by decide) rfl (parts_cons (cellsA lz) parts_nil) rfl rfl) ?_
          replace hz_21 := grd_some hz_21
          obtain ⟨hg_36, hz_21⟩ := hz_21
          refine dta _ rfl (opD_appendX Tryd.underlying55 el63_U3 (ls rfl (ls rfl (ls rfl lz))) lz rfl hg_36.1 hg_36.2 rfl (by simp only [znz] <;> rfl)) ?_
          refine dtp _ rfl (fun s => opD_fieldAddr fo94_6_U3 (ls rfl (ls rfl (ls rfl (ls rfl (ls rfl (ls rfl (os rfl (os rfl oz))))))))) ?_
          refine dta _ rfl (storeON rfl sz55_U3 lz (le_of_eq (ls rfl lz)) (one_sl _ _ _ _) rfl (zNb rfl) (sl_ob kb_Lin (by first | omega | (simp only [List.length_append, List.length_cons, List.length_nil, ext_fr_length, upd_fr_length]; omega))) (by simp only [znz] <;> rfl) (by simp only [znz] <;> rfl)) ?_
          refine .nil ?_
          dsimp only [List.nil_append, List.cons_append]
          refine ⟨rfl, ⟨trivial, ⟨(by first | exact loc_getN rfl rfl | exact updx_get hlt | exact upd2_g hgh hlt | exact upd2_h hlt2), (by first | exact loc_getN rfl rfl | exact updx_get hlt | exact upd2_g hgh hlt | exact upd2_h hlt2), trivial⟩, trivial, trivial, trivial, trivial, trivial, trivial, trivial⟩, ?_⟩
          refine aw_keep [(2, _), (4, _), (5, _), (6, _), (58, _), (59, _)] ⟨lg (lx (ls rfl (ls rfl (ls rfl (ls rfl (ls rfl (ls rfl (ls rfl oz)))))))), lg (lx (ls rfl (ls rfl (ls rfl (ls rfl (ls rfl (ls rfl (ls rfl (os rfl oz))))))))), lg (lx (ls rfl (ls rfl (ls rfl (ls rfl (ls rfl (ls rfl (ls rfl (os rfl (os rfl oz)))))))))), lg (lx (ls rfl (ls rfl (ls rfl (ls rfl (ls rfl (ls rfl (ls rfl (os rfl (os rfl (os rfl oz))))))))))), lg (lx (ls rfl (ls rfl (ls rfl (ls rfl (ls rfl (ls rfl (ls rfl (os rfl (os rfl (os rfl (os rfl oz)))))))))))), lg (lx (ls rfl (ls rfl (ls rfl (ls rfl (ls rfl (ls rfl (ls rfl (os rfl (os rfl (os rfl (os rfl (os rfl oz))))))))))))), trivial⟩ ?_
          refine aw_region (by decide) ?_
          refine rts _ rfl (opD_add (os rfl (os rfl (os rfl (os rfl (os rfl oz))))) (ev_const _ _) rfl) ?_
          refine rts _ rfl (opD_move lz) ?_
          refine .nil ?_
          obtain rfl := some_of hz_21
          replace hz_19 := ocs_l hz_19
          refine wk_yesN rfl (l := [(2, ptr (s.boxes.length + 0) 0), (4, ptr (s.boxes.length + 1) 0), (5, ptr (s.boxes.length + 2) 0), (6, pl (.int .u8 x_4.1)), (58, pl (.int .u64 x_18.1)), (59, pl (.int .u64 (IntKind.u64.wrap (t_20.1 + 1))))]) (bs' := [⟨94, [pl (.int .i64 0), pl (.int .u64 0), pl (.bool false), pl (.string ⟨#[]⟩), pl (.slice none 0 0), pl (.slice none 0 0), pl (.slice none 0 0)]⟩, ⟨164, [sl (kI .u8) none none x_22.2.b_, pl (.bool x_22.2.wrong_)]⟩, ⟨94, [pl (.int .i64 (IntKind.i64.wrap (x_2.1))), pl (.int .u64 x_3.1), pl (.bool (decide (x_4.1 = 1))), pl (.string (strOf x_5.1)), sl kEnt none none vz_7.2, sl kRf none none vz_13.2, sl kLin (some (s.fr.length + 0)) none (t_20.2.2 ++ ([x_22.1] : (List Lin)))]⟩]) ⟨le_of_eq (eg (ls rfl (ls rfl oz))), le_of_eq (eg (ls rfl (ls rfl (os rfl oz)))), le_of_eq (eg (ls rfl (ls rfl (os rfl (os rfl oz))))), le_of_eq (eg (ls rfl (ls rfl (os rfl (os rfl (os rfl oz)))))), le_of_eq (eg (ls rfl (ls rfl (os rfl (os rfl (os rfl (os rfl oz))))))), le_of_eq (eg lz), trivial⟩ (zbc (ptr_bnd _ (by first | omega | (simp only [List.length_append, List.length_cons, List.length_nil]; omega))) (zbc (ptr_bnd _ (by first | omega | (simp only [List.length_append, List.length_cons, List.length_nil]; omega))) (zbc (ptr_bnd _ (by first | omega | (simp only [List.length_append, List.length_cons, List.length_nil]; omega))) (zbc zPb (zbc zPb (zbc zPb bnd_nil)))))) (zNb rfl) (by simp only [znz] <;> rfl) (bxle_same (bxle_same (bxle_same bxle_nil))) rfl (by simp only [znz] <;> rfl) (bl_cons (zbc zPb (zbc zPb (zbc zPb (zbc zPb (zbc zPb (zbc zPb (zbc zPb bnd_nil))))))) (bl_cons (zbc (sl_b (kb_I _)) (zbc zPb bnd_nil)) (bl_cons (zbc zPb (zbc zPb (zbc zPb (zbc zPb (zbc (sl_b kb_Ent) (zbc (sl_b kb_Rf) (zbc (sl_ob kb_Lin (by first | omega | (simp only [List.length_append, List.length_cons, List.length_nil, ext_fr_length, upd_fr_length]; omega))) bnd_nil))))))) bl_nil))) ?_
          exact ⟨m_z_21, Nat.lt_succ_self _, (IntKind.u64.wrap (t_20.1 + 1), x_22.2, (t_20.2.2 ++ ([x_22.1] : (List Lin)))), ⟨le_of_eq (eg oz), le_of_eq (eg (os rfl oz)), le_of_eq (eg (os rfl (os rfl oz))), le_of_eq (eg (os rfl (os rfl (os rfl oz)))), le_of_eq (eg (os rfl (os rfl (os rfl (os rfl oz))))), le_of_eq (eg (os rfl (os rfl (os rfl (os rfl (os rfl oz)))))), trivial⟩, rfl, hz_19⟩
        · skip
          replace hz_21 := ifb_f hz_21 hc
          clear hc
          refine aw_exit ?_
          obtain rfl := some_of hz_21
          replace hz_19 := ocs_r hz_19
          refine wk_no ?_
          refine wk_yesN rfl (l := [(2, ptr (s.boxes.length + 0) 0), (4, ptr (s.boxes.length + 1) 0), (5, ptr (s.boxes.length + 2) 0), (6, pl (.int .u8 x_4.1))]) (bs' := [⟨94, [pl (.int .i64 0), pl (.int .u64 0), pl (.bool false), pl (.string ⟨#[]⟩), pl (.slice none 0 0), pl (.slice none 0 0), pl (.slice none 0 0)]⟩, ⟨164, [sl (kI .u8) none none t_20.2.1.b_, pl (.bool t_20.2.1.wrong_)]⟩, ⟨94, [pl (.int .i64 (IntKind.i64.wrap (x_2.1))), pl (.int .u64 x_3.1), pl (.bool (decide (x_4.1 = 1))), pl (.string (strOf x_5.1)), sl kEnt none none vz_7.2, sl kRf none none vz_13.2, sl kLin none none t_20.2.2]⟩]) ⟨le_of_eq (eg oz), le_of_eq (eg (os rfl oz)), le_of_eq (eg (os rfl (os rfl oz))), le_of_eq (eg (os rfl (os rfl (os rfl oz)))), trivial⟩ (zbc (ptr_bnd _ (by first | omega | (simp only [List.length_append, List.length_cons, List.length_nil]; omega))) (zbc (ptr_bnd _ (by first | omega | (simp only [List.length_append, List.length_cons, List.length_nil]; omega))) (zbc (ptr_bnd _ (by first | omega | (simp only [List.length_append, List.length_cons, List.length_nil]; omega))) (zbc zPb bnd_nil)))) (zNb rfl) (by simp only [znz] <;> rfl) (bxle_same (bxle_same (bxle_cons (B := ⟨94, [_, _, _, _, _, _, _]⟩) (@Eq.refl TypeId 94) (lel_cons zLr (lel_cons zLr (lel_cons zLr (lel_cons zLr (lel_cons zLr (lel_cons zLr (lel_cons (sl_le _ (some (s.fr.length + 0)) none _) lel_nil))))))) bxle_nil))) rfl (by simp only [znz] <;> rfl) (bl_cons (zbc zPb (zbc zPb (zbc zPb (zbc zPb (zbc zPb (zbc zPb (zbc zPb bnd_nil))))))) (bl_cons (zbc (sl_b (kb_I _)) (zbc zPb bnd_nil)) (bl_cons (zbc zPb (zbc zPb (zbc zPb (zbc zPb (zbc (sl_b kb_Ent) (zbc (sl_b kb_Rf) (zbc (sl_b kb_Lin) bnd_nil))))))) bl_nil))) ?_
          exact ⟨(t_20.2.1, t_20.2.2), ⟨le_of_eq (eg oz), le_of_eq (eg (os rfl oz)), le_of_eq (eg (os rfl (os rfl oz))), le_of_eq (eg (os rfl (os rfl (os rfl oz)))), trivial⟩, rfl, some_of hz_19⟩
      · rintro e st ⟨vz_19, hH, rfl, rfl⟩
        refine aw_keep _ hH ?_
        refine aw_keep [(2, _), (4, _), (5, _), (6, _)] ⟨lg oz, lg (os rfl oz), lg (os rfl (os rfl oz)), lg (os rfl (os rfl (os rfl oz))), trivial⟩ ?_
        refine aw_seq ?_
        refine aw_seq ?_
        refine aw_region (by decide) ?_
        refine rts _ rfl (opD_move (os rfl (os rfl (os rfl oz)))) ?_
        refine rts _ rfl (opD_gtr lz (ev_const _ _)) ?_
        refine rts _ rfl (opD_move lz) ?_
        refine rtg _ rfl lz (fun hg17_3_37 => opD_move (ls rfl (ls rfl (ls rfl (os rfl oz))))) ?_
        replace h0 := bnd_some h0
        obtain ⟨x_23, hx_23, h0⟩ := h0
        refine rtg _ rfl (ls rfl lz) (fun hg17_4_38 => opD_call ht26_U3 (c_oRDone (gif_some hx_23 hg17_4_38) (loc_getN rfl rfl)) ⟨le_of_eq (lz.trans (pif_pos hg17_4_38)), trivial⟩) ?_
        refine rtg _ rfl (ls rfl (ls rfl lz)) (fun hg17_5_39 => opD_bin (lz.trans (pif_pos hg17_5_39)) (ev_const _ _) (fun w => errV_guard _ w _) (fun w => errV_beq _ w)) ?_
        refine rts _ rfl (opD_or (ls rfl (ls rfl (ls rfl lz))) lz) ?_
        refine rts _ rfl (opD_move lz) ?_
        refine rtg _ rfl lz (fun hg17_8_40 => opD_load_aggX (qs := [_, _, _, _, _, _, _]) ag94_U3 sz94_U3 (ls rfl (ls rfl (ls rfl (ls rfl (ls rfl (ls rfl (ls rfl (ls rfl (os rfl (os rfl oz)))))))))) (loc_getN rfl rfl) (zNb rfl) rfl) ?_
        replace h0 := bnd_some h0
        obtain ⟨x_24, hx_24, h0⟩ := h0
        refine rtg _ rfl (ls rfl lz) (fun hg17_9_41 => opD_pure ht58_U3 (c_rcheck (gif_some hx_24 hg17_9_41)) ⟨(le_of_eq (lz.trans (pif_pos hg17_9_41))).trans (agg_le ⟨zLr, zLr, zLr, zLr, zLr, zLr, zLr, trivial⟩), trivial⟩) ?_
        refine rtg _ rfl (ls rfl (ls rfl lz)) (fun hg17_10_42 => opD_bin (lz.trans (pif_pos hg17_10_42)) (ev_const _ _) (fun w => errV_guard _ w _) (fun w => errV_beq _ w)) ?_
        refine rts _ rfl (opD_or (ls rfl (ls rfl (ls rfl lz))) lz) ?_
        refine .nil ?_
        refine aw_keep [(2, _), (5, _), (80, _)] ⟨lg (ls rfl (ls rfl (ls rfl (ls rfl (ls rfl (ls rfl (ls rfl (ls rfl (ls rfl (ls rfl (ls rfl (ls rfl oz)))))))))))), lg (ls rfl (ls rfl (ls rfl (ls rfl (ls rfl (ls rfl (ls rfl (ls rfl (ls rfl (ls rfl (ls rfl (ls rfl (os rfl (os rfl oz)))))))))))))), lg lz, trivial⟩ ?_
        refine aw_cond _ (os rfl (os rfl oz)) (fun hc => ?_) (fun hc => ?_)
        · skip
          replace h0 := ifb_t h0 hc
          clear hc
          refine aw_seq ?_
          refine aw_region (by decide) ?_
          refine rts _ rfl (opD_build_struct (rs := [_, _, _, _, _, _, _]) Tryd.underlying94 pt94_U3 zt94_U3 parts_nil rfl) ?_
          refine rts _ rfl (opD_ple (q := pl (errV (some 3))) rfl (opD_makeInterface_pl cc107_U3 (ev_const _ _))) ?_
          refine rts _ rfl (storeAN rfl sz94_U3 (ls rfl (ls rfl oz)) (ls rfl lz) (ones_cons (one_pl rfl) (ones_cons (one_pl rfl) (ones_cons (one_pl rfl) (ones_cons (one_pl rfl) (ones_cons (one_pl rfl) (ones_cons (one_pl rfl) (ones_cons (one_pl rfl) ones_nil))))))) rfl rfl (zNb rfl) (List.cons_ne_nil _ _) (zbc zPb (zbc zPb (zbc zPb (zbc zPb (zbc zPb (zbc zPb (zbc zPb bnd_nil))))))) (by simp only [znz] <;> rfl) (by simp only [znz] <;> rfl)) ?_
          refine rts _ rfl (opD_assign (lx lz)) ?_
          refine .nil ?_
          refine aw_keep [(2, _), (3, _)] ⟨lg (ls rfl (lx (ls rfl (ls rfl oz)))), lg lz, trivial⟩ ?_
          refine aw_ret ?_
          obtain rfl := some_of h0
          exact done_ext (.inr rfl) ((res_list (rs := [_, _]) (ps := [_, _]) rfl rfl ⟨it_cellA (B := ⟨94, [_, _, _, _, _, _, _]⟩) ag94_U3 sz94_U3 oz (loc_getN rfl rfl) rfl, it_tmp (os rfl oz), trivial⟩).le (tup_le ⟨(agg_le ⟨zLr, zLr, zLr, zLr, (le_nil rfl), (le_nil rfl), (le_nil rfl), trivial⟩), zLr, trivial⟩)) (tup_bnd (zbc (agg_bnd (zbc zPb (zbc zPb (zbc zPb (zbc zPb (zbc (sl_b kb_Ent) (zbc (sl_b kb_Rf) (zbc (sl_b kb_Lin) bnd_nil)))))))) (zbc zPb bnd_nil)))
        · skip
          replace h0 := ifb_f h0 hc
          clear hc
          refine aw_skip ?_
          refine aw_keep [(2, _), (5, _)] ⟨lg oz, lg (os rfl oz), trivial⟩ ?_
          refine aw_seq ?_
          refine aw_region (by decide) ?_
          refine rts _ rfl (opD_load_aggX (qs := [_, _, _, _, _, _, _]) ag94_U3 sz94_U3 (os rfl oz) (loc_getN rfl rfl) (zNb rfl) rfl) ?_
          refine rts _ rfl (storeAN rfl sz94_U3 (ls rfl oz) lz (ones_cons (one_pl rfl) (ones_cons (one_pl rfl) (ones_cons (one_pl rfl) (ones_cons (one_pl rfl) (ones_cons (one_sl _ _ _ _) (ones_cons (one_sl _ _ _ _) (ones_cons (one_sl _ _ _ _) ones_nil))))))) rfl rfl (zNb rfl) (List.cons_ne_nil _ _) (zbc zPb (zbc zPb (zbc zPb (zbc zPb (zbc (sl_b kb_Ent) (zbc (sl_b kb_Rf) (zbc (sl_b kb_Lin) bnd_nil))))))) (by simp only [znz] <;> rfl) (by simp only [znz] <;> rfl)) ?_
          refine rts _ rfl (opD_assign (ev_const _ _)) ?_
          refine .nil ?_
          refine aw_keep [(2, _), (3, _)] ⟨lg (ls rfl (lx (ls rfl oz))), lg lz, trivial⟩ ?_
          refine aw_ret ?_
          obtain rfl := some_of h0
          exact done_ext (.inr rfl) ((res_list (rs := [_, _]) (ps := [_, _]) rfl rfl ⟨it_cellA (B := ⟨94, [_, _, _, _, _, _, _]⟩) ag94_U3 sz94_U3 oz (loc_getN rfl rfl) rfl, it_tmp (os rfl oz), trivial⟩).le (tup_le ⟨(agg_le ⟨zLr, zLr, zLr, zLr, zLr, zLr, zLr, trivial⟩), zLr, trivial⟩)) (tup_bnd (zbc (agg_bnd (zbc zPb (zbc zPb (zbc zPb (zbc zPb (zbc (sl_b kb_Ent) (zbc (sl_b kb_Rf) (zbc (sl_b kb_Lin) bnd_nil)))))))) (zbc zPb bnd_nil)))
end Go.Proofs.YtmnhfpcbfdgbcaaDoor.Eng.A
