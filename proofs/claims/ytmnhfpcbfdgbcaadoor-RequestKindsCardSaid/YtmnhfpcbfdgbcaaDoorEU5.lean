/- EU5: what functions do, walked; used by the laws of this seat. -/
import Derived.Test.YtmnhfpcbfdgbcaaDoorEU4
import Derived.Test.YtmnhfpcbfdgbcaaDoorEX5
namespace Go.Proofs.YtmnhfpcbfdgbcaaDoor.Eng.A
set_option linter.unusedVariables false
set_option linter.unusedSimpArgs false
open Go.RowKit Go.Proofs.YtmnhfpcbfdgbcaaDoor.Plain Go.Proofs.YtmnhfpcbfdgbcaaDoor.Eng Go.Proofs.YtmnhfpcbfdgbcaaDoor.Eng.Pk Go.Proofs.YtmnhfpcbfdgbcaaDoor.Eng.Rd

theorem ag114_U7 : aggT Go.Proofs.Tryd.prog 114 = some true := by kernel_rfl
theorem sz114_U7 : sizeT Go.Proofs.Tryd.prog 114 = some 11 := by kernel_rfl
theorem ht64_U7 : hasText Go.Proofs.Tryd.prog 64 = true := by kernel_rfl
theorem zt118_U7 : zeroT Go.Proofs.Tryd.prog 118 = some [.int .u8 0, .int .u64 0, .int .u64 0, .int .i64 0, .int .u64 0, .int .u64 0, .string ⟨#[]⟩, .string ⟨#[]⟩, .int .u8 0, .int .u64 0, .bool false] := by kernel_rfl
theorem sz118_U7 : sizeT Go.Proofs.Tryd.prog 118 = some 11 := by kernel_rfl
theorem mixed_U7 : Go.Proofs.Tryd.prog.follows .mixedOrders = true := by kernel_rfl
theorem fo114_5_U7 : fieldOff Go.Proofs.Tryd.prog 114 5 = some 6 := by kernel_rfl
theorem ag9_U7 : aggT Go.Proofs.Tryd.prog 9 = some false := by kernel_rfl
theorem fo114_6_U7 : fieldOff Go.Proofs.Tryd.prog 114 6 = some 7 := by kernel_rfl
theorem ht62_U7 : hasText Go.Proofs.Tryd.prog 62 = true := by kernel_rfl
theorem ag118_U7 : aggT Go.Proofs.Tryd.prog 118 = some true := by kernel_rfl
theorem ht63_U7 : hasText Go.Proofs.Tryd.prog 63 = true := by kernel_rfl
theorem ht71_U7 : hasText Go.Proofs.Tryd.prog 71 = true := by kernel_rfl
theorem ht66_U7 : hasText Go.Proofs.Tryd.prog 66 = true := by kernel_rfl
theorem sz5_U7 : sizeT Go.Proofs.Tryd.prog 5 = some 1 := by kernel_rfl
theorem zt5_U7 : zeroT Go.Proofs.Tryd.prog 5 = some [.int .u8 0] := by kernel_rfl
theorem el5_U7 : elT Go.Proofs.Tryd.prog 5 = some (1, 1) := by kernel_rfl
theorem ht68_U7 : hasText Go.Proofs.Tryd.prog 68 = true := by kernel_rfl

open Go.Proofs.YtmnhfpcbfdgbcaaDoor.Eng.Er Go.Proofs.YtmnhfpcbfdgbcaaDoor.Eng.Er2

def F_qBack (fl : Nat) (p0 : Rq) (p1 : Rq) (p2 : Int) : Option (Bool) :=
  bnd (F_qgive p0) fun x_1 => bnd (F_qgive p1) fun x_2 => ifb ((((decide (100 < (p0.Key.size : Int))) || (decide (3000 < (p0.Value.size : Int)))) || (decide (100 < (p1.Key.size : Int)))) || (decide (3000 < (p1.Value.size : Int)))) (bnd (F_sure35 fl) fun x_3 => some x_3) (bnd (F_qenc fl x_1) fun x_4 => bnd (F_qenc fl x_2) fun x_5 => ifb x_4.2.isSome (bnd (F_qcheck fl x_1) fun x_6 => bnd (gif (x_6.isSome == true) (F_sure35 fl)) fun x_7 => some (x_6.isSome && x_7)) (bnd (F_qdec fl x_4.1) fun x_8 => grd ((if (x_4.1.length : Int) > 1 then (x_4.1.length : Int) else 1) ≠ 0) <| grd (UpTo ((IntKind.i64.wrap (p2)).tmod (if (x_4.1.length : Int) > 1 then (x_4.1.length : Int) else 1)) x_4.1.length) <| bnd (F_qdec fl (x_4.1.take ((IntKind.i64.wrap (p2)).tmod (if (x_4.1.length : Int) > 1 then (x_4.1.length : Int) else 1)).toNat)) fun x_9 => grd (Fits 1 (([] : (List Int)).length + x_4.1.length)) <| grd (Fits 1 (x_4.1.length + ([0] : (List Int)).length)) <| bnd (F_qdec fl (x_4.1 ++ ([0] : (List Int)))) fun x_10 => bnd (gif ((x_8.2.isNone && (decide (x_8.1.Kind = x_1.Kind) && (decide (x_8.1.Space = x_1.Space) && (decide (x_8.1.Handle = x_1.Handle) && (decide (x_8.1.Ref.Slot = x_1.Ref.Slot) && (decide (x_8.1.Ref.Gen = x_1.Ref.Gen) && (decide (x_8.1.To = x_1.To) && (decide (x_8.1.Key = x_1.Key) && (decide (x_8.1.Value = x_1.Value) && (decide (x_8.1.Rights = x_1.Rights) && (decide (x_8.1.Most = x_1.Most) && (decide (x_8.1.Flag = x_1.Flag) && true)))))))))))) == true) (oNumE x_9.2)) fun x_11 => bnd (gif (((x_8.2.isNone && (decide (x_8.1.Kind = x_1.Kind) && (decide (x_8.1.Space = x_1.Space) && (decide (x_8.1.Handle = x_1.Handle) && (decide (x_8.1.Ref.Slot = x_1.Ref.Slot) && (decide (x_8.1.Ref.Gen = x_1.Ref.Gen) && (decide (x_8.1.To = x_1.To) && (decide (x_8.1.Key = x_1.Key) && (decide (x_8.1.Value = x_1.Value) && (decide (x_8.1.Rights = x_1.Rights) && (decide (x_8.1.Most = x_1.Most) && (decide (x_8.1.Flag = x_1.Flag) && true)))))))))))) && (decide (x_11 = 3))) == true) (oNumE x_10.2)) fun x_12 => bnd (gif (((((x_8.2.isNone && (decide (x_8.1.Kind = x_1.Kind) && (decide (x_8.1.Space = x_1.Space) && (decide (x_8.1.Handle = x_1.Handle) && (decide (x_8.1.Ref.Slot = x_1.Ref.Slot) && (decide (x_8.1.Ref.Gen = x_1.Ref.Gen) && (decide (x_8.1.To = x_1.To) && (decide (x_8.1.Key = x_1.Key) && (decide (x_8.1.Value = x_1.Value) && (decide (x_8.1.Rights = x_1.Rights) && (decide (x_8.1.Most = x_1.Most) && (decide (x_8.1.Flag = x_1.Flag) && true)))))))))))) && (decide (x_11 = 3))) && (decide (x_12 = 3))) && (x_5.2.isSome || ((decide ((strOf x_4.1) = (strOf x_5.1))) == (decide (x_1.Kind = x_2.Kind) && (decide (x_1.Space = x_2.Space) && (decide (x_1.Handle = x_2.Handle) && (decide (x_1.Ref.Slot = x_2.Ref.Slot) && (decide (x_1.Ref.Gen = x_2.Ref.Gen) && (decide (x_1.To = x_2.To) && (decide (x_1.Key = x_2.Key) && (decide (x_1.Value = x_2.Value) && (decide (x_1.Rights = x_2.Rights) && (decide (x_1.Most = x_2.Most) && (decide (x_1.Flag = x_2.Flag) && true)))))))))))))) == true) (F_sure35 fl)) fun x_13 => some (((((x_8.2.isNone && (decide (x_8.1.Kind = x_1.Kind) && (decide (x_8.1.Space = x_1.Space) && (decide (x_8.1.Handle = x_1.Handle) && (decide (x_8.1.Ref.Slot = x_1.Ref.Slot) && (decide (x_8.1.Ref.Gen = x_1.Ref.Gen) && (decide (x_8.1.To = x_1.To) && (decide (x_8.1.Key = x_1.Key) && (decide (x_8.1.Value = x_1.Value) && (decide (x_8.1.Rights = x_1.Rights) && (decide (x_8.1.Most = x_1.Most) && (decide (x_8.1.Flag = x_1.Flag) && true)))))))))))) && (decide (x_11 = 3))) && (decide (x_12 = 3))) && (x_5.2.isSome || ((decide ((strOf x_4.1) = (strOf x_5.1))) == (decide (x_1.Kind = x_2.Kind) && (decide (x_1.Space = x_2.Space) && (decide (x_1.Handle = x_2.Handle) && (decide (x_1.Ref.Slot = x_2.Ref.Slot) && (decide (x_1.Ref.Gen = x_2.Ref.Gen) && (decide (x_1.To = x_2.To) && (decide (x_1.Key = x_2.Key) && (decide (x_1.Value = x_2.Value) && (decide (x_1.Rights = x_2.Rights) && (decide (x_1.Most = x_2.Most) && (decide (x_1.Flag = x_2.Flag) && true)))))))))))))) && x_13)))
set_option maxRecDepth 100000 in
set_option maxHeartbeats 2000000 in
theorem c_qBack {fl : Nat} {p0 : Rq} {p1 : Rq} {p2 : Int} {R : Bool} {s : St} (h0 : F_qBack fl p0 p1 p2 = some R) (hst : StGV s) : AC Go.Proofs.Tryd.prog 13 [agg [pl (.int .u8 p0.Kind), pl (.int .u64 p0.Space), pl (.int .u64 p0.Handle), pl (.int .i64 p0.Ref.Slot), pl (.int .u64 p0.Ref.Gen), pl (.int .u64 p0.To), pl (.string p0.Key), pl (.string p0.Value), pl (.int .u8 p0.Rights), pl (.int .u64 p0.Most), pl (.bool p0.Flag)], agg [pl (.int .u8 p1.Kind), pl (.int .u64 p1.Space), pl (.int .u64 p1.Handle), pl (.int .i64 p1.Ref.Slot), pl (.int .u64 p1.Ref.Gen), pl (.int .u64 p1.To), pl (.string p1.Key), pl (.string p1.Value), pl (.int .u8 p1.Rights), pl (.int .u64 p1.Most), pl (.bool p1.Flag)], pl (.int .u16 p2)] s (pl (.bool R)) s := by
  unfold F_qBack at h0
  refine ac_of_aw s.boxes.length s.fr.length Go.Proofs.Tryd.func13 rfl (by simp [Go.Proofs.Tryd.ntmps13]) ?_
  refine aw_ext0 ?_
  refine aw_keep [(0, _), (1, _), (2, _)] ⟨lg ez, lg (es ez), lg (es (es ez)), trivial⟩ ?_
  refine aw_seq ?_
  refine aw_region (by decide) ?_
  refine rts _ rfl (boxAN rfl oz (bnd_cons (pl_bnd _ _ _) (bnd_cons (pl_bnd _ _ _) (bnd_cons (pl_bnd _ _ _) (bnd_cons (pl_bnd _ _ _) (bnd_cons (pl_bnd _ _ _) (bnd_cons (pl_bnd _ _ _) (bnd_cons (pl_bnd _ _ _) (bnd_cons (pl_bnd _ _ _) (bnd_cons (pl_bnd _ _ _) (bnd_cons (pl_bnd _ _ _) (bnd_cons (pl_bnd _ _ _) bnd_nil))))))))))) (by first | exact List.length_nil | (simp only [List.length_cons, List.length_nil, Nat.zero_add, Nat.reduceAdd] <;> rfl)) (by simp only [na, nb, nc, nd, nf, ng, nh, ni, nj, nk] <;> rfl)) ?_
  refine rts _ rfl (boxAN rfl (ls rfl (os rfl oz)) (bnd_cons (pl_bnd _ _ _) (bnd_cons (pl_bnd _ _ _) (bnd_cons (pl_bnd _ _ _) (bnd_cons (pl_bnd _ _ _) (bnd_cons (pl_bnd _ _ _) (bnd_cons (pl_bnd _ _ _) (bnd_cons (pl_bnd _ _ _) (bnd_cons (pl_bnd _ _ _) (bnd_cons (pl_bnd _ _ _) (bnd_cons (pl_bnd _ _ _) (bnd_cons (pl_bnd _ _ _) bnd_nil))))))))))) (by first | exact List.length_nil | (simp only [List.length_cons, List.length_nil, Nat.zero_add, Nat.reduceAdd] <;> rfl)) (by simp only [na, nb, nc, nd, nf, ng, nh, ni, nj, nk] <;> rfl)) ?_
  refine rts _ rfl (opD_assign (ev_const _ _)) ?_
  refine .nil ?_
  refine aw_keep [(2, _), (3, _), (4, _)] ⟨lg (ls rfl (ls rfl (ls rfl (os rfl (os rfl oz))))), lg (ls rfl (ls rfl lz)), lg (ls rfl lz), trivial⟩ ?_
  refine aw_seq ?_
  replace h0 := bnd_some h0
  obtain ⟨x_1, hx_1, h0⟩ := h0
  replace h0 := bnd_some h0
  obtain ⟨x_2, hx_2, h0⟩ := h0
  refine aw_mid (fun e st => (Holds e [(2, pl (.int .u16 p2)), (3, ptr (s.boxes.length + 0) 0), (4, ptr (s.boxes.length + 1) 0), (7, ptr (s.boxes.length + 2) 0), (8, ptr (s.boxes.length + 3) 0)] ∧ st = s.ext [⟨114, [pl (.int .u8 p0.Kind), pl (.int .u64 p0.Space), pl (.int .u64 p0.Handle), pl (.int .i64 p0.Ref.Slot), pl (.int .u64 p0.Ref.Gen), pl (.int .u64 p0.To), pl (.string p0.Key), pl (.string p0.Value), pl (.int .u8 p0.Rights), pl (.int .u64 p0.Most), pl (.bool p0.Flag)]⟩, ⟨114, [pl (.int .u8 p1.Kind), pl (.int .u64 p1.Space), pl (.int .u64 p1.Handle), pl (.int .i64 p1.Ref.Slot), pl (.int .u64 p1.Ref.Gen), pl (.int .u64 p1.To), pl (.string p1.Key), pl (.string p1.Value), pl (.int .u8 p1.Rights), pl (.int .u64 p1.Most), pl (.bool p1.Flag)]⟩, ⟨118, [pl (.int .u8 x_1.Kind), pl (.int .u64 x_1.Space), pl (.int .u64 x_1.Handle), pl (.int .i64 x_1.Ref.Slot), pl (.int .u64 x_1.Ref.Gen), pl (.int .u64 x_1.To), pl (.string x_1.Key), pl (.string x_1.Value), pl (.int .u8 x_1.Rights), pl (.int .u64 x_1.Most), pl (.bool x_1.Flag)]⟩, ⟨118, [pl (.int .u8 x_2.Kind), pl (.int .u64 x_2.Space), pl (.int .u64 x_2.Handle), pl (.int .i64 x_2.Ref.Slot), pl (.int .u64 x_2.Ref.Gen), pl (.int .u64 x_2.To), pl (.string x_2.Key), pl (.string x_2.Value), pl (.int .u8 x_2.Rights), pl (.int .u64 x_2.Most), pl (.bool x_2.Flag)]⟩] []) ∨ (Holds e [(2, pl (.int .u16 p2)), (3, ptr (s.boxes.length + 0) 0), (4, ptr (s.boxes.length + 1) 0), (7, ptr (s.boxes.length + 3) 0), (8, ptr (s.boxes.length + 2) 0)] ∧ st = s.ext [⟨114, [pl (.int .u8 p0.Kind), pl (.int .u64 p0.Space), pl (.int .u64 p0.Handle), pl (.int .i64 p0.Ref.Slot), pl (.int .u64 p0.Ref.Gen), pl (.int .u64 p0.To), pl (.string p0.Key), pl (.string p0.Value), pl (.int .u8 p0.Rights), pl (.int .u64 p0.Most), pl (.bool p0.Flag)]⟩, ⟨114, [pl (.int .u8 p1.Kind), pl (.int .u64 p1.Space), pl (.int .u64 p1.Handle), pl (.int .i64 p1.Ref.Slot), pl (.int .u64 p1.Ref.Gen), pl (.int .u64 p1.To), pl (.string p1.Key), pl (.string p1.Value), pl (.int .u8 p1.Rights), pl (.int .u64 p1.Most), pl (.bool p1.Flag)]⟩, ⟨118, [pl (.int .u8 x_2.Kind), pl (.int .u64 x_2.Space), pl (.int .u64 x_2.Handle), pl (.int .i64 x_2.Ref.Slot), pl (.int .u64 x_2.Ref.Gen), pl (.int .u64 x_2.To), pl (.string x_2.Key), pl (.string x_2.Value), pl (.int .u8 x_2.Rights), pl (.int .u64 x_2.Most), pl (.bool x_2.Flag)]⟩, ⟨118, [pl (.int .u8 x_1.Kind), pl (.int .u64 x_1.Space), pl (.int .u64 x_1.Handle), pl (.int .i64 x_1.Ref.Slot), pl (.int .u64 x_1.Ref.Gen), pl (.int .u64 x_1.To), pl (.string x_1.Key), pl (.string x_1.Value), pl (.int .u8 x_1.Rights), pl (.int .u64 x_1.Most), pl (.bool x_1.Flag)]⟩] [])) ?_ ?_
  · skip
    refine aw_of_ay mixed_U7 ?_
    refine ay_split 4 5 rfl ?_ ?_
    · skip
      refine ay_drawn [false, false, false, false, true, true, true, true] [[0, 1, 2], [0, 1, 2], [0, 1, 2], [0, 1, 2], [0, 1], [1, 2], [2, 3], [3, 4]] (by decide +kernel) ?_
      refine dtlGA (qs := [_, _, _, _, _, _, _, _, _, _, _]) ag114_U7 sz114_U7 (os rfl oz) (loc_getN rfl rfl) (Nat.le_of_ble_eq_true rfl) rfl rfl ?_
      refine dtp _ rfl (fun s => opD_pure ht64_U7 (c_qgive hx_1) ⟨(le_of_eq lz).trans (agg_le ⟨(Pd.le_refl _), (Pd.le_refl _), (Pd.le_refl _), (Pd.le_refl _), (Pd.le_refl _), (Pd.le_refl _), (Pd.le_refl _), (Pd.le_refl _), (Pd.le_refl _), (Pd.le_refl _), (Pd.le_refl _), trivial⟩), trivial⟩) ?_
      refine dtlGA (qs := [_, _, _, _, _, _, _, _, _, _, _]) ag114_U7 sz114_U7 (ls rfl (ls rfl (os rfl (os rfl oz)))) (loc_getN rfl rfl) (Nat.le_of_ble_eq_true rfl) rfl rfl ?_
      refine dtp _ rfl (fun s => opD_pure ht64_U7 (c_qgive hx_2) ⟨(le_of_eq lz).trans (agg_le ⟨(Pd.le_refl _), (Pd.le_refl _), (Pd.le_refl _), (Pd.le_refl _), (Pd.le_refl _), (Pd.le_refl _), (Pd.le_refl _), (Pd.le_refl _), (Pd.le_refl _), (Pd.le_refl _), (Pd.le_refl _), trivial⟩), trivial⟩) ?_
      refine dta _ rfl (allocN rfl zt118_U7 (by first | exact List.length_nil | (simp only [List.length_cons, List.length_nil, Nat.zero_add, Nat.reduceAdd] <;> rfl)) (by simp only [na, nb, nc, nd, nf, ng, nh, ni, nj, nk] <;> rfl)) ?_
      refine dta _ rfl (allocN rfl zt118_U7 (by first | exact List.length_nil | (simp only [List.length_cons, List.length_nil, Nat.zero_add, Nat.reduceAdd] <;> rfl)) (by simp only [na, nb, nc, nd, nf, ng, nh, ni, nj, nk] <;> rfl)) ?_
      refine dta _ rfl (storeAN rfl sz118_U7 (ls rfl lz) (ls rfl (ls rfl (ls rfl (ls rfl lz)))) (ones_cons (one_pl rfl) (ones_cons (one_pl rfl) (ones_cons (one_pl rfl) (ones_cons (one_pl rfl) (ones_cons (one_pl rfl) (ones_cons (one_pl rfl) (ones_cons (one_pl rfl) (ones_cons (one_pl rfl) (ones_cons (one_pl rfl) (ones_cons (one_pl rfl) (ones_cons (one_pl rfl) ones_nil))))))))))) rfl rfl (Nat.le_of_ble_eq_true rfl) (List.cons_ne_nil _ _) (bnd_cons (pl_bnd _ _ _) (bnd_cons (pl_bnd _ _ _) (bnd_cons (pl_bnd _ _ _) (bnd_cons (pl_bnd _ _ _) (bnd_cons (pl_bnd _ _ _) (bnd_cons (pl_bnd _ _ _) (bnd_cons (pl_bnd _ _ _) (bnd_cons (pl_bnd _ _ _) (bnd_cons (pl_bnd _ _ _) (bnd_cons (pl_bnd _ _ _) (bnd_cons (pl_bnd _ _ _) bnd_nil))))))))))) (by simp only [na, nb, nc, nd, nf, ng, nh, ni, nj, nk] <;> rfl) (by simp only [na, nb, nc, nd, nf, ng, nh, ni, nj, nk] <;> rfl)) ?_
      refine dta _ rfl (storeAN rfl sz118_U7 (lx lz) (lx (ls rfl (ls rfl lz))) (ones_cons (one_pl rfl) (ones_cons (one_pl rfl) (ones_cons (one_pl rfl) (ones_cons (one_pl rfl) (ones_cons (one_pl rfl) (ones_cons (one_pl rfl) (ones_cons (one_pl rfl) (ones_cons (one_pl rfl) (ones_cons (one_pl rfl) (ones_cons (one_pl rfl) (ones_cons (one_pl rfl) ones_nil))))))))))) rfl rfl (Nat.le_of_ble_eq_true rfl) (List.cons_ne_nil _ _) (bnd_cons (pl_bnd _ _ _) (bnd_cons (pl_bnd _ _ _) (bnd_cons (pl_bnd _ _ _) (bnd_cons (pl_bnd _ _ _) (bnd_cons (pl_bnd _ _ _) (bnd_cons (pl_bnd _ _ _) (bnd_cons (pl_bnd _ _ _) (bnd_cons (pl_bnd _ _ _) (bnd_cons (pl_bnd _ _ _) (bnd_cons (pl_bnd _ _ _) (bnd_cons (pl_bnd _ _ _) bnd_nil))))))))))) (by simp only [na, nb, nc, nd, nf, ng, nh, ni, nj, nk] <;> rfl) (by simp only [na, nb, nc, nd, nf, ng, nh, ni, nj, nk] <;> rfl)) ?_
      refine .nil ?_
      dsimp only [List.nil_append, List.cons_append]
      refine ⟨rfl, ⟨⟨(by first | exact loc_getN rfl rfl | exact updx_get hlt | exact upd2_g hgh hlt | exact upd2_h hlt2), (by first | exact loc_getN rfl rfl | exact updx_get hlt | exact upd2_g hgh hlt | exact upd2_h hlt2), (by first | exact loc_getN rfl rfl | exact updx_get hlt | exact upd2_g hgh hlt | exact upd2_h hlt2), trivial⟩, trivial, ⟨(by first | exact loc_getN rfl rfl | exact updx_get hlt | exact upd2_g hgh hlt | exact upd2_h hlt2), (by first | exact loc_getN rfl rfl | exact updx_get hlt | exact upd2_g hgh hlt | exact upd2_h hlt2), (by first | exact loc_getN rfl rfl | exact updx_get hlt | exact upd2_g hgh hlt | exact upd2_h hlt2), trivial⟩, trivial, trivial, trivial, trivial, trivial, trivial⟩, ?_⟩
      exact .inl ⟨⟨le_of_eq (eg (lx (lx (ls rfl (ls rfl (ls rfl (ls rfl (ls rfl (ls rfl oz))))))))), le_of_eq (eg (lx (lx (ls rfl (ls rfl (ls rfl (ls rfl (ls rfl (ls rfl (os rfl oz)))))))))), le_of_eq (eg (lx (lx (ls rfl (ls rfl (ls rfl (ls rfl (ls rfl (ls rfl (os rfl (os rfl oz))))))))))), le_of_eq (eg (lx (lx (ls rfl lz)))), le_of_eq (eg (lx (lx lz))), trivial⟩, rfl⟩
    · skip
      refine ay_swap 4 rfl ?_
      refine ay_drawn [false, false, false, false, true, true, true, true] [[0, 1, 2], [0, 1, 2], [0, 1, 2], [0, 1, 2], [0, 1], [1, 2], [2, 3], [3, 4]] (by decide +kernel) ?_
      refine dtlGA (qs := [_, _, _, _, _, _, _, _, _, _, _]) ag114_U7 sz114_U7 (os rfl oz) (loc_getN rfl rfl) (Nat.le_of_ble_eq_true rfl) rfl rfl ?_
      refine dtp _ rfl (fun s => opD_pure ht64_U7 (c_qgive hx_1) ⟨(le_of_eq lz).trans (agg_le ⟨(Pd.le_refl _), (Pd.le_refl _), (Pd.le_refl _), (Pd.le_refl _), (Pd.le_refl _), (Pd.le_refl _), (Pd.le_refl _), (Pd.le_refl _), (Pd.le_refl _), (Pd.le_refl _), (Pd.le_refl _), trivial⟩), trivial⟩) ?_
      refine dtlGA (qs := [_, _, _, _, _, _, _, _, _, _, _]) ag114_U7 sz114_U7 (ls rfl (ls rfl (os rfl (os rfl oz)))) (loc_getN rfl rfl) (Nat.le_of_ble_eq_true rfl) rfl rfl ?_
      refine dtp _ rfl (fun s => opD_pure ht64_U7 (c_qgive hx_2) ⟨(le_of_eq lz).trans (agg_le ⟨(Pd.le_refl _), (Pd.le_refl _), (Pd.le_refl _), (Pd.le_refl _), (Pd.le_refl _), (Pd.le_refl _), (Pd.le_refl _), (Pd.le_refl _), (Pd.le_refl _), (Pd.le_refl _), (Pd.le_refl _), trivial⟩), trivial⟩) ?_
      refine dta _ rfl (allocN rfl zt118_U7 (by first | exact List.length_nil | (simp only [List.length_cons, List.length_nil, Nat.zero_add, Nat.reduceAdd] <;> rfl)) (by simp only [na, nb, nc, nd, nf, ng, nh, ni, nj, nk] <;> rfl)) ?_
      refine dta _ rfl (allocN rfl zt118_U7 (by first | exact List.length_nil | (simp only [List.length_cons, List.length_nil, Nat.zero_add, Nat.reduceAdd] <;> rfl)) (by simp only [na, nb, nc, nd, nf, ng, nh, ni, nj, nk] <;> rfl)) ?_
      refine dta _ rfl (storeAN rfl sz118_U7 lz (ls rfl (ls rfl (ls rfl (ls rfl lz)))) (ones_cons (one_pl rfl) (ones_cons (one_pl rfl) (ones_cons (one_pl rfl) (ones_cons (one_pl rfl) (ones_cons (one_pl rfl) (ones_cons (one_pl rfl) (ones_cons (one_pl rfl) (ones_cons (one_pl rfl) (ones_cons (one_pl rfl) (ones_cons (one_pl rfl) (ones_cons (one_pl rfl) ones_nil))))))))))) rfl rfl (Nat.le_of_ble_eq_true rfl) (List.cons_ne_nil _ _) (bnd_cons (pl_bnd _ _ _) (bnd_cons (pl_bnd _ _ _) (bnd_cons (pl_bnd _ _ _) (bnd_cons (pl_bnd _ _ _) (bnd_cons (pl_bnd _ _ _) (bnd_cons (pl_bnd _ _ _) (bnd_cons (pl_bnd _ _ _) (bnd_cons (pl_bnd _ _ _) (bnd_cons (pl_bnd _ _ _) (bnd_cons (pl_bnd _ _ _) (bnd_cons (pl_bnd _ _ _) bnd_nil))))))))))) (by simp only [na, nb, nc, nd, nf, ng, nh, ni, nj, nk] <;> rfl) (by simp only [na, nb, nc, nd, nf, ng, nh, ni, nj, nk] <;> rfl)) ?_
      refine dta _ rfl (storeAN rfl sz118_U7 (lx (ls rfl lz)) (lx (ls rfl (ls rfl lz))) (ones_cons (one_pl rfl) (ones_cons (one_pl rfl) (ones_cons (one_pl rfl) (ones_cons (one_pl rfl) (ones_cons (one_pl rfl) (ones_cons (one_pl rfl) (ones_cons (one_pl rfl) (ones_cons (one_pl rfl) (ones_cons (one_pl rfl) (ones_cons (one_pl rfl) (ones_cons (one_pl rfl) ones_nil))))))))))) rfl rfl (Nat.le_of_ble_eq_true rfl) (List.cons_ne_nil _ _) (bnd_cons (pl_bnd _ _ _) (bnd_cons (pl_bnd _ _ _) (bnd_cons (pl_bnd _ _ _) (bnd_cons (pl_bnd _ _ _) (bnd_cons (pl_bnd _ _ _) (bnd_cons (pl_bnd _ _ _) (bnd_cons (pl_bnd _ _ _) (bnd_cons (pl_bnd _ _ _) (bnd_cons (pl_bnd _ _ _) (bnd_cons (pl_bnd _ _ _) (bnd_cons (pl_bnd _ _ _) bnd_nil))))))))))) (by simp only [na, nb, nc, nd, nf, ng, nh, ni, nj, nk] <;> rfl) (by simp only [na, nb, nc, nd, nf, ng, nh, ni, nj, nk] <;> rfl)) ?_
      refine .nil ?_
      dsimp only [List.nil_append, List.cons_append]
      refine ⟨rfl, ⟨⟨(by first | exact loc_getN rfl rfl | exact updx_get hlt | exact upd2_g hgh hlt | exact upd2_h hlt2), (by first | exact loc_getN rfl rfl | exact updx_get hlt | exact upd2_g hgh hlt | exact upd2_h hlt2), (by first | exact loc_getN rfl rfl | exact updx_get hlt | exact upd2_g hgh hlt | exact upd2_h hlt2), trivial⟩, trivial, ⟨(by first | exact loc_getN rfl rfl | exact updx_get hlt | exact upd2_g hgh hlt | exact upd2_h hlt2), (by first | exact loc_getN rfl rfl | exact updx_get hlt | exact upd2_g hgh hlt | exact upd2_h hlt2), (by first | exact loc_getN rfl rfl | exact updx_get hlt | exact upd2_g hgh hlt | exact upd2_h hlt2), trivial⟩, trivial, trivial, trivial, trivial, trivial, trivial⟩, ?_⟩
      exact (.inr ⟨⟨le_of_eq (eg (lx (lx (ls rfl (ls rfl (ls rfl (ls rfl (ls rfl (ls rfl oz))))))))), le_of_eq (eg (lx (lx (ls rfl (ls rfl (ls rfl (ls rfl (ls rfl (ls rfl (os rfl oz)))))))))), le_of_eq (eg (lx (lx (ls rfl (ls rfl (ls rfl (ls rfl (ls rfl (ls rfl (os rfl (os rfl oz))))))))))), le_of_eq (eg (lx (lx lz))), le_of_eq (eg (lx (lx (ls rfl lz)))), trivial⟩, rfl⟩)
  · rintro e st (⟨hH, rfl⟩ | ⟨hH, rfl⟩)
    · skip
      refine aw_keep _ hH ?_
      refine aw_keep [(2, _), (3, _), (4, _), (7, _), (8, _)] ⟨lg oz, lg (os rfl oz), lg (os rfl (os rfl oz)), lg (os rfl (os rfl (os rfl oz))), lg (os rfl (os rfl (os rfl (os rfl oz)))), trivial⟩ ?_
      refine aw_seq ?_
      refine aw_seq ?_
      refine aw_region (by decide) ?_
      refine rts _ rfl (opD_fieldAddr fo114_5_U7 (os rfl oz)) ?_
      refine rts _ rfl (opD_load_one ag9_U7 lz (loc_getN rfl rfl) rfl) ?_
      refine rts _ rfl (opD_len_str Go.Proofs.Tryd.underlying9 lz) ?_
      refine rts _ rfl (opD_gtr lz (ev_const _ _)) ?_
      refine rts _ rfl (opD_move lz) ?_
      refine rtg _ rfl lz (fun hg2_5_1 => opD_fieldAddr fo114_6_U7 (ls rfl (ls rfl (ls rfl (ls rfl (ls rfl (os rfl oz))))))) ?_
      refine rtg _ rfl (ls rfl lz) (fun hg2_6_2 => opD_load_one ag9_U7 (lz.trans (pif_pos hg2_6_2)) (loc_getN rfl rfl) rfl) ?_
      refine rtg _ rfl (ls rfl (ls rfl lz)) (fun hg2_7_3 => opD_len_str Go.Proofs.Tryd.underlying9 (lz.trans (pif_pos hg2_7_3))) ?_
      refine rtg _ rfl (ls rfl (ls rfl (ls rfl lz))) (fun hg2_8_4 => opD_gtr (lz.trans (pif_pos hg2_8_4)) (ev_const _ _)) ?_
      refine rts _ rfl (opD_or (ls rfl (ls rfl (ls rfl (ls rfl lz)))) lz) ?_
      refine rts _ rfl (opD_move lz) ?_
      refine rtg _ rfl lz (fun hg2_11_5 => opD_fieldAddr fo114_5_U7 (ls rfl (ls rfl (ls rfl (ls rfl (ls rfl (ls rfl (ls rfl (ls rfl (ls rfl (ls rfl (ls rfl (os rfl (os rfl oz)))))))))))))) ?_
      refine rtg _ rfl (ls rfl lz) (fun hg2_12_6 => opD_load_one ag9_U7 (lz.trans (pif_pos hg2_12_6)) (loc_getN rfl rfl) rfl) ?_
      refine rtg _ rfl (ls rfl (ls rfl lz)) (fun hg2_13_7 => opD_len_str Go.Proofs.Tryd.underlying9 (lz.trans (pif_pos hg2_13_7))) ?_
      refine rtg _ rfl (ls rfl (ls rfl (ls rfl lz))) (fun hg2_14_8 => opD_gtr (lz.trans (pif_pos hg2_14_8)) (ev_const _ _)) ?_
      refine rts _ rfl (opD_or (ls rfl (ls rfl (ls rfl (ls rfl lz)))) lz) ?_
      refine rts _ rfl (opD_move lz) ?_
      refine rtg _ rfl lz (fun hg2_17_9 => opD_fieldAddr fo114_6_U7 (ls rfl (ls rfl (ls rfl (ls rfl (ls rfl (ls rfl (ls rfl (ls rfl (ls rfl (ls rfl (ls rfl (ls rfl (ls rfl (ls rfl (ls rfl (ls rfl (ls rfl (os rfl (os rfl oz)))))))))))))))))))) ?_
      refine rtg _ rfl (ls rfl lz) (fun hg2_18_10 => opD_load_one ag9_U7 (lz.trans (pif_pos hg2_18_10)) (loc_getN rfl rfl) rfl) ?_
      refine rtg _ rfl (ls rfl (ls rfl lz)) (fun hg2_19_11 => opD_len_str Go.Proofs.Tryd.underlying9 (lz.trans (pif_pos hg2_19_11))) ?_
      refine rtg _ rfl (ls rfl (ls rfl (ls rfl lz))) (fun hg2_20_12 => opD_gtr (lz.trans (pif_pos hg2_20_12)) (ev_const _ _)) ?_
      refine rts _ rfl (opD_or (ls rfl (ls rfl (ls rfl (ls rfl lz)))) lz) ?_
      refine .nil ?_
      refine aw_keep [(2, _), (7, _), (8, _), (44, _)] ⟨lg (ls rfl (ls rfl (ls rfl (ls rfl (ls rfl (ls rfl (ls rfl (ls rfl (ls rfl (ls rfl (ls rfl (ls rfl (ls rfl (ls rfl (ls rfl (ls rfl (ls rfl (ls rfl (ls rfl (ls rfl (ls rfl (ls rfl oz)))))))))))))))))))))), lg (ls rfl (ls rfl (ls rfl (ls rfl (ls rfl (ls rfl (ls rfl (ls rfl (ls rfl (ls rfl (ls rfl (ls rfl (ls rfl (ls rfl (ls rfl (ls rfl (ls rfl (ls rfl (ls rfl (ls rfl (ls rfl (ls rfl (os rfl (os rfl (os rfl oz))))))))))))))))))))))))), lg (ls rfl (ls rfl (ls rfl (ls rfl (ls rfl (ls rfl (ls rfl (ls rfl (ls rfl (ls rfl (ls rfl (ls rfl (ls rfl (ls rfl (ls rfl (ls rfl (ls rfl (ls rfl (ls rfl (ls rfl (ls rfl (ls rfl (os rfl (os rfl (os rfl (os rfl oz)))))))))))))))))))))))))), lg lz, trivial⟩ ?_
      refine aw_cond _ (os rfl (os rfl (os rfl oz))) (fun hc => ?_) (fun hc => ?_)
      · skip
        replace h0 := ifb_t h0 hc
        clear hc
        refine aw_seq ?_
        refine aw_region (by decide) ?_
        replace h0 := bnd_some h0
        obtain ⟨x_3, hx_3, h0⟩ := h0
        refine rts _ rfl (opD_call ht62_U7 (c_sure35 hx_3 hst) trivial) ?_
        refine rts _ rfl (opD_assign lz) ?_
        refine .nil ?_
        refine aw_keep [(6, _)] ⟨lg lz, trivial⟩ ?_
        refine aw_ret ?_
        obtain rfl := some_of h0
        exact done_ext (.inr rfl) ((res_one rfl (it_tmp oz)).le (Pd.le_refl _)) (pl_bnd _ _ _)
      · skip
        replace h0 := ifb_f h0 hc
        clear hc
        refine aw_skip ?_
        refine aw_keep [(2, _), (7, _), (8, _)] ⟨lg oz, lg (os rfl oz), lg (os rfl (os rfl oz)), trivial⟩ ?_
        refine aw_seq ?_
        refine aw_region (by decide) ?_
        refine rts _ rfl (opD_load_aggX (qs := [_, _, _, _, _, _, _, _, _, _, _]) ag118_U7 sz118_U7 (os rfl oz) (loc_getN rfl rfl) (Nat.le_of_ble_eq_true rfl) rfl) ?_
        replace h0 := bnd_some h0
        obtain ⟨x_4, hx_4, h0⟩ := h0
        refine rts _ rfl (opD_pure ht63_U7 (c_qenc hx_4) ⟨(le_of_eq lz).trans (agg_le ⟨(Pd.le_refl _), (Pd.le_refl _), (Pd.le_refl _), (Pd.le_refl _), (Pd.le_refl _), (Pd.le_refl _), (Pd.le_refl _), (Pd.le_refl _), (Pd.le_refl _), (Pd.le_refl _), (Pd.le_refl _), trivial⟩), trivial⟩) ?_
        refine rts _ rfl (opD_move lz) ?_
        refine rts _ rfl (opD_extract lz rfl) ?_
        refine rts _ rfl (opD_extract (ls rfl lz) rfl) ?_
        refine rts _ rfl (opD_assign (ls rfl lz)) ?_
        refine rts _ rfl (opD_assign (ls rfl lz)) ?_
        refine .nil ?_
        refine aw_keep [(2, _), (7, _), (8, _), (9, _), (10, _)] ⟨lg (ls rfl (ls rfl (ls rfl (ls rfl (ls rfl (ls rfl (ls rfl oz))))))), lg (ls rfl (ls rfl (ls rfl (ls rfl (ls rfl (ls rfl (ls rfl (os rfl oz)))))))), lg (ls rfl (ls rfl (ls rfl (ls rfl (ls rfl (ls rfl (ls rfl (os rfl (os rfl oz))))))))), lg (ls rfl lz), lg lz, trivial⟩ ?_
        refine aw_seq ?_
        refine aw_region (by decide) ?_
        refine rts _ rfl (opD_load_aggX (qs := [_, _, _, _, _, _, _, _, _, _, _]) ag118_U7 sz118_U7 (os rfl (os rfl oz)) (loc_getN rfl rfl) (Nat.le_of_ble_eq_true rfl) rfl) ?_
        replace h0 := bnd_some h0
        obtain ⟨x_5, hx_5, h0⟩ := h0
        refine rts _ rfl (opD_pure ht63_U7 (c_qenc hx_5) ⟨(le_of_eq lz).trans (agg_le ⟨(Pd.le_refl _), (Pd.le_refl _), (Pd.le_refl _), (Pd.le_refl _), (Pd.le_refl _), (Pd.le_refl _), (Pd.le_refl _), (Pd.le_refl _), (Pd.le_refl _), (Pd.le_refl _), (Pd.le_refl _), trivial⟩), trivial⟩) ?_
        refine rts _ rfl (opD_move lz) ?_
        refine rts _ rfl (opD_extract lz rfl) ?_
        refine rts _ rfl (opD_extract (ls rfl lz) rfl) ?_
        refine rts _ rfl (opD_assign (ls rfl lz)) ?_
        refine rts _ rfl (opD_assign (ls rfl lz)) ?_
        refine .nil ?_
        refine aw_keep [(2, _), (7, _), (8, _), (9, _), (10, _), (11, _), (12, _)] ⟨lg (ls rfl (ls rfl (ls rfl (ls rfl (ls rfl (ls rfl (ls rfl oz))))))), lg (ls rfl (ls rfl (ls rfl (ls rfl (ls rfl (ls rfl (ls rfl (os rfl oz)))))))), lg (ls rfl (ls rfl (ls rfl (ls rfl (ls rfl (ls rfl (ls rfl (os rfl (os rfl oz))))))))), lg (ls rfl (ls rfl (ls rfl (ls rfl (ls rfl (ls rfl (ls rfl (os rfl (os rfl (os rfl oz)))))))))), lg (ls rfl (ls rfl (ls rfl (ls rfl (ls rfl (ls rfl (ls rfl (os rfl (os rfl (os rfl (os rfl oz))))))))))), lg (ls rfl lz), lg lz, trivial⟩ ?_
        refine aw_seq ?_
        refine aw_seq ?_
        refine aw_region (by decide) ?_
        refine rts _ rfl (opD_move (os rfl (os rfl (os rfl (os rfl oz))))) ?_
        refine rts _ rfl (opD_bin lz (ev_const _ _) (fun w => errV_guard _ w _) (fun w => errV_beq _ w)) ?_
        refine .nil ?_
        refine aw_keep [(2, _), (7, _), (8, _), (9, _), (11, _), (12, _), (57, _)] ⟨lg (ls rfl (ls rfl oz)), lg (ls rfl (ls rfl (os rfl oz))), lg (ls rfl (ls rfl (os rfl (os rfl oz)))), lg (ls rfl (ls rfl (os rfl (os rfl (os rfl oz))))), lg (ls rfl (ls rfl (os rfl (os rfl (os rfl (os rfl (os rfl oz))))))), lg (ls rfl (ls rfl (os rfl (os rfl (os rfl (os rfl (os rfl (os rfl oz)))))))), lg lz, trivial⟩ ?_
        refine aw_cond _ (os rfl (os rfl (os rfl (os rfl (os rfl (os rfl oz)))))) (fun hc => ?_) (fun hc => ?_)
        · skip
          replace h0 := ifb_t h0 hc
          clear hc
          refine aw_seq ?_
          refine aw_region (by decide) ?_
          refine rts _ rfl (opD_load_aggX (qs := [_, _, _, _, _, _, _, _, _, _, _]) ag118_U7 sz118_U7 (os rfl oz) (loc_getN rfl rfl) (Nat.le_of_ble_eq_true rfl) rfl) ?_
          replace h0 := bnd_some h0
          obtain ⟨x_6, hx_6, h0⟩ := h0
          refine rts _ rfl (opD_pure ht71_U7 (c_qcheck hx_6) ⟨(le_of_eq lz).trans (agg_le ⟨(Pd.le_refl _), (Pd.le_refl _), (Pd.le_refl _), (Pd.le_refl _), (Pd.le_refl _), (Pd.le_refl _), (Pd.le_refl _), (Pd.le_refl _), (Pd.le_refl _), (Pd.le_refl _), (Pd.le_refl _), trivial⟩), trivial⟩) ?_
          refine rts _ rfl (opD_bin lz (ev_const _ _) (fun w => errV_guard _ w _) (fun w => errV_beq _ w)) ?_
          refine rts _ rfl (opD_move lz) ?_
          replace h0 := bnd_some h0
          obtain ⟨x_7, hx_7, h0⟩ := h0
          refine rtg _ rfl lz (fun hg7_4_13 => opD_call ht62_U7 (c_sure35 (gif_some hx_7 hg7_4_13) hst) trivial) ?_
          refine rts _ rfl (opD_and (ls rfl lz) lz) ?_
          refine rts _ rfl (opD_assign lz) ?_
          refine .nil ?_
          refine aw_keep [(6, _)] ⟨lg lz, trivial⟩ ?_
          refine aw_ret ?_
          obtain rfl := some_of h0
          exact done_ext (.inr rfl) ((res_one rfl (it_tmp oz)).le (Pd.le_refl _)) (pl_bnd _ _ _)
        · skip
          replace h0 := ifb_f h0 hc
          clear hc
          refine aw_skip ?_
          refine aw_keep [(2, _), (7, _), (8, _), (9, _), (11, _), (12, _)] ⟨lg oz, lg (os rfl oz), lg (os rfl (os rfl oz)), lg (os rfl (os rfl (os rfl oz))), lg (os rfl (os rfl (os rfl (os rfl oz)))), lg (os rfl (os rfl (os rfl (os rfl (os rfl oz))))), trivial⟩ ?_
          refine aw_seq ?_
          refine aw_region (by decide) ?_
          refine rts _ rfl (opD_move (os rfl (os rfl (os rfl oz)))) ?_
          replace h0 := bnd_some h0
          obtain ⟨x_8, hx_8, h0⟩ := h0
          refine rts _ rfl (opD_pure ht66_U7 (c_qdec hx_8) ⟨le_of_eq lz, trivial⟩) ?_
          refine rts _ rfl (opD_move lz) ?_
          refine rts _ rfl (opD_extract lz rfl) ?_
          refine rts _ rfl (opD_extract (ls rfl lz) rfl) ?_
          refine rts _ rfl (allocN rfl zt118_U7 (by first | exact List.length_nil | (simp only [List.length_cons, List.length_nil, Nat.zero_add, Nat.reduceAdd] <;> rfl)) (by simp only [na, nb, nc, nd, nf, ng, nh, ni, nj, nk] <;> rfl)) ?_
          refine rts _ rfl (storeAN rfl sz118_U7 lz (ls rfl (ls rfl lz)) (ones_cons (one_pl rfl) (ones_cons (one_pl rfl) (ones_cons (one_pl rfl) (ones_cons (one_pl rfl) (ones_cons (one_pl rfl) (ones_cons (one_pl rfl) (ones_cons (one_pl rfl) (ones_cons (one_pl rfl) (ones_cons (one_pl rfl) (ones_cons (one_pl rfl) (ones_cons (one_pl rfl) ones_nil))))))))))) rfl rfl (Nat.le_of_ble_eq_true rfl) (List.cons_ne_nil _ _) (bnd_cons (pl_bnd _ _ _) (bnd_cons (pl_bnd _ _ _) (bnd_cons (pl_bnd _ _ _) (bnd_cons (pl_bnd _ _ _) (bnd_cons (pl_bnd _ _ _) (bnd_cons (pl_bnd _ _ _) (bnd_cons (pl_bnd _ _ _) (bnd_cons (pl_bnd _ _ _) (bnd_cons (pl_bnd _ _ _) (bnd_cons (pl_bnd _ _ _) (bnd_cons (pl_bnd _ _ _) bnd_nil))))))))))) (by simp only [na, nb, nc, nd, nf, ng, nh, ni, nj, nk] <;> rfl) (by simp only [na, nb, nc, nd, nf, ng, nh, ni, nj, nk] <;> rfl)) ?_
          refine rts _ rfl (opD_assign (lx (ls rfl lz))) ?_
          refine .nil ?_
          refine aw_keep [(2, _), (7, _), (8, _), (9, _), (11, _), (12, _), (13, _), (14, _)] ⟨lg (ls rfl (lx (ls rfl (ls rfl (ls rfl (ls rfl (ls rfl (ls rfl oz)))))))), lg (ls rfl (lx (ls rfl (ls rfl (ls rfl (ls rfl (ls rfl (ls rfl (os rfl oz))))))))), lg (ls rfl (lx (ls rfl (ls rfl (ls rfl (ls rfl (ls rfl (ls rfl (os rfl (os rfl oz)))))))))), lg (ls rfl (lx (ls rfl (ls rfl (ls rfl (ls rfl (ls rfl (ls rfl (os rfl (os rfl (os rfl oz))))))))))), lg (ls rfl (lx (ls rfl (ls rfl (ls rfl (ls rfl (ls rfl (ls rfl (os rfl (os rfl (os rfl (os rfl oz)))))))))))), lg (ls rfl (lx (ls rfl (ls rfl (ls rfl (ls rfl (ls rfl (ls rfl (os rfl (os rfl (os rfl (os rfl (os rfl oz))))))))))))), lg (ls rfl (lx lz)), lg lz, trivial⟩ ?_
          refine aw_seq ?_
          refine aw_region (by decide) ?_
          refine rts _ rfl (opD_move (os rfl (os rfl (os rfl oz)))) ?_
          refine rts _ rfl (opD_move (ls rfl oz)) ?_
          refine rts _ rfl (opD_conv_int Go.Proofs.Tryd.underlying58 Go.Proofs.Tryd.underlying3 lz rfl) ?_
          refine rts _ rfl (opD_move (ls rfl (ls rfl (ls rfl (os rfl (os rfl (os rfl oz))))))) ?_
          refine rts _ rfl (opD_len_sl Go.Proofs.Tryd.underlying23 lz) ?_
          refine rts _ rfl (opD_max (ev_const _ _) lz rfl) ?_
          replace h0 := grd_some h0
          obtain ⟨hg_14, h0⟩ := h0
          refine rts _ rfl (opD_rem (ls rfl (ls rfl (ls rfl lz))) lz hg_14 rfl) ?_
          replace h0 := grd_some h0
          obtain ⟨hg_15, h0⟩ := h0
          refine rts _ rfl (opD_slice_to ((IntKind.i64.wrap (p2)).tmod (if (x_4.1.length : Int) > 1 then (x_4.1.length : Int) else 1)).toNat Go.Proofs.Tryd.underlying23 sz5_U7 (ls rfl (ls rfl (ls rfl (ls rfl (ls rfl (ls rfl lz)))))) lz hg_15.eq hg_15.2) ?_
          replace h0 := bnd_some h0
          obtain ⟨x_9, hx_9, h0⟩ := h0
          refine rts _ rfl (opD_pure ht66_U7 (c_qdec hx_9) ⟨le_of_eq lz, trivial⟩) ?_
          refine rts _ rfl (opD_move lz) ?_
          refine rts _ rfl (opD_extract lz rfl) ?_
          refine rts _ rfl (opD_extract (ls rfl lz) rfl) ?_
          refine rts _ rfl (allocN rfl zt118_U7 (by first | exact List.length_nil | (simp only [List.length_cons, List.length_nil, Nat.zero_add, Nat.reduceAdd] <;> rfl)) (by simp only [na, nb, nc, nd, nf, ng, nh, ni, nj, nk] <;> rfl)) ?_
          refine rts _ rfl (storeAN rfl sz118_U7 lz (ls rfl (ls rfl lz)) (ones_cons (one_pl rfl) (ones_cons (one_pl rfl) (ones_cons (one_pl rfl) (ones_cons (one_pl rfl) (ones_cons (one_pl rfl) (ones_cons (one_pl rfl) (ones_cons (one_pl rfl) (ones_cons (one_pl rfl) (ones_cons (one_pl rfl) (ones_cons (one_pl rfl) (ones_cons (one_pl rfl) ones_nil))))))))))) rfl rfl (Nat.le_of_ble_eq_true rfl) (List.cons_ne_nil _ _) (bnd_cons (pl_bnd _ _ _) (bnd_cons (pl_bnd _ _ _) (bnd_cons (pl_bnd _ _ _) (bnd_cons (pl_bnd _ _ _) (bnd_cons (pl_bnd _ _ _) (bnd_cons (pl_bnd _ _ _) (bnd_cons (pl_bnd _ _ _) (bnd_cons (pl_bnd _ _ _) (bnd_cons (pl_bnd _ _ _) (bnd_cons (pl_bnd _ _ _) (bnd_cons (pl_bnd _ _ _) bnd_nil))))))))))) (by simp only [na, nb, nc, nd, nf, ng, nh, ni, nj, nk] <;> rfl) (by simp only [na, nb, nc, nd, nf, ng, nh, ni, nj, nk] <;> rfl)) ?_
          refine rts _ rfl (opD_assign (lx (ls rfl lz))) ?_
          refine .nil ?_
          refine aw_keep [(7, _), (8, _), (9, _), (11, _), (12, _), (13, _), (14, _), (16, _)] ⟨lg (ls rfl (lx (ls rfl (ls rfl (ls rfl (ls rfl (ls rfl (ls rfl (ls rfl (ls rfl (ls rfl (ls rfl (ls rfl (ls rfl (ls rfl (os rfl oz)))))))))))))))), lg (ls rfl (lx (ls rfl (ls rfl (ls rfl (ls rfl (ls rfl (ls rfl (ls rfl (ls rfl (ls rfl (ls rfl (ls rfl (ls rfl (ls rfl (os rfl (os rfl oz))))))))))))))))), lg (ls rfl (lx (ls rfl (ls rfl (ls rfl (ls rfl (ls rfl (ls rfl (ls rfl (ls rfl (ls rfl (ls rfl (ls rfl (ls rfl (ls rfl (os rfl (os rfl (os rfl oz)))))))))))))))))), lg (ls rfl (lx (ls rfl (ls rfl (ls rfl (ls rfl (ls rfl (ls rfl (ls rfl (ls rfl (ls rfl (ls rfl (ls rfl (ls rfl (ls rfl (os rfl (os rfl (os rfl (os rfl oz))))))))))))))))))), lg (ls rfl (lx (ls rfl (ls rfl (ls rfl (ls rfl (ls rfl (ls rfl (ls rfl (ls rfl (ls rfl (ls rfl (ls rfl (ls rfl (ls rfl (os rfl (os rfl (os rfl (os rfl (os rfl oz)))))))))))))))))))), lg (ls rfl (lx (ls rfl (ls rfl (ls rfl (ls rfl (ls rfl (ls rfl (ls rfl (ls rfl (ls rfl (ls rfl (ls rfl (ls rfl (ls rfl (os rfl (os rfl (os rfl (os rfl (os rfl (os rfl oz))))))))))))))))))))), lg (ls rfl (lx (ls rfl (ls rfl (ls rfl (ls rfl (ls rfl (ls rfl (ls rfl (ls rfl (ls rfl (ls rfl (ls rfl (ls rfl (ls rfl (os rfl (os rfl (os rfl (os rfl (os rfl (os rfl (os rfl oz)))))))))))))))))))))), lg lz, trivial⟩ ?_
          refine aw_seq ?_
          refine aw_region (by decide) ?_
          refine rts _ rfl (opD_buildEmpty (k := kI .u8) Go.Proofs.Tryd.underlying23 sz5_U7 zt5_U7 rfl (by first | exact List.length_nil | (simp only [List.length_cons, List.length_nil, Nat.zero_add, Nat.reduceAdd] <;> rfl)) (by simp only [na, nb, nc, nd, nf, ng, nh, ni, nj, nk] <;> rfl)) ?_
          refine rts _ rfl (opD_move (ls rfl (os rfl (os rfl oz)))) ?_
          replace h0 := grd_some h0
          obtain ⟨hg_16, h0⟩ := h0
          refine rts _ rfl (opD_appendX Go.Proofs.Tryd.underlying23 el5_U7 (ls rfl lz) lz rfl hg_16.1 hg_16.2 (List.nil_append _) (by simp only [na, nb, nc, nd, nf, ng, nh, ni, nj, nk] <;> rfl)) ?_
          refine rts _ rfl (opD_buildOwn (k := kI .u8) ([0] : (List Int)) Go.Proofs.Tryd.underlying23 sz5_U7 zt5_U7 (by decide) rfl (parts_cons (cells1 (ev_const _ _) (one_pl rfl)) parts_nil) rfl rfl (by first | exact List.length_nil | (simp only [List.length_cons, List.length_nil, Nat.zero_add, Nat.reduceAdd] <;> rfl)) (by simp only [na, nb, nc, nd, nf, ng, nh, ni, nj, nk] <;> rfl)) ?_
          replace h0 := grd_some h0
          obtain ⟨hg_17, h0⟩ := h0
          refine rts _ rfl (opD_appendX Go.Proofs.Tryd.underlying23 el5_U7 (ls rfl lz) lz rfl hg_17.1 hg_17.2 rfl (by simp only [na, nb, nc, nd, nf, ng, nh, ni, nj, nk] <;> rfl)) ?_
          replace h0 := bnd_some h0
          obtain ⟨x_10, hx_10, h0⟩ := h0
          refine rts _ rfl (opD_pure ht66_U7 (c_qdec hx_10) ⟨(le_of_eq lz).trans (sl_any _ _ _ _), trivial⟩) ?_
          refine rts _ rfl (opD_move lz) ?_
          refine rts _ rfl (opD_extract lz rfl) ?_
          refine rts _ rfl (opD_extract (ls rfl lz) rfl) ?_
          refine rts _ rfl (allocN rfl zt118_U7 (by first | exact List.length_nil | (simp only [List.length_cons, List.length_nil, Nat.zero_add, Nat.reduceAdd] <;> rfl)) (by simp only [na, nb, nc, nd, nf, ng, nh, ni, nj, nk] <;> rfl)) ?_
          refine rts _ rfl (storeAN rfl sz118_U7 lz (ls rfl (ls rfl lz)) (ones_cons (one_pl rfl) (ones_cons (one_pl rfl) (ones_cons (one_pl rfl) (ones_cons (one_pl rfl) (ones_cons (one_pl rfl) (ones_cons (one_pl rfl) (ones_cons (one_pl rfl) (ones_cons (one_pl rfl) (ones_cons (one_pl rfl) (ones_cons (one_pl rfl) (ones_cons (one_pl rfl) ones_nil))))))))))) rfl rfl (Nat.le_of_ble_eq_true rfl) (List.cons_ne_nil _ _) (bnd_cons (pl_bnd _ _ _) (bnd_cons (pl_bnd _ _ _) (bnd_cons (pl_bnd _ _ _) (bnd_cons (pl_bnd _ _ _) (bnd_cons (pl_bnd _ _ _) (bnd_cons (pl_bnd _ _ _) (bnd_cons (pl_bnd _ _ _) (bnd_cons (pl_bnd _ _ _) (bnd_cons (pl_bnd _ _ _) (bnd_cons (pl_bnd _ _ _) (bnd_cons (pl_bnd _ _ _) bnd_nil))))))))))) (by simp only [na, nb, nc, nd, nf, ng, nh, ni, nj, nk] <;> rfl) (by simp only [na, nb, nc, nd, nf, ng, nh, ni, nj, nk] <;> rfl)) ?_
          refine rts _ rfl (opD_assign (lx (ls rfl lz))) ?_
          refine .nil ?_
          refine aw_keep [(7, _), (8, _), (9, _), (11, _), (12, _), (13, _), (14, _), (16, _), (18, _)] ⟨lg (ls rfl (lx (ls rfl (ls rfl (ls rfl (ls rfl (ls rfl (ls rfl (ls rfl (ls rfl (ls rfl (ls rfl oz)))))))))))), lg (ls rfl (lx (ls rfl (ls rfl (ls rfl (ls rfl (ls rfl (ls rfl (ls rfl (ls rfl (ls rfl (ls rfl (os rfl oz))))))))))))), lg (ls rfl (lx (ls rfl (ls rfl (ls rfl (ls rfl (ls rfl (ls rfl (ls rfl (ls rfl (ls rfl (ls rfl (os rfl (os rfl oz)))))))))))))), lg (ls rfl (lx (ls rfl (ls rfl (ls rfl (ls rfl (ls rfl (ls rfl (ls rfl (ls rfl (ls rfl (ls rfl (os rfl (os rfl (os rfl oz))))))))))))))), lg (ls rfl (lx (ls rfl (ls rfl (ls rfl (ls rfl (ls rfl (ls rfl (ls rfl (ls rfl (ls rfl (ls rfl (os rfl (os rfl (os rfl (os rfl oz)))))))))))))))), lg (ls rfl (lx (ls rfl (ls rfl (ls rfl (ls rfl (ls rfl (ls rfl (ls rfl (ls rfl (ls rfl (ls rfl (os rfl (os rfl (os rfl (os rfl (os rfl oz))))))))))))))))), lg (ls rfl (lx (ls rfl (ls rfl (ls rfl (ls rfl (ls rfl (ls rfl (ls rfl (ls rfl (ls rfl (ls rfl (os rfl (os rfl (os rfl (os rfl (os rfl (os rfl oz)))))))))))))))))), lg (ls rfl (lx (ls rfl (ls rfl (ls rfl (ls rfl (ls rfl (ls rfl (ls rfl (ls rfl (ls rfl (ls rfl (os rfl (os rfl (os rfl (os rfl (os rfl (os rfl (os rfl oz))))))))))))))))))), lg lz, trivial⟩ ?_
          refine aw_seq ?_
          refine aw_flat mixed_U7 (by decide +kernel) ?_
          refine zts _ rfl (opD_move (os rfl (os rfl (os rfl (os rfl (os rfl (os rfl oz))))))) ?_
          refine zts _ rfl (opD_bin lz (ev_const _ _) (fun w => errV_geql _ w _) (fun w => errV_eql _ w)) ?_
          refine zts _ rfl (opD_move lz) ?_
          refine ztg _ rfl lz (fun hg11_3_41 => opD_load_aggX (qs := [_, _, _, _, _, _, _, _, _, _, _]) ag118_U7 sz118_U7 (ls rfl (ls rfl (ls rfl (os rfl (os rfl (os rfl (os rfl (os rfl oz)))))))) (loc_getN rfl rfl) (Nat.le_of_ble_eq_true rfl) rfl) ?_
          refine ztg _ rfl (ls rfl lz) (fun hg11_4_42 => opD_load_aggX (qs := [_, _, _, _, _, _, _, _, _, _, _]) ag118_U7 sz118_U7 (ls rfl (ls rfl (ls rfl (ls rfl oz)))) (loc_getN rfl rfl) (Nat.le_of_ble_eq_true rfl) rfl) ?_
          refine ztg _ rfl (ls rfl (ls rfl lz)) (fun hg11_5_43 => opD_binA [.int .u8 x_8.1.Kind, .int .u64 x_8.1.Space, .int .u64 x_8.1.Handle, .int .i64 x_8.1.Ref.Slot, .int .u64 x_8.1.Ref.Gen, .int .u64 x_8.1.To, .string x_8.1.Key, .string x_8.1.Value, .int .u8 x_8.1.Rights, .int .u64 x_8.1.Most, .bool x_8.1.Flag] [.int .u8 x_1.Kind, .int .u64 x_1.Space, .int .u64 x_1.Handle, .int .i64 x_1.Ref.Slot, .int .u64 x_1.Ref.Gen, .int .u64 x_1.To, .string x_1.Key, .string x_1.Value, .int .u8 x_1.Rights, .int .u64 x_1.Most, .bool x_1.Flag] ((ls rfl lz).trans (pif_pos hg11_5_43)) (lz.trans (pif_pos hg11_5_43)) (fun w => (eq_Rq_g _ _ _ _ _ w)) (fun w => (eq_Rq _ _ _ _ _ _ _ _ _ _ _ _ _ _ _ _ _ _ _ _ _ _ w).1)) ?_
          refine zts _ rfl (opD_and (ls rfl (ls rfl (ls rfl lz))) lz) ?_
          refine zts _ rfl (opD_move lz) ?_
          refine ztg _ rfl lz (fun hg11_8_44 => opD_move (ls rfl (ls rfl (ls rfl (ls rfl (ls rfl (ls rfl (ls rfl (ls rfl (os rfl (os rfl (os rfl (os rfl (os rfl (os rfl (os rfl oz)))))))))))))))) ?_
          replace h0 := bnd_some h0
          obtain ⟨x_11, hx_11, h0⟩ := h0
          refine ztg _ rfl (ls rfl lz) (fun hg11_9_45 => opD_call ht68_U7 (c_num35 (gif_some hx_11 hg11_9_45) hst) ⟨le_of_eq (lz.trans (pif_pos hg11_9_45)), trivial⟩) ?_
          refine ztg _ rfl (ls rfl (ls rfl lz)) (fun hg11_10_46 => opD_eql (lz.trans (pif_pos hg11_10_46)) (ev_const _ _)) ?_
          refine zts _ rfl (opD_and (ls rfl (ls rfl (ls rfl lz))) lz) ?_
          refine zts _ rfl (opD_move lz) ?_
          refine ztg _ rfl lz (fun hg11_13_47 => opD_move (ls rfl (ls rfl (ls rfl (ls rfl (ls rfl (ls rfl (ls rfl (ls rfl (ls rfl (ls rfl (ls rfl (ls rfl (ls rfl (os rfl (os rfl (os rfl (os rfl (os rfl (os rfl (os rfl (os rfl oz)))))))))))))))))))))) ?_
          replace h0 := bnd_some h0
          obtain ⟨x_12, hx_12, h0⟩ := h0
          refine ztg _ rfl (ls rfl lz) (fun hg11_14_48 => opD_call ht68_U7 (c_num35 (gif_some hx_12 hg11_14_48) hst) ⟨le_of_eq (lz.trans (pif_pos hg11_14_48)), trivial⟩) ?_
          refine ztg _ rfl (ls rfl (ls rfl lz)) (fun hg11_15_49 => opD_eql (lz.trans (pif_pos hg11_15_49)) (ev_const _ _)) ?_
          refine zts _ rfl (opD_and (ls rfl (ls rfl (ls rfl lz))) lz) ?_
          refine zts _ rfl (opD_move lz) ?_
          refine ztg _ rfl lz (fun hg11_18_50 => opD_move (ls rfl (ls rfl (ls rfl (ls rfl (ls rfl (ls rfl (ls rfl (ls rfl (ls rfl (ls rfl (ls rfl (ls rfl (ls rfl (ls rfl (ls rfl (ls rfl (ls rfl (ls rfl (os rfl (os rfl (os rfl (os rfl oz))))))))))))))))))))))) ?_
          refine ztg _ rfl (ls rfl lz) (fun hg11_19_51 => opD_bin (lz.trans (pif_pos hg11_19_51)) (ev_const _ _) (fun w => errV_guard _ w _) (fun w => errV_beq _ w)) ?_
          refine ztg _ rfl (ls rfl (ls rfl lz)) (fun hg11_20_52 => opD_move (lz.trans (pif_pos hg11_20_52))) ?_
          refine ztg2 _ rfl lz (fun hg11_21_53 => opD_move (ls rfl (ls rfl (ls rfl (ls rfl (ls rfl (ls rfl (ls rfl (ls rfl (ls rfl (ls rfl (ls rfl (ls rfl (ls rfl (ls rfl (ls rfl (ls rfl (ls rfl (ls rfl (ls rfl (ls rfl (ls rfl (os rfl (os rfl oz)))))))))))))))))))))))) ?_
          refine ztg2 _ rfl (ls rfl lz) (fun hg11_22_54 => opD_bytes_str Go.Proofs.Tryd.underlying23 Go.Proofs.Tryd.underlying5 Go.Proofs.Tryd.underlying9 (lz.trans (pif_pos hg11_22_54))) ?_
          refine ztg2 _ rfl (ls rfl (ls rfl lz)) (fun hg11_23_55 => opD_move (ls rfl (ls rfl (ls rfl (ls rfl (ls rfl (ls rfl (ls rfl (ls rfl (ls rfl (ls rfl (ls rfl (ls rfl (ls rfl (ls rfl (ls rfl (ls rfl (ls rfl (ls rfl (ls rfl (ls rfl (ls rfl (ls rfl (ls rfl (os rfl (os rfl (os rfl oz))))))))))))))))))))))))))) ?_
          refine ztg2 _ rfl (ls rfl (ls rfl (ls rfl lz))) (fun hg11_24_56 => opD_bytes_str Go.Proofs.Tryd.underlying23 Go.Proofs.Tryd.underlying5 Go.Proofs.Tryd.underlying9 (lz.trans (pif_pos hg11_24_56))) ?_
          refine ztg2 _ rfl (ls rfl (ls rfl (ls rfl (ls rfl lz)))) (fun hg11_25_57 => opD_seql ((ls rfl (ls rfl lz)).trans (pif_pos hg11_25_57)) (lz.trans (pif_pos hg11_25_57))) ?_
          refine ztg2 _ rfl (ls rfl (ls rfl (ls rfl (ls rfl (ls rfl lz))))) (fun hg11_26_58 => opD_load_aggX (qs := [_, _, _, _, _, _, _, _, _, _, _]) ag118_U7 sz118_U7 (ls rfl (ls rfl (ls rfl (ls rfl (ls rfl (ls rfl (ls rfl (ls rfl (ls rfl (ls rfl (ls rfl (ls rfl (ls rfl (ls rfl (ls rfl (ls rfl (ls rfl (ls rfl (ls rfl (ls rfl (ls rfl (ls rfl (ls rfl (ls rfl (ls rfl (ls rfl oz)))))))))))))))))))))))))) (loc_getN rfl rfl) (Nat.le_of_ble_eq_true rfl) rfl) ?_
          refine ztg2 _ rfl (ls rfl (ls rfl (ls rfl (ls rfl (ls rfl (ls rfl lz)))))) (fun hg11_27_59 => opD_load_aggX (qs := [_, _, _, _, _, _, _, _, _, _, _]) ag118_U7 sz118_U7 (ls rfl (ls rfl (ls rfl (ls rfl (ls rfl (ls rfl (ls rfl (ls rfl (ls rfl (ls rfl (ls rfl (ls rfl (ls rfl (ls rfl (ls rfl (ls rfl (ls rfl (ls rfl (ls rfl (ls rfl (ls rfl (ls rfl (ls rfl (ls rfl (ls rfl (ls rfl (ls rfl (os rfl oz)))))))))))))))))))))))))))) (loc_getN rfl rfl) (Nat.le_of_ble_eq_true rfl) rfl) ?_
          refine ztg2 _ rfl (ls rfl (ls rfl (ls rfl (ls rfl (ls rfl (ls rfl (ls rfl lz))))))) (fun hg11_28_60 => opD_binA [.int .u8 x_1.Kind, .int .u64 x_1.Space, .int .u64 x_1.Handle, .int .i64 x_1.Ref.Slot, .int .u64 x_1.Ref.Gen, .int .u64 x_1.To, .string x_1.Key, .string x_1.Value, .int .u8 x_1.Rights, .int .u64 x_1.Most, .bool x_1.Flag] [.int .u8 x_2.Kind, .int .u64 x_2.Space, .int .u64 x_2.Handle, .int .i64 x_2.Ref.Slot, .int .u64 x_2.Ref.Gen, .int .u64 x_2.To, .string x_2.Key, .string x_2.Value, .int .u8 x_2.Rights, .int .u64 x_2.Most, .bool x_2.Flag] ((ls rfl lz).trans (pif_pos hg11_28_60)) (lz.trans (pif_pos hg11_28_60)) (fun w => (eq_Rq_g _ _ _ _ _ w)) (fun w => (eq_Rq _ _ _ _ _ _ _ _ _ _ _ _ _ _ _ _ _ _ _ _ _ _ w).1)) ?_
          refine ztg2 _ rfl (ls rfl (ls rfl (ls rfl (ls rfl (ls rfl (ls rfl (ls rfl (ls rfl lz)))))))) (fun hg11_29_61 => opD_beql Go.Proofs.Tryd.underlying4 ((ls rfl (ls rfl (ls rfl lz))).trans (pif_pos hg11_29_61)) (lz.trans (pif_pos hg11_29_61))) ?_
          refine ztg _ rfl (ls rfl (ls rfl (ls rfl (ls rfl (ls rfl (ls rfl (ls rfl (ls rfl (ls rfl (ls rfl (ls rfl (ls rfl lz)))))))))))) (fun hg11_30_62 => opD_or ((ls rfl (ls rfl (ls rfl (ls rfl (ls rfl (ls rfl (ls rfl (ls rfl (ls rfl lz))))))))).trans (pif_pos hg11_30_62)) (lz.trans (pif_and hg11_30_62))) ?_
          refine zts _ rfl (opD_and (ls rfl (ls rfl (ls rfl (ls rfl (ls rfl (ls rfl (ls rfl (ls rfl (ls rfl (ls rfl (ls rfl (ls rfl (ls rfl lz))))))))))))) lz) ?_
          refine zts _ rfl (opD_move lz) ?_
          replace h0 := bnd_some h0
          obtain ⟨x_13, hx_13, h0⟩ := h0
          refine ztg _ rfl lz (fun hg11_33_63 => opD_call ht62_U7 (c_sure35 (gif_some hx_13 hg11_33_63) hst) trivial) ?_
          refine zts _ rfl (opD_and (ls rfl lz) lz) ?_
          refine zts _ rfl (opD_assign lz) ?_
          refine .nil ?_
          refine aw_keep [(6, _)] ⟨lg lz, trivial⟩ ?_
          refine aw_ret ?_
          obtain rfl := some_of h0
          exact done_ext (.inr rfl) ((res_one rfl (it_tmp oz)).le (Pd.le_refl _)) (pl_bnd _ _ _)
    · skip
      refine aw_keep _ hH ?_
      refine aw_keep [(2, _), (3, _), (4, _), (7, _), (8, _)] ⟨lg oz, lg (os rfl oz), lg (os rfl (os rfl oz)), lg (os rfl (os rfl (os rfl oz))), lg (os rfl (os rfl (os rfl (os rfl oz)))), trivial⟩ ?_
      refine aw_seq ?_
      refine aw_seq ?_
      refine aw_region (by decide) ?_
      refine rts _ rfl (opD_fieldAddr fo114_5_U7 (os rfl oz)) ?_
      refine rts _ rfl (opD_load_one ag9_U7 lz (loc_getN rfl rfl) rfl) ?_
      refine rts _ rfl (opD_len_str Go.Proofs.Tryd.underlying9 lz) ?_
      refine rts _ rfl (opD_gtr lz (ev_const _ _)) ?_
      refine rts _ rfl (opD_move lz) ?_
      refine rtg _ rfl lz (fun hg2_5_64 => opD_fieldAddr fo114_6_U7 (ls rfl (ls rfl (ls rfl (ls rfl (ls rfl (os rfl oz))))))) ?_
      refine rtg _ rfl (ls rfl lz) (fun hg2_6_65 => opD_load_one ag9_U7 (lz.trans (pif_pos hg2_6_65)) (loc_getN rfl rfl) rfl) ?_
      refine rtg _ rfl (ls rfl (ls rfl lz)) (fun hg2_7_66 => opD_len_str Go.Proofs.Tryd.underlying9 (lz.trans (pif_pos hg2_7_66))) ?_
      refine rtg _ rfl (ls rfl (ls rfl (ls rfl lz))) (fun hg2_8_67 => opD_gtr (lz.trans (pif_pos hg2_8_67)) (ev_const _ _)) ?_
      refine rts _ rfl (opD_or (ls rfl (ls rfl (ls rfl (ls rfl lz)))) lz) ?_
      refine rts _ rfl (opD_move lz) ?_
      refine rtg _ rfl lz (fun hg2_11_68 => opD_fieldAddr fo114_5_U7 (ls rfl (ls rfl (ls rfl (ls rfl (ls rfl (ls rfl (ls rfl (ls rfl (ls rfl (ls rfl (ls rfl (os rfl (os rfl oz)))))))))))))) ?_
      refine rtg _ rfl (ls rfl lz) (fun hg2_12_69 => opD_load_one ag9_U7 (lz.trans (pif_pos hg2_12_69)) (loc_getN rfl rfl) rfl) ?_
      refine rtg _ rfl (ls rfl (ls rfl lz)) (fun hg2_13_70 => opD_len_str Go.Proofs.Tryd.underlying9 (lz.trans (pif_pos hg2_13_70))) ?_
      refine rtg _ rfl (ls rfl (ls rfl (ls rfl lz))) (fun hg2_14_71 => opD_gtr (lz.trans (pif_pos hg2_14_71)) (ev_const _ _)) ?_
      refine rts _ rfl (opD_or (ls rfl (ls rfl (ls rfl (ls rfl lz)))) lz) ?_
      refine rts _ rfl (opD_move lz) ?_
      refine rtg _ rfl lz (fun hg2_17_72 => opD_fieldAddr fo114_6_U7 (ls rfl (ls rfl (ls rfl (ls rfl (ls rfl (ls rfl (ls rfl (ls rfl (ls rfl (ls rfl (ls rfl (ls rfl (ls rfl (ls rfl (ls rfl (ls rfl (ls rfl (os rfl (os rfl oz)))))))))))))))))))) ?_
      refine rtg _ rfl (ls rfl lz) (fun hg2_18_73 => opD_load_one ag9_U7 (lz.trans (pif_pos hg2_18_73)) (loc_getN rfl rfl) rfl) ?_
      refine rtg _ rfl (ls rfl (ls rfl lz)) (fun hg2_19_74 => opD_len_str Go.Proofs.Tryd.underlying9 (lz.trans (pif_pos hg2_19_74))) ?_
      refine rtg _ rfl (ls rfl (ls rfl (ls rfl lz))) (fun hg2_20_75 => opD_gtr (lz.trans (pif_pos hg2_20_75)) (ev_const _ _)) ?_
      refine rts _ rfl (opD_or (ls rfl (ls rfl (ls rfl (ls rfl lz)))) lz) ?_
      refine .nil ?_
      refine aw_keep [(2, _), (7, _), (8, _), (44, _)] ⟨lg (ls rfl (ls rfl (ls rfl (ls rfl (ls rfl (ls rfl (ls rfl (ls rfl (ls rfl (ls rfl (ls rfl (ls rfl (ls rfl (ls rfl (ls rfl (ls rfl (ls rfl (ls rfl (ls rfl (ls rfl (ls rfl (ls rfl oz)))))))))))))))))))))), lg (ls rfl (ls rfl (ls rfl (ls rfl (ls rfl (ls rfl (ls rfl (ls rfl (ls rfl (ls rfl (ls rfl (ls rfl (ls rfl (ls rfl (ls rfl (ls rfl (ls rfl (ls rfl (ls rfl (ls rfl (ls rfl (ls rfl (os rfl (os rfl (os rfl oz))))))))))))))))))))))))), lg (ls rfl (ls rfl (ls rfl (ls rfl (ls rfl (ls rfl (ls rfl (ls rfl (ls rfl (ls rfl (ls rfl (ls rfl (ls rfl (ls rfl (ls rfl (ls rfl (ls rfl (ls rfl (ls rfl (ls rfl (ls rfl (ls rfl (os rfl (os rfl (os rfl (os rfl oz)))))))))))))))))))))))))), lg lz, trivial⟩ ?_
      refine aw_cond _ (os rfl (os rfl (os rfl oz))) (fun hc => ?_) (fun hc => ?_)
      · skip
        replace h0 := ifb_t h0 hc
        clear hc
        refine aw_seq ?_
        refine aw_region (by decide) ?_
        replace h0 := bnd_some h0
        obtain ⟨x_3, hx_3, h0⟩ := h0
        refine rts _ rfl (opD_call ht62_U7 (c_sure35 hx_3 hst) trivial) ?_
        refine rts _ rfl (opD_assign lz) ?_
        refine .nil ?_
        refine aw_keep [(6, _)] ⟨lg lz, trivial⟩ ?_
        refine aw_ret ?_
        obtain rfl := some_of h0
        exact done_ext (.inr rfl) ((res_one rfl (it_tmp oz)).le (Pd.le_refl _)) (pl_bnd _ _ _)
      · skip
        replace h0 := ifb_f h0 hc
        clear hc
        refine aw_skip ?_
        refine aw_keep [(2, _), (7, _), (8, _)] ⟨lg oz, lg (os rfl oz), lg (os rfl (os rfl oz)), trivial⟩ ?_
        refine aw_seq ?_
        refine aw_region (by decide) ?_
        refine rts _ rfl (opD_load_aggX (qs := [_, _, _, _, _, _, _, _, _, _, _]) ag118_U7 sz118_U7 (os rfl oz) (loc_getN rfl rfl) (Nat.le_of_ble_eq_true rfl) rfl) ?_
        replace h0 := bnd_some h0
        obtain ⟨x_4, hx_4, h0⟩ := h0
        refine rts _ rfl (opD_pure ht63_U7 (c_qenc hx_4) ⟨(le_of_eq lz).trans (agg_le ⟨(Pd.le_refl _), (Pd.le_refl _), (Pd.le_refl _), (Pd.le_refl _), (Pd.le_refl _), (Pd.le_refl _), (Pd.le_refl _), (Pd.le_refl _), (Pd.le_refl _), (Pd.le_refl _), (Pd.le_refl _), trivial⟩), trivial⟩) ?_
        refine rts _ rfl (opD_move lz) ?_
        refine rts _ rfl (opD_extract lz rfl) ?_
        refine rts _ rfl (opD_extract (ls rfl lz) rfl) ?_
        refine rts _ rfl (opD_assign (ls rfl lz)) ?_
        refine rts _ rfl (opD_assign (ls rfl lz)) ?_
        refine .nil ?_
        refine aw_keep [(2, _), (7, _), (8, _), (9, _), (10, _)] ⟨lg (ls rfl (ls rfl (ls rfl (ls rfl (ls rfl (ls rfl (ls rfl oz))))))), lg (ls rfl (ls rfl (ls rfl (ls rfl (ls rfl (ls rfl (ls rfl (os rfl oz)))))))), lg (ls rfl (ls rfl (ls rfl (ls rfl (ls rfl (ls rfl (ls rfl (os rfl (os rfl oz))))))))), lg (ls rfl lz), lg lz, trivial⟩ ?_
        refine aw_seq ?_
        refine aw_region (by decide) ?_
        refine rts _ rfl (opD_load_aggX (qs := [_, _, _, _, _, _, _, _, _, _, _]) ag118_U7 sz118_U7 (os rfl (os rfl oz)) (loc_getN rfl rfl) (Nat.le_of_ble_eq_true rfl) rfl) ?_
        replace h0 := bnd_some h0
        obtain ⟨x_5, hx_5, h0⟩ := h0
        refine rts _ rfl (opD_pure ht63_U7 (c_qenc hx_5) ⟨(le_of_eq lz).trans (agg_le ⟨(Pd.le_refl _), (Pd.le_refl _), (Pd.le_refl _), (Pd.le_refl _), (Pd.le_refl _), (Pd.le_refl _), (Pd.le_refl _), (Pd.le_refl _), (Pd.le_refl _), (Pd.le_refl _), (Pd.le_refl _), trivial⟩), trivial⟩) ?_
        refine rts _ rfl (opD_move lz) ?_
        refine rts _ rfl (opD_extract lz rfl) ?_
        refine rts _ rfl (opD_extract (ls rfl lz) rfl) ?_
        refine rts _ rfl (opD_assign (ls rfl lz)) ?_
        refine rts _ rfl (opD_assign (ls rfl lz)) ?_
        refine .nil ?_
        refine aw_keep [(2, _), (7, _), (8, _), (9, _), (10, _), (11, _), (12, _)] ⟨lg (ls rfl (ls rfl (ls rfl (ls rfl (ls rfl (ls rfl (ls rfl oz))))))), lg (ls rfl (ls rfl (ls rfl (ls rfl (ls rfl (ls rfl (ls rfl (os rfl oz)))))))), lg (ls rfl (ls rfl (ls rfl (ls rfl (ls rfl (ls rfl (ls rfl (os rfl (os rfl oz))))))))), lg (ls rfl (ls rfl (ls rfl (ls rfl (ls rfl (ls rfl (ls rfl (os rfl (os rfl (os rfl oz)))))))))), lg (ls rfl (ls rfl (ls rfl (ls rfl (ls rfl (ls rfl (ls rfl (os rfl (os rfl (os rfl (os rfl oz))))))))))), lg (ls rfl lz), lg lz, trivial⟩ ?_
        refine aw_seq ?_
        refine aw_seq ?_
        refine aw_region (by decide) ?_
        refine rts _ rfl (opD_move (os rfl (os rfl (os rfl (os rfl oz))))) ?_
        refine rts _ rfl (opD_bin lz (ev_const _ _) (fun w => errV_guard _ w _) (fun w => errV_beq _ w)) ?_
        refine .nil ?_
        refine aw_keep [(2, _), (7, _), (8, _), (9, _), (11, _), (12, _), (57, _)] ⟨lg (ls rfl (ls rfl oz)), lg (ls rfl (ls rfl (os rfl oz))), lg (ls rfl (ls rfl (os rfl (os rfl oz)))), lg (ls rfl (ls rfl (os rfl (os rfl (os rfl oz))))), lg (ls rfl (ls rfl (os rfl (os rfl (os rfl (os rfl (os rfl oz))))))), lg (ls rfl (ls rfl (os rfl (os rfl (os rfl (os rfl (os rfl (os rfl oz)))))))), lg lz, trivial⟩ ?_
        refine aw_cond _ (os rfl (os rfl (os rfl (os rfl (os rfl (os rfl oz)))))) (fun hc => ?_) (fun hc => ?_)
        · skip
          replace h0 := ifb_t h0 hc
          clear hc
          refine aw_seq ?_
          refine aw_region (by decide) ?_
          refine rts _ rfl (opD_load_aggX (qs := [_, _, _, _, _, _, _, _, _, _, _]) ag118_U7 sz118_U7 (os rfl oz) (loc_getN rfl rfl) (Nat.le_of_ble_eq_true rfl) rfl) ?_
          replace h0 := bnd_some h0
          obtain ⟨x_6, hx_6, h0⟩ := h0
          refine rts _ rfl (opD_pure ht71_U7 (c_qcheck hx_6) ⟨(le_of_eq lz).trans (agg_le ⟨(Pd.le_refl _), (Pd.le_refl _), (Pd.le_refl _), (Pd.le_refl _), (Pd.le_refl _), (Pd.le_refl _), (Pd.le_refl _), (Pd.le_refl _), (Pd.le_refl _), (Pd.le_refl _), (Pd.le_refl _), trivial⟩), trivial⟩) ?_
          refine rts _ rfl (opD_bin lz (ev_const _ _) (fun w => errV_guard _ w _) (fun w => errV_beq _ w)) ?_
          refine rts _ rfl (opD_move lz) ?_
          replace h0 := bnd_some h0
          obtain ⟨x_7, hx_7, h0⟩ := h0
          refine rtg _ rfl lz (fun hg7_4_76 => opD_call ht62_U7 (c_sure35 (gif_some hx_7 hg7_4_76) hst) trivial) ?_
          refine rts _ rfl (opD_and (ls rfl lz) lz) ?_
          refine rts _ rfl (opD_assign lz) ?_
          refine .nil ?_
          refine aw_keep [(6, _)] ⟨lg lz, trivial⟩ ?_
          refine aw_ret ?_
          obtain rfl := some_of h0
          exact done_ext (.inr rfl) ((res_one rfl (it_tmp oz)).le (Pd.le_refl _)) (pl_bnd _ _ _)
        · skip
          replace h0 := ifb_f h0 hc
          clear hc
          refine aw_skip ?_
          refine aw_keep [(2, _), (7, _), (8, _), (9, _), (11, _), (12, _)] ⟨lg oz, lg (os rfl oz), lg (os rfl (os rfl oz)), lg (os rfl (os rfl (os rfl oz))), lg (os rfl (os rfl (os rfl (os rfl oz)))), lg (os rfl (os rfl (os rfl (os rfl (os rfl oz))))), trivial⟩ ?_
          refine aw_seq ?_
          refine aw_region (by decide) ?_
          refine rts _ rfl (opD_move (os rfl (os rfl (os rfl oz)))) ?_
          replace h0 := bnd_some h0
          obtain ⟨x_8, hx_8, h0⟩ := h0
          refine rts _ rfl (opD_pure ht66_U7 (c_qdec hx_8) ⟨le_of_eq lz, trivial⟩) ?_
          refine rts _ rfl (opD_move lz) ?_
          refine rts _ rfl (opD_extract lz rfl) ?_
          refine rts _ rfl (opD_extract (ls rfl lz) rfl) ?_
          refine rts _ rfl (allocN rfl zt118_U7 (by first | exact List.length_nil | (simp only [List.length_cons, List.length_nil, Nat.zero_add, Nat.reduceAdd] <;> rfl)) (by simp only [na, nb, nc, nd, nf, ng, nh, ni, nj, nk] <;> rfl)) ?_
          refine rts _ rfl (storeAN rfl sz118_U7 lz (ls rfl (ls rfl lz)) (ones_cons (one_pl rfl) (ones_cons (one_pl rfl) (ones_cons (one_pl rfl) (ones_cons (one_pl rfl) (ones_cons (one_pl rfl) (ones_cons (one_pl rfl) (ones_cons (one_pl rfl) (ones_cons (one_pl rfl) (ones_cons (one_pl rfl) (ones_cons (one_pl rfl) (ones_cons (one_pl rfl) ones_nil))))))))))) rfl rfl (Nat.le_of_ble_eq_true rfl) (List.cons_ne_nil _ _) (bnd_cons (pl_bnd _ _ _) (bnd_cons (pl_bnd _ _ _) (bnd_cons (pl_bnd _ _ _) (bnd_cons (pl_bnd _ _ _) (bnd_cons (pl_bnd _ _ _) (bnd_cons (pl_bnd _ _ _) (bnd_cons (pl_bnd _ _ _) (bnd_cons (pl_bnd _ _ _) (bnd_cons (pl_bnd _ _ _) (bnd_cons (pl_bnd _ _ _) (bnd_cons (pl_bnd _ _ _) bnd_nil))))))))))) (by simp only [na, nb, nc, nd, nf, ng, nh, ni, nj, nk] <;> rfl) (by simp only [na, nb, nc, nd, nf, ng, nh, ni, nj, nk] <;> rfl)) ?_
          refine rts _ rfl (opD_assign (lx (ls rfl lz))) ?_
          refine .nil ?_
          refine aw_keep [(2, _), (7, _), (8, _), (9, _), (11, _), (12, _), (13, _), (14, _)] ⟨lg (ls rfl (lx (ls rfl (ls rfl (ls rfl (ls rfl (ls rfl (ls rfl oz)))))))), lg (ls rfl (lx (ls rfl (ls rfl (ls rfl (ls rfl (ls rfl (ls rfl (os rfl oz))))))))), lg (ls rfl (lx (ls rfl (ls rfl (ls rfl (ls rfl (ls rfl (ls rfl (os rfl (os rfl oz)))))))))), lg (ls rfl (lx (ls rfl (ls rfl (ls rfl (ls rfl (ls rfl (ls rfl (os rfl (os rfl (os rfl oz))))))))))), lg (ls rfl (lx (ls rfl (ls rfl (ls rfl (ls rfl (ls rfl (ls rfl (os rfl (os rfl (os rfl (os rfl oz)))))))))))), lg (ls rfl (lx (ls rfl (ls rfl (ls rfl (ls rfl (ls rfl (ls rfl (os rfl (os rfl (os rfl (os rfl (os rfl oz))))))))))))), lg (ls rfl (lx lz)), lg lz, trivial⟩ ?_
          refine aw_seq ?_
          refine aw_region (by decide) ?_
          refine rts _ rfl (opD_move (os rfl (os rfl (os rfl oz)))) ?_
          refine rts _ rfl (opD_move (ls rfl oz)) ?_
          refine rts _ rfl (opD_conv_int Go.Proofs.Tryd.underlying58 Go.Proofs.Tryd.underlying3 lz rfl) ?_
          refine rts _ rfl (opD_move (ls rfl (ls rfl (ls rfl (os rfl (os rfl (os rfl oz))))))) ?_
          refine rts _ rfl (opD_len_sl Go.Proofs.Tryd.underlying23 lz) ?_
          refine rts _ rfl (opD_max (ev_const _ _) lz rfl) ?_
          replace h0 := grd_some h0
          obtain ⟨hg_77, h0⟩ := h0
          refine rts _ rfl (opD_rem (ls rfl (ls rfl (ls rfl lz))) lz hg_77 rfl) ?_
          replace h0 := grd_some h0
          obtain ⟨hg_78, h0⟩ := h0
          refine rts _ rfl (opD_slice_to ((IntKind.i64.wrap (p2)).tmod (if (x_4.1.length : Int) > 1 then (x_4.1.length : Int) else 1)).toNat Go.Proofs.Tryd.underlying23 sz5_U7 (ls rfl (ls rfl (ls rfl (ls rfl (ls rfl (ls rfl lz)))))) lz hg_78.eq hg_78.2) ?_
          replace h0 := bnd_some h0
          obtain ⟨x_9, hx_9, h0⟩ := h0
          refine rts _ rfl (opD_pure ht66_U7 (c_qdec hx_9) ⟨le_of_eq lz, trivial⟩) ?_
          refine rts _ rfl (opD_move lz) ?_
          refine rts _ rfl (opD_extract lz rfl) ?_
          refine rts _ rfl (opD_extract (ls rfl lz) rfl) ?_
          refine rts _ rfl (allocN rfl zt118_U7 (by first | exact List.length_nil | (simp only [List.length_cons, List.length_nil, Nat.zero_add, Nat.reduceAdd] <;> rfl)) (by simp only [na, nb, nc, nd, nf, ng, nh, ni, nj, nk] <;> rfl)) ?_
          refine rts _ rfl (storeAN rfl sz118_U7 lz (ls rfl (ls rfl lz)) (ones_cons (one_pl rfl) (ones_cons (one_pl rfl) (ones_cons (one_pl rfl) (ones_cons (one_pl rfl) (ones_cons (one_pl rfl) (ones_cons (one_pl rfl) (ones_cons (one_pl rfl) (ones_cons (one_pl rfl) (ones_cons (one_pl rfl) (ones_cons (one_pl rfl) (ones_cons (one_pl rfl) ones_nil))))))))))) rfl rfl (Nat.le_of_ble_eq_true rfl) (List.cons_ne_nil _ _) (bnd_cons (pl_bnd _ _ _) (bnd_cons (pl_bnd _ _ _) (bnd_cons (pl_bnd _ _ _) (bnd_cons (pl_bnd _ _ _) (bnd_cons (pl_bnd _ _ _) (bnd_cons (pl_bnd _ _ _) (bnd_cons (pl_bnd _ _ _) (bnd_cons (pl_bnd _ _ _) (bnd_cons (pl_bnd _ _ _) (bnd_cons (pl_bnd _ _ _) (bnd_cons (pl_bnd _ _ _) bnd_nil))))))))))) (by simp only [na, nb, nc, nd, nf, ng, nh, ni, nj, nk] <;> rfl) (by simp only [na, nb, nc, nd, nf, ng, nh, ni, nj, nk] <;> rfl)) ?_
          refine rts _ rfl (opD_assign (lx (ls rfl lz))) ?_
          refine .nil ?_
          refine aw_keep [(7, _), (8, _), (9, _), (11, _), (12, _), (13, _), (14, _), (16, _)] ⟨lg (ls rfl (lx (ls rfl (ls rfl (ls rfl (ls rfl (ls rfl (ls rfl (ls rfl (ls rfl (ls rfl (ls rfl (ls rfl (ls rfl (ls rfl (os rfl oz)))))))))))))))), lg (ls rfl (lx (ls rfl (ls rfl (ls rfl (ls rfl (ls rfl (ls rfl (ls rfl (ls rfl (ls rfl (ls rfl (ls rfl (ls rfl (ls rfl (os rfl (os rfl oz))))))))))))))))), lg (ls rfl (lx (ls rfl (ls rfl (ls rfl (ls rfl (ls rfl (ls rfl (ls rfl (ls rfl (ls rfl (ls rfl (ls rfl (ls rfl (ls rfl (os rfl (os rfl (os rfl oz)))))))))))))))))), lg (ls rfl (lx (ls rfl (ls rfl (ls rfl (ls rfl (ls rfl (ls rfl (ls rfl (ls rfl (ls rfl (ls rfl (ls rfl (ls rfl (ls rfl (os rfl (os rfl (os rfl (os rfl oz))))))))))))))))))), lg (ls rfl (lx (ls rfl (ls rfl (ls rfl (ls rfl (ls rfl (ls rfl (ls rfl (ls rfl (ls rfl (ls rfl (ls rfl (ls rfl (ls rfl (os rfl (os rfl (os rfl (os rfl (os rfl oz)))))))))))))))))))), lg (ls rfl (lx (ls rfl (ls rfl (ls rfl (ls rfl (ls rfl (ls rfl (ls rfl (ls rfl (ls rfl (ls rfl (ls rfl (ls rfl (ls rfl (os rfl (os rfl (os rfl (os rfl (os rfl (os rfl oz))))))))))))))))))))), lg (ls rfl (lx (ls rfl (ls rfl (ls rfl (ls rfl (ls rfl (ls rfl (ls rfl (ls rfl (ls rfl (ls rfl (ls rfl (ls rfl (ls rfl (os rfl (os rfl (os rfl (os rfl (os rfl (os rfl (os rfl oz)))))))))))))))))))))), lg lz, trivial⟩ ?_
          refine aw_seq ?_
          refine aw_region (by decide) ?_
          refine rts _ rfl (opD_buildEmpty (k := kI .u8) Go.Proofs.Tryd.underlying23 sz5_U7 zt5_U7 rfl (by first | exact List.length_nil | (simp only [List.length_cons, List.length_nil, Nat.zero_add, Nat.reduceAdd] <;> rfl)) (by simp only [na, nb, nc, nd, nf, ng, nh, ni, nj, nk] <;> rfl)) ?_
          refine rts _ rfl (opD_move (ls rfl (os rfl (os rfl oz)))) ?_
          replace h0 := grd_some h0
          obtain ⟨hg_79, h0⟩ := h0
          refine rts _ rfl (opD_appendX Go.Proofs.Tryd.underlying23 el5_U7 (ls rfl lz) lz rfl hg_79.1 hg_79.2 (List.nil_append _) (by simp only [na, nb, nc, nd, nf, ng, nh, ni, nj, nk] <;> rfl)) ?_
          refine rts _ rfl (opD_buildOwn (k := kI .u8) ([0] : (List Int)) Go.Proofs.Tryd.underlying23 sz5_U7 zt5_U7 (by decide) rfl (parts_cons (cells1 (ev_const _ _) (one_pl rfl)) parts_nil) rfl rfl (by first | exact List.length_nil | (simp only [List.length_cons, List.length_nil, Nat.zero_add, Nat.reduceAdd] <;> rfl)) (by simp only [na, nb, nc, nd, nf, ng, nh, ni, nj, nk] <;> rfl)) ?_
          replace h0 := grd_some h0
          obtain ⟨hg_80, h0⟩ := h0
          refine rts _ rfl (opD_appendX Go.Proofs.Tryd.underlying23 el5_U7 (ls rfl lz) lz rfl hg_80.1 hg_80.2 rfl (by simp only [na, nb, nc, nd, nf, ng, nh, ni, nj, nk] <;> rfl)) ?_
          replace h0 := bnd_some h0
          obtain ⟨x_10, hx_10, h0⟩ := h0
          refine rts _ rfl (opD_pure ht66_U7 (c_qdec hx_10) ⟨(le_of_eq lz).trans (sl_any _ _ _ _), trivial⟩) ?_
          refine rts _ rfl (opD_move lz) ?_
          refine rts _ rfl (opD_extract lz rfl) ?_
          refine rts _ rfl (opD_extract (ls rfl lz) rfl) ?_
          refine rts _ rfl (allocN rfl zt118_U7 (by first | exact List.length_nil | (simp only [List.length_cons, List.length_nil, Nat.zero_add, Nat.reduceAdd] <;> rfl)) (by simp only [na, nb, nc, nd, nf, ng, nh, ni, nj, nk] <;> rfl)) ?_
          refine rts _ rfl (storeAN rfl sz118_U7 lz (ls rfl (ls rfl lz)) (ones_cons (one_pl rfl) (ones_cons (one_pl rfl) (ones_cons (one_pl rfl) (ones_cons (one_pl rfl) (ones_cons (one_pl rfl) (ones_cons (one_pl rfl) (ones_cons (one_pl rfl) (ones_cons (one_pl rfl) (ones_cons (one_pl rfl) (ones_cons (one_pl rfl) (ones_cons (one_pl rfl) ones_nil))))))))))) rfl rfl (Nat.le_of_ble_eq_true rfl) (List.cons_ne_nil _ _) (bnd_cons (pl_bnd _ _ _) (bnd_cons (pl_bnd _ _ _) (bnd_cons (pl_bnd _ _ _) (bnd_cons (pl_bnd _ _ _) (bnd_cons (pl_bnd _ _ _) (bnd_cons (pl_bnd _ _ _) (bnd_cons (pl_bnd _ _ _) (bnd_cons (pl_bnd _ _ _) (bnd_cons (pl_bnd _ _ _) (bnd_cons (pl_bnd _ _ _) (bnd_cons (pl_bnd _ _ _) bnd_nil))))))))))) (by simp only [na, nb, nc, nd, nf, ng, nh, ni, nj, nk] <;> rfl) (by simp only [na, nb, nc, nd, nf, ng, nh, ni, nj, nk] <;> rfl)) ?_
          refine rts _ rfl (opD_assign (lx (ls rfl lz))) ?_
          refine .nil ?_
          refine aw_keep [(7, _), (8, _), (9, _), (11, _), (12, _), (13, _), (14, _), (16, _), (18, _)] ⟨lg (ls rfl (lx (ls rfl (ls rfl (ls rfl (ls rfl (ls rfl (ls rfl (ls rfl (ls rfl (ls rfl (ls rfl oz)))))))))))), lg (ls rfl (lx (ls rfl (ls rfl (ls rfl (ls rfl (ls rfl (ls rfl (ls rfl (ls rfl (ls rfl (ls rfl (os rfl oz))))))))))))), lg (ls rfl (lx (ls rfl (ls rfl (ls rfl (ls rfl (ls rfl (ls rfl (ls rfl (ls rfl (ls rfl (ls rfl (os rfl (os rfl oz)))))))))))))), lg (ls rfl (lx (ls rfl (ls rfl (ls rfl (ls rfl (ls rfl (ls rfl (ls rfl (ls rfl (ls rfl (ls rfl (os rfl (os rfl (os rfl oz))))))))))))))), lg (ls rfl (lx (ls rfl (ls rfl (ls rfl (ls rfl (ls rfl (ls rfl (ls rfl (ls rfl (ls rfl (ls rfl (os rfl (os rfl (os rfl (os rfl oz)))))))))))))))), lg (ls rfl (lx (ls rfl (ls rfl (ls rfl (ls rfl (ls rfl (ls rfl (ls rfl (ls rfl (ls rfl (ls rfl (os rfl (os rfl (os rfl (os rfl (os rfl oz))))))))))))))))), lg (ls rfl (lx (ls rfl (ls rfl (ls rfl (ls rfl (ls rfl (ls rfl (ls rfl (ls rfl (ls rfl (ls rfl (os rfl (os rfl (os rfl (os rfl (os rfl (os rfl oz)))))))))))))))))), lg (ls rfl (lx (ls rfl (ls rfl (ls rfl (ls rfl (ls rfl (ls rfl (ls rfl (ls rfl (ls rfl (ls rfl (os rfl (os rfl (os rfl (os rfl (os rfl (os rfl (os rfl oz))))))))))))))))))), lg lz, trivial⟩ ?_
          refine aw_seq ?_
          refine aw_flat mixed_U7 (by decide +kernel) ?_
          refine zts _ rfl (opD_move (os rfl (os rfl (os rfl (os rfl (os rfl (os rfl oz))))))) ?_
          refine zts _ rfl (opD_bin lz (ev_const _ _) (fun w => errV_geql _ w _) (fun w => errV_eql _ w)) ?_
          refine zts _ rfl (opD_move lz) ?_
          refine ztg _ rfl lz (fun hg11_3_104 => opD_load_aggX (qs := [_, _, _, _, _, _, _, _, _, _, _]) ag118_U7 sz118_U7 (ls rfl (ls rfl (ls rfl (os rfl (os rfl (os rfl (os rfl (os rfl oz)))))))) (loc_getN rfl rfl) (Nat.le_of_ble_eq_true rfl) rfl) ?_
          refine ztg _ rfl (ls rfl lz) (fun hg11_4_105 => opD_load_aggX (qs := [_, _, _, _, _, _, _, _, _, _, _]) ag118_U7 sz118_U7 (ls rfl (ls rfl (ls rfl (ls rfl oz)))) (loc_getN rfl rfl) (Nat.le_of_ble_eq_true rfl) rfl) ?_
          refine ztg _ rfl (ls rfl (ls rfl lz)) (fun hg11_5_106 => opD_binA [.int .u8 x_8.1.Kind, .int .u64 x_8.1.Space, .int .u64 x_8.1.Handle, .int .i64 x_8.1.Ref.Slot, .int .u64 x_8.1.Ref.Gen, .int .u64 x_8.1.To, .string x_8.1.Key, .string x_8.1.Value, .int .u8 x_8.1.Rights, .int .u64 x_8.1.Most, .bool x_8.1.Flag] [.int .u8 x_1.Kind, .int .u64 x_1.Space, .int .u64 x_1.Handle, .int .i64 x_1.Ref.Slot, .int .u64 x_1.Ref.Gen, .int .u64 x_1.To, .string x_1.Key, .string x_1.Value, .int .u8 x_1.Rights, .int .u64 x_1.Most, .bool x_1.Flag] ((ls rfl lz).trans (pif_pos hg11_5_106)) (lz.trans (pif_pos hg11_5_106)) (fun w => (eq_Rq_g _ _ _ _ _ w)) (fun w => (eq_Rq _ _ _ _ _ _ _ _ _ _ _ _ _ _ _ _ _ _ _ _ _ _ w).1)) ?_
          refine zts _ rfl (opD_and (ls rfl (ls rfl (ls rfl lz))) lz) ?_
          refine zts _ rfl (opD_move lz) ?_
          refine ztg _ rfl lz (fun hg11_8_107 => opD_move (ls rfl (ls rfl (ls rfl (ls rfl (ls rfl (ls rfl (ls rfl (ls rfl (os rfl (os rfl (os rfl (os rfl (os rfl (os rfl (os rfl oz)))))))))))))))) ?_
          replace h0 := bnd_some h0
          obtain ⟨x_11, hx_11, h0⟩ := h0
          refine ztg _ rfl (ls rfl lz) (fun hg11_9_108 => opD_call ht68_U7 (c_num35 (gif_some hx_11 hg11_9_108) hst) ⟨le_of_eq (lz.trans (pif_pos hg11_9_108)), trivial⟩) ?_
          refine ztg _ rfl (ls rfl (ls rfl lz)) (fun hg11_10_109 => opD_eql (lz.trans (pif_pos hg11_10_109)) (ev_const _ _)) ?_
          refine zts _ rfl (opD_and (ls rfl (ls rfl (ls rfl lz))) lz) ?_
          refine zts _ rfl (opD_move lz) ?_
          refine ztg _ rfl lz (fun hg11_13_110 => opD_move (ls rfl (ls rfl (ls rfl (ls rfl (ls rfl (ls rfl (ls rfl (ls rfl (ls rfl (ls rfl (ls rfl (ls rfl (ls rfl (os rfl (os rfl (os rfl (os rfl (os rfl (os rfl (os rfl (os rfl oz)))))))))))))))))))))) ?_
          replace h0 := bnd_some h0
          obtain ⟨x_12, hx_12, h0⟩ := h0
          refine ztg _ rfl (ls rfl lz) (fun hg11_14_111 => opD_call ht68_U7 (c_num35 (gif_some hx_12 hg11_14_111) hst) ⟨le_of_eq (lz.trans (pif_pos hg11_14_111)), trivial⟩) ?_
          refine ztg _ rfl (ls rfl (ls rfl lz)) (fun hg11_15_112 => opD_eql (lz.trans (pif_pos hg11_15_112)) (ev_const _ _)) ?_
          refine zts _ rfl (opD_and (ls rfl (ls rfl (ls rfl lz))) lz) ?_
          refine zts _ rfl (opD_move lz) ?_
          refine ztg _ rfl lz (fun hg11_18_113 => opD_move (ls rfl (ls rfl (ls rfl (ls rfl (ls rfl (ls rfl (ls rfl (ls rfl (ls rfl (ls rfl (ls rfl (ls rfl (ls rfl (ls rfl (ls rfl (ls rfl (ls rfl (ls rfl (os rfl (os rfl (os rfl (os rfl oz))))))))))))))))))))))) ?_
          refine ztg _ rfl (ls rfl lz) (fun hg11_19_114 => opD_bin (lz.trans (pif_pos hg11_19_114)) (ev_const _ _) (fun w => errV_guard _ w _) (fun w => errV_beq _ w)) ?_
          refine ztg _ rfl (ls rfl (ls rfl lz)) (fun hg11_20_115 => opD_move (lz.trans (pif_pos hg11_20_115))) ?_
          refine ztg2 _ rfl lz (fun hg11_21_116 => opD_move (ls rfl (ls rfl (ls rfl (ls rfl (ls rfl (ls rfl (ls rfl (ls rfl (ls rfl (ls rfl (ls rfl (ls rfl (ls rfl (ls rfl (ls rfl (ls rfl (ls rfl (ls rfl (ls rfl (ls rfl (ls rfl (os rfl (os rfl oz)))))))))))))))))))))))) ?_
          refine ztg2 _ rfl (ls rfl lz) (fun hg11_22_117 => opD_bytes_str Go.Proofs.Tryd.underlying23 Go.Proofs.Tryd.underlying5 Go.Proofs.Tryd.underlying9 (lz.trans (pif_pos hg11_22_117))) ?_
          refine ztg2 _ rfl (ls rfl (ls rfl lz)) (fun hg11_23_118 => opD_move (ls rfl (ls rfl (ls rfl (ls rfl (ls rfl (ls rfl (ls rfl (ls rfl (ls rfl (ls rfl (ls rfl (ls rfl (ls rfl (ls rfl (ls rfl (ls rfl (ls rfl (ls rfl (ls rfl (ls rfl (ls rfl (ls rfl (ls rfl (os rfl (os rfl (os rfl oz))))))))))))))))))))))))))) ?_
          refine ztg2 _ rfl (ls rfl (ls rfl (ls rfl lz))) (fun hg11_24_119 => opD_bytes_str Go.Proofs.Tryd.underlying23 Go.Proofs.Tryd.underlying5 Go.Proofs.Tryd.underlying9 (lz.trans (pif_pos hg11_24_119))) ?_
          refine ztg2 _ rfl (ls rfl (ls rfl (ls rfl (ls rfl lz)))) (fun hg11_25_120 => opD_seql ((ls rfl (ls rfl lz)).trans (pif_pos hg11_25_120)) (lz.trans (pif_pos hg11_25_120))) ?_
          refine ztg2 _ rfl (ls rfl (ls rfl (ls rfl (ls rfl (ls rfl lz))))) (fun hg11_26_121 => opD_load_aggX (qs := [_, _, _, _, _, _, _, _, _, _, _]) ag118_U7 sz118_U7 (ls rfl (ls rfl (ls rfl (ls rfl (ls rfl (ls rfl (ls rfl (ls rfl (ls rfl (ls rfl (ls rfl (ls rfl (ls rfl (ls rfl (ls rfl (ls rfl (ls rfl (ls rfl (ls rfl (ls rfl (ls rfl (ls rfl (ls rfl (ls rfl (ls rfl (ls rfl oz)))))))))))))))))))))))))) (loc_getN rfl rfl) (Nat.le_of_ble_eq_true rfl) rfl) ?_
          refine ztg2 _ rfl (ls rfl (ls rfl (ls rfl (ls rfl (ls rfl (ls rfl lz)))))) (fun hg11_27_122 => opD_load_aggX (qs := [_, _, _, _, _, _, _, _, _, _, _]) ag118_U7 sz118_U7 (ls rfl (ls rfl (ls rfl (ls rfl (ls rfl (ls rfl (ls rfl (ls rfl (ls rfl (ls rfl (ls rfl (ls rfl (ls rfl (ls rfl (ls rfl (ls rfl (ls rfl (ls rfl (ls rfl (ls rfl (ls rfl (ls rfl (ls rfl (ls rfl (ls rfl (ls rfl (ls rfl (os rfl oz)))))))))))))))))))))))))))) (loc_getN rfl rfl) (Nat.le_of_ble_eq_true rfl) rfl) ?_
          refine ztg2 _ rfl (ls rfl (ls rfl (ls rfl (ls rfl (ls rfl (ls rfl (ls rfl lz))))))) (fun hg11_28_123 => opD_binA [.int .u8 x_1.Kind, .int .u64 x_1.Space, .int .u64 x_1.Handle, .int .i64 x_1.Ref.Slot, .int .u64 x_1.Ref.Gen, .int .u64 x_1.To, .string x_1.Key, .string x_1.Value, .int .u8 x_1.Rights, .int .u64 x_1.Most, .bool x_1.Flag] [.int .u8 x_2.Kind, .int .u64 x_2.Space, .int .u64 x_2.Handle, .int .i64 x_2.Ref.Slot, .int .u64 x_2.Ref.Gen, .int .u64 x_2.To, .string x_2.Key, .string x_2.Value, .int .u8 x_2.Rights, .int .u64 x_2.Most, .bool x_2.Flag] ((ls rfl lz).trans (pif_pos hg11_28_123)) (lz.trans (pif_pos hg11_28_123)) (fun w => (eq_Rq_g _ _ _ _ _ w)) (fun w => (eq_Rq _ _ _ _ _ _ _ _ _ _ _ _ _ _ _ _ _ _ _ _ _ _ w).1)) ?_
          refine ztg2 _ rfl (ls rfl (ls rfl (ls rfl (ls rfl (ls rfl (ls rfl (ls rfl (ls rfl lz)))))))) (fun hg11_29_124 => opD_beql Go.Proofs.Tryd.underlying4 ((ls rfl (ls rfl (ls rfl lz))).trans (pif_pos hg11_29_124)) (lz.trans (pif_pos hg11_29_124))) ?_
          refine ztg _ rfl (ls rfl (ls rfl (ls rfl (ls rfl (ls rfl (ls rfl (ls rfl (ls rfl (ls rfl (ls rfl (ls rfl (ls rfl lz)))))))))))) (fun hg11_30_125 => opD_or ((ls rfl (ls rfl (ls rfl (ls rfl (ls rfl (ls rfl (ls rfl (ls rfl (ls rfl lz))))))))).trans (pif_pos hg11_30_125)) (lz.trans (pif_and hg11_30_125))) ?_
          refine zts _ rfl (opD_and (ls rfl (ls rfl (ls rfl (ls rfl (ls rfl (ls rfl (ls rfl (ls rfl (ls rfl (ls rfl (ls rfl (ls rfl (ls rfl lz))))))))))))) lz) ?_
          refine zts _ rfl (opD_move lz) ?_
          replace h0 := bnd_some h0
          obtain ⟨x_13, hx_13, h0⟩ := h0
          refine ztg _ rfl lz (fun hg11_33_126 => opD_call ht62_U7 (c_sure35 (gif_some hx_13 hg11_33_126) hst) trivial) ?_
          refine zts _ rfl (opD_and (ls rfl lz) lz) ?_
          refine zts _ rfl (opD_assign lz) ?_
          refine .nil ?_
          refine aw_keep [(6, _)] ⟨lg lz, trivial⟩ ?_
          refine aw_ret ?_
          obtain rfl := some_of h0
          exact done_ext (.inr rfl) ((res_one rfl (it_tmp oz)).le (Pd.le_refl _)) (pl_bnd _ _ _)
end Go.Proofs.YtmnhfpcbfdgbcaaDoor.Eng.A
