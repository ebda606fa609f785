/- TLx: what the functions of one package do, walked; used by the laws of this seat. -/
import Derived.Test.YtmnhfpcbfdgbcaaDoorTLd
namespace Go.Proofs.YtmnhfpcbfdgbcaaDoor.Eng.Lx
set_option linter.unusedVariables false
set_option linter.unusedSimpArgs false
open Go.RowKit Go.Proofs.YtmnhfpcbfdgbcaaDoor.Plain Go.Proofs.YtmnhfpcbfdgbcaaDoor.Eng

theorem ag70 : aggT Go.Proofs.Tryd.prog 70 = some true := by kernel_rfl
theorem sz70 : sizeT Go.Proofs.Tryd.prog 70 = some 2 := by kernel_rfl
theorem zt70 : zeroT Go.Proofs.Tryd.prog 70 = some [.int .u64 0, .slice none 0 0] := by kernel_rfl
theorem pt41 : placesT Go.Proofs.Tryd.prog 41 2 = some [(0, 1), (1, 1)] := by kernel_rfl
theorem zt41 : zeroT Go.Proofs.Tryd.prog 41 = some [.slice none 0 0, .bool false] := by kernel_rfl
theorem ht32 : hasText Go.Proofs.Tryd.prog 32 = true := by kernel_rfl
theorem sz41 : sizeT Go.Proofs.Tryd.prog 41 = some 2 := by kernel_rfl
theorem ag41 : aggT Go.Proofs.Tryd.prog 41 = some true := by kernel_rfl
theorem pt70 : placesT Go.Proofs.Tryd.prog 70 2 = some [(0, 1), (1, 1)] := by kernel_rfl
theorem fo41_1 : fieldOff Go.Proofs.Tryd.prog 41 1 = some 1 := by kernel_rfl
theorem ag4 : aggT Go.Proofs.Tryd.prog 4 = some false := by kernel_rfl
theorem ht31 : hasText Go.Proofs.Tryd.prog 31 = true := by kernel_rfl
theorem ht33 : hasText Go.Proofs.Tryd.prog 33 = true := by kernel_rfl
theorem fo70_1 : fieldOff Go.Proofs.Tryd.prog 70 1 = some 1 := by kernel_rfl
theorem ag54 : aggT Go.Proofs.Tryd.prog 54 = some false := by kernel_rfl
theorem pt60 : placesT Go.Proofs.Tryd.prog 60 5 = some [(0, 1), (1, 1), (2, 1), (3, 1), (4, 1)] := by kernel_rfl
theorem zt60 : zeroT Go.Proofs.Tryd.prog 60 = some [.int .u64 0, .int .u64 0, .int .u8 0, .int .u16 0, .string ⟨#[]⟩] := by kernel_rfl
theorem sz60 : sizeT Go.Proofs.Tryd.prog 60 = some 5 := by kernel_rfl
theorem el60 : elT Go.Proofs.Tryd.prog 60 = some (5, 40) := by kernel_rfl
theorem sz54 : sizeT Go.Proofs.Tryd.prog 54 = some 1 := by kernel_rfl
theorem ht34 : hasText Go.Proofs.Tryd.prog 34 = true := by kernel_rfl
theorem ht48 : hasText Go.Proofs.Tryd.prog 48 = true := by kernel_rfl

open Go.Proofs.YtmnhfpcbfdgbcaaDoor.Eng.Pk Go.Proofs.YtmnhfpcbfdgbcaaDoor.Eng.Rd Go.Proofs.YtmnhfpcbfdgbcaaDoor.Eng.Pb Go.Proofs.YtmnhfpcbfdgbcaaDoor.Eng.Er Go.Proofs.YtmnhfpcbfdgbcaaDoor.Eng.Rf06 Go.Proofs.YtmnhfpcbfdgbcaaDoor.Eng.Lg Go.Proofs.YtmnhfpcbfdgbcaaDoor.Eng.Lc Go.Proofs.YtmnhfpcbfdgbcaaDoor.Eng.Ls Go.Proofs.YtmnhfpcbfdgbcaaDoor.Eng.Lt Go.Proofs.YtmnhfpcbfdgbcaaDoor.Eng.Le Go.Proofs.YtmnhfpcbfdgbcaaDoor.Eng.Ld
theorem rx_num {N most : Nat} {l : List Int} {b : Bool} (h : Inv N l b) (hN : N ≤ 9223372036854775807) (hm : most < 18446744073709551616) : Pure Go.Proofs.Tryd.prog 32 [refP l b, pl (.int .u64 (most : Int))] (tup [refP (rdNum most l b).2.1 (rdNum most l b).2.2, pl (.int .u64 ((rdNum most l b).1 : Int))]) := by
  rw [rdNum_same h]; exact ref_num h.2.1 (by have := h.2.2; omega) hm
theorem rx_byte {N : Nat} {l : List Int} {b : Bool} (h : Inv N l b) : Pure Go.Proofs.Tryd.prog 31 [refP l b] (tup [refP (rdByte l b).2.1 (rdByte l b).2.2, pl (.int .u8 (rdByte l b).1)]) := by
  rw [rdByte_same h]; exact ref_byte
theorem rx_bytes {N most : Nat} {l : List Int} {b : Bool} (h : Inv N l b) (hN : N ≤ 9223372036854775807) (hm : most < 9223372036854775808) : Pure Go.Proofs.Tryd.prog 33 [refP l b, pl (.int .i64 (most : Int))] (tup [refP (rdBytes most l b).2.1 (rdBytes most l b).2.2, sl (kI .u8) none none (rdBytes most l b).1]) := by
  rw [rdBytes_same h]
  have := ref_bytes (l := l) (b := b) (m := (most : Int)) h.2.1 (by have := h.2.2; omega) (by omega)
  simpa using this
theorem num_wrong (most : Nat) : rdNum most [] true = (0, [], true) := rdNum_err (.inl vget_nil_err)
theorem bytes_wrong (most : Nat) : rdBytes most [] true = ([], [], true) := by unfold rdBytes; rw [num_wrong]; rfl
theorem rdLn_wrong (q : Nat) : (rdLn q [] true).2 = ([], true) := by
  have hb : rdByte [] true = (0, [], true) := rfl
  simp only [rdLn, num_wrong, hb, bytes_wrong]
theorem decGo_wrong (d : Nat) : ∀ (n i : Nat) (acc : List Ln), (decGo d n i acc [] true).2.2 = true
  | 0, _, _ => rfl
  | n + 1, i, acc => by
    rw [decGo, rdLn_wrong]
    exact decGo_wrong d n (i + 1) _
theorem done_wrong (l : List Int) : (rdDone true l).isSome = true := by simp [rdDone]
noncomputable def decN (l : List Int) : Int := match decR l with | some _ => 0 | none => 3

set_option maxRecDepth 100000 in
set_option maxHeartbeats 4000000 in
theorem lg_Decode {l : List Int} (hb : Bts l) (hl : l.length + 10 ≤ 140737488355328) : Pure Go.Proofs.Tryd.prog 45 [sl (kI .u8) none none l] (tup [decLg l, pl (.int .i64 (decN l))]) := by
  intro s
  have hI0 : Inv 140737488355328 l false := ⟨(fun hh => nomatch hh), hb, by omega⟩
  have hI1 := inv_num (most := 4611686018427387904) hI0
  have hd1 := num_most 4611686018427387904 l false
  have hI2 := inv_num (most := 32) hI1
  have hn1 := num_most 32 (rdNum 4611686018427387904 l false).2.1 (rdNum 4611686018427387904 l false).2.2
  refine ac_of_aw s.boxes.length s.fr.length Go.Proofs.Tryd.func45 rfl (by simp [Go.Proofs.Tryd.ntmps45]) ?_
  refine aw_ext0 ?_
  refine aw_keep [(0, _)] ⟨lg ez, trivial⟩ ?_
  refine aw_seq ?_
  refine aw_region (by decide) ?_
  refine rts _ rfl (opD_allocX zt70 (by first | exact List.length_nil | (simp only [List.length_cons, List.length_nil, Nat.zero_add, Nat.reduceAdd]; rfl)) (by simp only [List.nil_append, List.cons_append, List.map_cons, List.map_nil, List.set_cons_zero, List.set_cons_succ, List.take_succ_cons, List.take_zero, List.drop_succ_cons, List.drop_zero]; rfl)) ?_
  refine rts _ rfl (opD_assign (ev_const _ _)) ?_
  refine .nil ?_
  refine aw_keep [(3, _), (2, _), (0, _)] ⟨lg lz, lg (ls rfl lz), lg (ls rfl (ls rfl oz)), trivial⟩ ?_
  refine aw_seq ?_
  refine aw_region (by decide) ?_
  refine rts _ rfl (opD_move (os rfl (os rfl oz))) ?_
  refine rts _ rfl (opD_build_struct (rs := [_, _]) Go.Proofs.Tryd.underlying41 pt41 zt41 (parts_cons (cells1 lz (by first | exact one_pl rfl | exact one_sl _ _ _ _ | exact one_ptr _ _ | exact one_ifc _ _)) parts_nil) rfl) ?_
  refine rts _ rfl (opD_pure ht32 (rx_num (most := 4611686018427387904) hI0 (by decide) (by decide)) ⟨le_of_eq lz, le_of_eq (ev_const _ _), trivial⟩) ?_
  refine rts _ rfl (opD_move lz) ?_
  refine rts _ rfl (opD_extract lz rfl) ?_
  refine rts _ rfl (opD_extract (ls rfl lz) rfl) ?_
  refine rts _ rfl (opD_allocX zt41 (by first | exact List.length_nil | (simp only [List.length_cons, List.length_nil, Nat.zero_add, Nat.reduceAdd]; rfl)) (by simp only [List.nil_append, List.cons_append, List.map_cons, List.map_nil, List.set_cons_zero, List.set_cons_succ, List.take_succ_cons, List.take_zero, List.drop_succ_cons, List.drop_zero]; rfl)) ?_
  refine rts _ rfl (opD_storeA sz41 lz (ls rfl (ls rfl lz)) (by repeat (first | exact ones_nil | refine ones_cons (by first | exact one_pl rfl | exact one_sl _ _ _ _ | exact one_ptr _ _) ?_)) rfl rfl (Nat.le_of_ble_eq_true rfl) (List.cons_ne_nil _ _) (by repeat (first | exact bnd_nil | refine bnd_cons (by first | exact pl_bnd _ _ _ | exact sl_bnd (kL_bnd _ _ _) | exact sl_bnd (kI_bnd _ _ _ _) | exact ptr_bnd _ (by omega) | exact any_bnd _ _ | exact sl_own_bnd (kL_bnd _ _ _) (by omega) | exact sl_own_bnd (kL_bnd _ _ _) (by simp only [List.length_append, List.length_cons, List.length_nil]; omega)) ?_)) (by simp only [List.nil_append, List.cons_append, List.map_cons, List.map_nil, List.set_cons_zero, List.set_cons_succ, List.take_succ_cons, List.take_zero, List.drop_succ_cons, List.drop_zero]; rfl) (by simp only [List.nil_append, List.cons_append, List.map_cons, List.map_nil, List.set_cons_zero, List.set_cons_succ, List.take_succ_cons, List.take_zero, List.drop_succ_cons, List.drop_zero]; rfl)) ?_
  refine rts _ rfl (opD_assign (lx (ls rfl lz))) ?_
  refine .nil ?_
  refine aw_keep [(5, _), (4, _), (3, _), (2, _), (0, _)] ⟨lg lz, lg (ls rfl (lx lz)), lg (ls rfl (lx (ls rfl (ls rfl (ls rfl (ls rfl (ls rfl (ls rfl (ls rfl oz))))))))), lg (ls rfl (lx (ls rfl (ls rfl (ls rfl (ls rfl (ls rfl (ls rfl (ls rfl (os rfl oz)))))))))), lg (ls rfl (lx (ls rfl (ls rfl (ls rfl (ls rfl (ls rfl (ls rfl (ls rfl (os rfl (os rfl oz))))))))))), trivial⟩ ?_
  refine aw_seq ?_
  refine aw_region (by decide) ?_
  refine rts _ rfl ((by first | exact opD_load_aggX (qs := [_, _]) ag41 sz41 (os rfl oz) (by first | exact loc_get rfl | exact old_get (by assumption)) (by simp) rfl | exact opD_load_el_aggX (qs := [_, _]) ag41 sz41 (os rfl oz) (by first | assumption | simp) (by decide) rfl)) ?_
  refine rts _ rfl (opD_pure ht32 (rx_num (most := 32) hI1 (by decide) (by decide)) ⟨le_of_eq lz, le_of_eq (ev_const _ _), trivial⟩) ?_
  refine rts _ rfl (opD_move lz) ?_
  refine rts _ rfl (opD_extract lz rfl) ?_
  refine rts _ rfl (opD_extract (ls rfl lz) rfl) ?_
  refine rts _ rfl (opD_storeA sz41 (ls rfl (ls rfl (ls rfl (ls rfl (ls rfl (os rfl oz)))))) (ls rfl lz) (by repeat (first | exact ones_nil | refine ones_cons (by first | exact one_pl rfl | exact one_sl _ _ _ _ | exact one_ptr _ _) ?_)) rfl rfl (Nat.le_of_ble_eq_true rfl) (List.cons_ne_nil _ _) (by repeat (first | exact bnd_nil | refine bnd_cons (by first | exact pl_bnd _ _ _ | exact sl_bnd (kL_bnd _ _ _) | exact sl_bnd (kI_bnd _ _ _ _) | exact ptr_bnd _ (by omega) | exact any_bnd _ _ | exact sl_own_bnd (kL_bnd _ _ _) (by omega) | exact sl_own_bnd (kL_bnd _ _ _) (by simp only [List.length_append, List.length_cons, List.length_nil]; omega)) ?_)) (by simp only [List.nil_append, List.cons_append, List.map_cons, List.map_nil, List.set_cons_zero, List.set_cons_succ, List.take_succ_cons, List.take_zero, List.drop_succ_cons, List.drop_zero]; rfl) (by simp only [List.nil_append, List.cons_append, List.map_cons, List.map_nil, List.set_cons_zero, List.set_cons_succ, List.take_succ_cons, List.take_zero, List.drop_succ_cons, List.drop_zero]; rfl)) ?_
  refine rts _ rfl (opD_assign (lx lz)) ?_
  refine .nil ?_
  refine aw_keep [(6, _), (5, _), (4, _), (3, _), (2, _), (0, _)] ⟨lg lz, lg (ls rfl (lx (ls rfl (ls rfl (ls rfl (ls rfl (ls rfl oz))))))), lg (ls rfl (lx (ls rfl (ls rfl (ls rfl (ls rfl (ls rfl (os rfl oz)))))))), lg (ls rfl (lx (ls rfl (ls rfl (ls rfl (ls rfl (ls rfl (os rfl (os rfl oz))))))))), lg (ls rfl (lx (ls rfl (ls rfl (ls rfl (ls rfl (ls rfl (os rfl (os rfl (os rfl oz)))))))))), lg (ls rfl (lx (ls rfl (ls rfl (ls rfl (ls rfl (ls rfl (os rfl (os rfl (os rfl (os rfl oz))))))))))), trivial⟩ ?_
  refine aw_seq ?_
  refine aw_region (by decide) ?_
  refine rts _ rfl (opD_move (os rfl oz)) ?_
  refine rts _ rfl (opD_build_struct (rs := [_, _]) Go.Proofs.Tryd.underlying70 pt70 zt70 (parts_cons (cells1 lz (by first | exact one_pl rfl | exact one_sl _ _ _ _ | exact one_ptr _ _ | exact one_ifc _ _)) parts_nil) rfl) ?_
  refine rts _ rfl (opD_allocX zt70 (by first | exact List.length_nil | (simp only [List.length_cons, List.length_nil, Nat.zero_add, Nat.reduceAdd]; rfl)) (by simp only [List.nil_append, List.cons_append, List.map_cons, List.map_nil, List.set_cons_zero, List.set_cons_succ, List.take_succ_cons, List.take_zero, List.drop_succ_cons, List.drop_zero]; rfl)) ?_
  refine rts _ rfl (opD_storeA sz70 lz (ls rfl lz) (by repeat (first | exact ones_nil | refine ones_cons (by first | exact one_pl rfl | exact one_sl _ _ _ _ | exact one_ptr _ _) ?_)) rfl rfl (Nat.le_of_ble_eq_true rfl) (List.cons_ne_nil _ _) (by repeat (first | exact bnd_nil | refine bnd_cons (by first | exact pl_bnd _ _ _ | exact sl_bnd (kL_bnd _ _ _) | exact sl_bnd (kI_bnd _ _ _ _) | exact ptr_bnd _ (by omega) | exact any_bnd _ _ | exact sl_own_bnd (kL_bnd _ _ _) (by omega) | exact sl_own_bnd (kL_bnd _ _ _) (by simp only [List.length_append, List.length_cons, List.length_nil]; omega)) ?_)) (by simp only [List.nil_append, List.cons_append, List.map_cons, List.map_nil, List.set_cons_zero, List.set_cons_succ, List.take_succ_cons, List.take_zero, List.drop_succ_cons, List.drop_zero]; rfl) (by simp only [List.nil_append, List.cons_append, List.map_cons, List.map_nil, List.set_cons_zero, List.set_cons_succ, List.take_succ_cons, List.take_zero, List.drop_succ_cons, List.drop_zero]; rfl)) ?_
  refine .nil ?_
  refine aw_keep [(7, _), (6, _), (5, _), (4, _), (3, _), (2, _), (0, _)] ⟨lg (lx lz), lg (lx (ls rfl (ls rfl (ls rfl oz)))), lg (lx (ls rfl (ls rfl (ls rfl (os rfl oz))))), lg (lx (ls rfl (ls rfl (ls rfl (os rfl (os rfl oz)))))), lg (lx (ls rfl (ls rfl (ls rfl (os rfl (os rfl (os rfl oz))))))), lg (lx (ls rfl (ls rfl (ls rfl (os rfl (os rfl (os rfl (os rfl oz)))))))), lg (lx (ls rfl (ls rfl (ls rfl (os rfl (os rfl (os rfl (os rfl (os rfl oz))))))))), trivial⟩ ?_
  refine aw_seq ?_
  refine aw_seq ?_
  refine aw_fr ⟨60, 5, 0⟩ ?_
  refine aw_wk (bs' := [⟨70, [pl (.int .u64 0), pl (.slice none 0 0)]⟩, ⟨41, [sl (kI .u8) none none (rdNum 32 (rdNum 4611686018427387904 l false).2.1 (rdNum 4611686018427387904 l false).2.2).2.1, pl (.bool (rdNum 32 (rdNum 4611686018427387904 l false).2.1 (rdNum 4611686018427387904 l false).2.2).2.2)]⟩, ⟨70, [pl (.int .u64 ((rdNum 4611686018427387904 l false).1 : Int)), sl kL (some (s.fr.length + 0)) none []]⟩]) (bxle_same (bxle_same (bxle_cons rfl ⟨Pd.le_refl _, (nil_le kL _).trans (sl_nl _ _ _ _), trivial⟩ bxle_nil))) (by repeat (first | exact bl_nil | refine bl_cons (by repeat (first | exact bnd_nil | refine bnd_cons (by first | exact pl_bnd _ _ _ | exact sl_bnd (kL_bnd _ _ _) | exact sl_bnd (kI_bnd _ _ _ _) | exact ptr_bnd _ (by omega) | exact any_bnd _ _ | exact sl_own_bnd (kL_bnd _ _ _) (by omega) | exact sl_own_bnd (kL_bnd _ _ _) (by simp only [List.length_append, List.length_cons, List.length_nil]; omega)) ?_)) ?_)) ?_
  refine aw_region (by decide) ?_
  refine rts _ rfl (opD_assign (ev_const _ _)) ?_
  refine .nil ?_
  refine aw_keep [(8, _), (7, _), (6, _), (5, _), (4, _), (3, _), (2, _), (0, _)] ⟨lg lz, lg (ls rfl oz), lg (ls rfl (os rfl oz)), lg (ls rfl (os rfl (os rfl oz))), lg (ls rfl (os rfl (os rfl (os rfl oz)))), lg (ls rfl (os rfl (os rfl (os rfl (os rfl oz))))), lg (ls rfl (os rfl (os rfl (os rfl (os rfl (os rfl oz)))))), lg (ls rfl (os rfl (os rfl (os rfl (os rfl (os rfl (os rfl oz))))))), trivial⟩ ?_
  refine aw_block ?_
  refine aw_loop (fun n e st => ∃ (i : Nat) (acc : List Ln) (l2 : List Int) (b2 : Bool), Holds e [(2, ptr (s.boxes.length + 0) 0), (4, ptr (s.boxes.length + 1) 0), (5, pl (.int .u64 ((rdNum 4611686018427387904 l false).1 : Int))), (6, pl (.int .u64 ((rdNum 32 (rdNum 4611686018427387904 l false).2.1 (rdNum 4611686018427387904 l false).2.2).1 : Int))), (7, ptr (s.boxes.length + 2) 0), (8, pl (.int .u64 (i : Int)))] ∧ st = s.ext [⟨70, [pl (.int .u64 0), pl (.slice none 0 0)]⟩, ⟨41, [sl (kI .u8) none none l2, pl (.bool b2)]⟩, ⟨70, [pl (.int .u64 ((rdNum 4611686018427387904 l false).1 : Int)), sl kL (some (s.fr.length + 0)) none acc]⟩] [⟨60, 5, acc.length⟩] ∧ n + i = (rdNum 32 (rdNum 4611686018427387904 l false).2.1 (rdNum 4611686018427387904 l false).2.2).1 ∧ Inv 140737488355328 l2 b2 ∧ decGo (rdNum 4611686018427387904 l false).1 n i acc l2 b2 = decGo (rdNum 4611686018427387904 l false).1 (rdNum 32 (rdNum 4611686018427387904 l false).2.1 (rdNum 4611686018427387904 l false).2.2).1 0 [] (rdNum 32 (rdNum 4611686018427387904 l false).2.1 (rdNum 4611686018427387904 l false).2.2).2.1 (rdNum 32 (rdNum 4611686018427387904 l false).2.1 (rdNum 4611686018427387904 l false).2.2).2.2 ∧ acc.length = i ∧ ∀ x ∈ acc, LnOk x) ((rdNum 32 (rdNum 4611686018427387904 l false).2.1 (rdNum 4611686018427387904 l false).2.2).1) (⟨0, [], _, _, ⟨le_of_eq (eg (os rfl (os rfl (os rfl (os rfl (os rfl (os rfl oz))))))), le_of_eq (eg (os rfl (os rfl (os rfl (os rfl oz))))), le_of_eq (eg (os rfl (os rfl (os rfl oz)))), le_of_eq (eg (os rfl (os rfl oz))), le_of_eq (eg (os rfl oz)), le_of_eq (eg oz), trivial⟩, rfl, by omega, hI2, rfl, rfl, (fun x hx => nomatch hx)⟩) ?_
  rintro n e st ⟨i, acc, l2, b2, hH, rfl, hn0, hI, hgo, hal, hacc⟩
  refine aw_keep _ hH ?_
  refine aw_cut (s.boxes.length + 3) (s.fr.length + 1) (by rw [ext_boxes_length]; exact Nat.le_refl _) (by rw [ext_fr_length]; exact Nat.le_refl _) ?_
  refine aw_seq ?_
  refine aw_seq ?_
  refine aw_region (by decide) ?_
  refine rts _ rfl (opD_move (os rfl (os rfl (os rfl (os rfl (os rfl oz)))))) ?_
  refine rts _ rfl (opD_move (ls rfl (os rfl (os rfl (os rfl oz))))) ?_
  refine rts _ rfl (opD_lss (ls rfl lz) lz) ?_
  refine rts _ rfl (opD_move lz) ?_
  refine rtg _ rfl lz (fun hg5_4 => by
      have hg5_4' := hg5_4
      try simp only [beq_iff_eq, decide_eq_true_eq, decide_eq_false_iff_not, Bool.and_eq_true, Bool.or_eq_true, Bool.or_eq_false_iff, Bool.and_eq_false_iff] at hg5_4'
      exact (by first | exact opD_fieldAddr fo41_1 (ls rfl (ls rfl (ls rfl (ls rfl (os rfl oz))))) | exact opD_fieldAddr_el fo41_1 (ls rfl (ls rfl (ls rfl (ls rfl (os rfl oz))))))) ?_
  refine rtg _ rfl (ls rfl lz) (fun hg5_5 => by
      have hg5_5' := hg5_5
      try simp only [beq_iff_eq, decide_eq_true_eq, decide_eq_false_iff_not, Bool.and_eq_true, Bool.or_eq_true, Bool.or_eq_false_iff, Bool.and_eq_false_iff] at hg5_5'
      exact (by first | exact opD_load_one ag4 (lz.trans (pif_pos hg5_5)) (by first | exact loc_get rfl | exact old_get (by assumption) | exact hB) rfl | exact opD_load_el_one ag4 (lz.trans (pif_pos hg5_5)) (by first | assumption | simp) rfl)) ?_
  refine rtg _ rfl (ls rfl (ls rfl lz)) (fun hg5_6 => by
      have hg5_6' := hg5_6
      try simp only [beq_iff_eq, decide_eq_true_eq, decide_eq_false_iff_not, Bool.and_eq_true, Bool.or_eq_true, Bool.or_eq_false_iff, Bool.and_eq_false_iff] at hg5_6'
      exact opD_not (lz.trans (pif_pos hg5_6))) ?_
  refine rts _ rfl (opD_and (ls rfl (ls rfl (ls rfl lz))) lz) ?_
  refine .nil ?_
  refine aw_keep [(34, _), (2, _), (4, _), (5, _), (6, _), (7, _), (8, _)] ⟨lg lz, lg (ls rfl (ls rfl (ls rfl (ls rfl (ls rfl (ls rfl (ls rfl (ls rfl oz)))))))), lg (ls rfl (ls rfl (ls rfl (ls rfl (ls rfl (ls rfl (ls rfl (ls rfl (os rfl oz))))))))), lg (ls rfl (ls rfl (ls rfl (ls rfl (ls rfl (ls rfl (ls rfl (ls rfl (os rfl (os rfl oz)))))))))), lg (ls rfl (ls rfl (ls rfl (ls rfl (ls rfl (ls rfl (ls rfl (ls rfl (os rfl (os rfl (os rfl oz))))))))))), lg (ls rfl (ls rfl (ls rfl (ls rfl (ls rfl (ls rfl (ls rfl (ls rfl (os rfl (os rfl (os rfl (os rfl oz)))))))))))), lg (ls rfl (ls rfl (ls rfl (ls rfl (ls rfl (ls rfl (ls rfl (ls rfl (os rfl (os rfl (os rfl (os rfl (os rfl oz))))))))))))), trivial⟩ ?_
  refine aw_cond _ oz (fun hc => ?_) (fun hc => ?_)
  · skip
    simp only [Bool.and_eq_true, decide_eq_true_eq, Bool.not_eq_true'] at hc
    have hlt : i < (rdNum 32 (rdNum 4611686018427387904 l false).2.1 (rdNum 4611686018427387904 l false).2.2).1 := by omega
    obtain ⟨n, rfl⟩ : ∃ m, n = m + 1 := ⟨n - 1, by omega⟩
    have hJ1 := inv_num (most := 4611686018427387904) hI
    have hJ2 := inv_byte hJ1
    have hJ3 := inv_num (most := 65535) hJ2
    have hlo := rdLn_ok (q := (rdNum 4611686018427387904 l false).1 + i + 1) hI (by omega)
    have hli := rdLn_inv (q := (rdNum 4611686018427387904 l false).1 + i + 1) hI
    have hw1 := num_most 4611686018427387904 l2 b2
    have hr1 := byte_rng hJ1
    have hc1 := num_most 65535 (rdByte (rdNum 4611686018427387904 l2 b2).2.1 (rdNum 4611686018427387904 l2 b2).2.2).2.1 (rdByte (rdNum 4611686018427387904 l2 b2).2.1 (rdNum 4611686018427387904 l2 b2).2.2).2.2
    refine aw_skip ?_
    refine aw_keep [(34, _), (2, _), (4, _), (5, _), (6, _), (7, _), (8, _)] ⟨lg oz, lg (os rfl oz), lg (os rfl (os rfl oz)), lg (os rfl (os rfl (os rfl oz))), lg (os rfl (os rfl (os rfl (os rfl oz)))), lg (os rfl (os rfl (os rfl (os rfl (os rfl oz))))), lg (os rfl (os rfl (os rfl (os rfl (os rfl (os rfl oz)))))), trivial⟩ ?_
    refine aw_seq ?_
    refine aw_block ?_
    refine aw_seq ?_
    refine aw_region (by decide) ?_
    refine rts _ rfl ((by first | exact opD_load_aggX (qs := [_, _]) ag41 sz41 (os rfl (os rfl oz)) (by first | exact loc_get rfl | exact old_get (by assumption)) (by simp) rfl | exact opD_load_el_aggX (qs := [_, _]) ag41 sz41 (os rfl (os rfl oz)) (by first | assumption | simp) (by decide) rfl)) ?_
    refine rts _ rfl (opD_pure ht32 (rx_num (most := 4611686018427387904) hI (by decide) (by decide)) ⟨le_of_eq lz, le_of_eq (ev_const _ _), trivial⟩) ?_
    refine rts _ rfl (opD_move lz) ?_
    refine rts _ rfl (opD_extract lz rfl) ?_
    refine rts _ rfl (opD_extract (ls rfl lz) rfl) ?_
    refine rts _ rfl (opD_allocX zt41 (by first | exact List.length_nil | (simp only [List.length_cons, List.length_nil, Nat.zero_add, Nat.reduceAdd]; rfl)) (by simp only [List.nil_append, List.cons_append, List.map_cons, List.map_nil, List.set_cons_zero, List.set_cons_succ, List.take_succ_cons, List.take_zero, List.drop_succ_cons, List.drop_zero]; rfl)) ?_
    refine rts _ rfl (opD_storeA sz41 lz (ls rfl (ls rfl lz)) (by repeat (first | exact ones_nil | refine ones_cons (by first | exact one_pl rfl | exact one_sl _ _ _ _ | exact one_ptr _ _) ?_)) rfl rfl (Nat.le_of_ble_eq_true rfl) (List.cons_ne_nil _ _) (by repeat (first | exact bnd_nil | refine bnd_cons (by first | exact pl_bnd _ _ _ | exact sl_bnd (kL_bnd _ _ _) | exact sl_bnd (kI_bnd _ _ _ _) | exact ptr_bnd _ (by omega) | exact any_bnd _ _ | exact sl_own_bnd (kL_bnd _ _ _) (by omega) | exact sl_own_bnd (kL_bnd _ _ _) (by simp only [List.length_append, List.length_cons, List.length_nil]; omega)) ?_)) (by simp only [List.nil_append, List.cons_append, List.map_cons, List.map_nil, List.set_cons_zero, List.set_cons_succ, List.take_succ_cons, List.take_zero, List.drop_succ_cons, List.drop_zero]; rfl) (by simp only [List.nil_append, List.cons_append, List.map_cons, List.map_nil, List.set_cons_zero, List.set_cons_succ, List.take_succ_cons, List.take_zero, List.drop_succ_cons, List.drop_zero]; rfl)) ?_
    refine rts _ rfl (opD_assign (lx (ls rfl lz))) ?_
    refine .nil ?_
    refine aw_keep [(10, _), (9, _), (34, _), (2, _), (4, _), (5, _), (6, _), (7, _), (8, _)] ⟨lg lz, lg (ls rfl (lx lz)), lg (ls rfl (lx (ls rfl (ls rfl (ls rfl (ls rfl (ls rfl (ls rfl oz)))))))), lg (ls rfl (lx (ls rfl (ls rfl (ls rfl (ls rfl (ls rfl (ls rfl (os rfl oz))))))))), lg (ls rfl (lx (ls rfl (ls rfl (ls rfl (ls rfl (ls rfl (ls rfl (os rfl (os rfl oz)))))))))), lg (ls rfl (lx (ls rfl (ls rfl (ls rfl (ls rfl (ls rfl (ls rfl (os rfl (os rfl (os rfl oz))))))))))), lg (ls rfl (lx (ls rfl (ls rfl (ls rfl (ls rfl (ls rfl (ls rfl (os rfl (os rfl (os rfl (os rfl oz)))))))))))), lg (ls rfl (lx (ls rfl (ls rfl (ls rfl (ls rfl (ls rfl (ls rfl (os rfl (os rfl (os rfl (os rfl (os rfl oz))))))))))))), lg (ls rfl (lx (ls rfl (ls rfl (ls rfl (ls rfl (ls rfl (ls rfl (os rfl (os rfl (os rfl (os rfl (os rfl (os rfl oz)))))))))))))), trivial⟩ ?_
    refine aw_seq ?_
    refine aw_region (by decide) ?_
    refine rts _ rfl ((by first | exact opD_load_aggX (qs := [_, _]) ag41 sz41 (os rfl oz) (by first | exact loc_get rfl | exact old_get (by assumption)) (by simp) rfl | exact opD_load_el_aggX (qs := [_, _]) ag41 sz41 (os rfl oz) (by first | assumption | simp) (by decide) rfl)) ?_
    refine rts _ rfl (opD_pure ht31 (rx_byte hJ1) ⟨le_of_eq lz, trivial⟩) ?_
    refine rts _ rfl (opD_move lz) ?_
    refine rts _ rfl (opD_extract lz rfl) ?_
    refine rts _ rfl (opD_extract (ls rfl lz) rfl) ?_
    refine rts _ rfl (opD_storeA sz41 (ls rfl (ls rfl (ls rfl (ls rfl (ls rfl (os rfl oz)))))) (ls rfl lz) (by repeat (first | exact ones_nil | refine ones_cons (by first | exact one_pl rfl | exact one_sl _ _ _ _ | exact one_ptr _ _) ?_)) rfl rfl (Nat.le_of_ble_eq_true rfl) (List.cons_ne_nil _ _) (by repeat (first | exact bnd_nil | refine bnd_cons (by first | exact pl_bnd _ _ _ | exact sl_bnd (kL_bnd _ _ _) | exact sl_bnd (kI_bnd _ _ _ _) | exact ptr_bnd _ (by omega) | exact any_bnd _ _ | exact sl_own_bnd (kL_bnd _ _ _) (by omega) | exact sl_own_bnd (kL_bnd _ _ _) (by simp only [List.length_append, List.length_cons, List.length_nil]; omega)) ?_)) (by simp only [List.nil_append, List.cons_append, List.map_cons, List.map_nil, List.set_cons_zero, List.set_cons_succ, List.take_succ_cons, List.take_zero, List.drop_succ_cons, List.drop_zero]; rfl) (by simp only [List.nil_append, List.cons_append, List.map_cons, List.map_nil, List.set_cons_zero, List.set_cons_succ, List.take_succ_cons, List.take_zero, List.drop_succ_cons, List.drop_zero]; rfl)) ?_
    refine rts _ rfl (opD_assign (lx lz)) ?_
    refine .nil ?_
    refine aw_keep [(11, _), (10, _), (9, _), (34, _), (2, _), (4, _), (5, _), (6, _), (7, _), (8, _)] ⟨lg lz, lg (ls rfl (lx (ls rfl (ls rfl (ls rfl (ls rfl (ls rfl oz))))))), lg (ls rfl (lx (ls rfl (ls rfl (ls rfl (ls rfl (ls rfl (os rfl oz)))))))), lg (ls rfl (lx (ls rfl (ls rfl (ls rfl (ls rfl (ls rfl (os rfl (os rfl oz))))))))), lg (ls rfl (lx (ls rfl (ls rfl (ls rfl (ls rfl (ls rfl (os rfl (os rfl (os rfl oz)))))))))), lg (ls rfl (lx (ls rfl (ls rfl (ls rfl (ls rfl (ls rfl (os rfl (os rfl (os rfl (os rfl oz))))))))))), lg (ls rfl (lx (ls rfl (ls rfl (ls rfl (ls rfl (ls rfl (os rfl (os rfl (os rfl (os rfl (os rfl oz)))))))))))), lg (ls rfl (lx (ls rfl (ls rfl (ls rfl (ls rfl (ls rfl (os rfl (os rfl (os rfl (os rfl (os rfl (os rfl oz))))))))))))), lg (ls rfl (lx (ls rfl (ls rfl (ls rfl (ls rfl (ls rfl (os rfl (os rfl (os rfl (os rfl (os rfl (os rfl (os rfl oz)))))))))))))), lg (ls rfl (lx (ls rfl (ls rfl (ls rfl (ls rfl (ls rfl (os rfl (os rfl (os rfl (os rfl (os rfl (os rfl (os rfl (os rfl oz))))))))))))))), trivial⟩ ?_
    refine aw_seq ?_
    refine aw_region (by decide) ?_
    refine rts _ rfl ((by first | exact opD_load_aggX (qs := [_, _]) ag41 sz41 (os rfl (os rfl oz)) (by first | exact loc_get rfl | exact old_get (by assumption)) (by simp) rfl | exact opD_load_el_aggX (qs := [_, _]) ag41 sz41 (os rfl (os rfl oz)) (by first | assumption | simp) (by decide) rfl)) ?_
    refine rts _ rfl (opD_pure ht32 (rx_num (most := 65535) hJ2 (by decide) (by decide)) ⟨le_of_eq lz, le_of_eq (ev_const _ _), trivial⟩) ?_
    refine rts _ rfl (opD_move lz) ?_
    refine rts _ rfl (opD_extract lz rfl) ?_
    refine rts _ rfl (opD_extract (ls rfl lz) rfl) ?_
    refine rts _ rfl (opD_storeA sz41 (ls rfl (ls rfl (ls rfl (ls rfl (ls rfl (os rfl (os rfl oz))))))) (ls rfl lz) (by repeat (first | exact ones_nil | refine ones_cons (by first | exact one_pl rfl | exact one_sl _ _ _ _ | exact one_ptr _ _) ?_)) rfl rfl (Nat.le_of_ble_eq_true rfl) (List.cons_ne_nil _ _) (by repeat (first | exact bnd_nil | refine bnd_cons (by first | exact pl_bnd _ _ _ | exact sl_bnd (kL_bnd _ _ _) | exact sl_bnd (kI_bnd _ _ _ _) | exact ptr_bnd _ (by omega) | exact any_bnd _ _ | exact sl_own_bnd (kL_bnd _ _ _) (by omega) | exact sl_own_bnd (kL_bnd _ _ _) (by simp only [List.length_append, List.length_cons, List.length_nil]; omega)) ?_)) (by simp only [List.nil_append, List.cons_append, List.map_cons, List.map_nil, List.set_cons_zero, List.set_cons_succ, List.take_succ_cons, List.take_zero, List.drop_succ_cons, List.drop_zero]; rfl) (by simp only [List.nil_append, List.cons_append, List.map_cons, List.map_nil, List.set_cons_zero, List.set_cons_succ, List.take_succ_cons, List.take_zero, List.drop_succ_cons, List.drop_zero]; rfl)) ?_
    refine rts _ rfl (opD_assign (lx lz)) ?_
    refine .nil ?_
    refine aw_keep [(12, _), (11, _), (10, _), (9, _), (34, _), (2, _), (4, _), (5, _), (6, _), (7, _), (8, _)] ⟨lg lz, lg (ls rfl (lx (ls rfl (ls rfl (ls rfl (ls rfl (ls rfl oz))))))), lg (ls rfl (lx (ls rfl (ls rfl (ls rfl (ls rfl (ls rfl (os rfl oz)))))))), lg (ls rfl (lx (ls rfl (ls rfl (ls rfl (ls rfl (ls rfl (os rfl (os rfl oz))))))))), lg (ls rfl (lx (ls rfl (ls rfl (ls rfl (ls rfl (ls rfl (os rfl (os rfl (os rfl oz)))))))))), lg (ls rfl (lx (ls rfl (ls rfl (ls rfl (ls rfl (ls rfl (os rfl (os rfl (os rfl (os rfl oz))))))))))), lg (ls rfl (lx (ls rfl (ls rfl (ls rfl (ls rfl (ls rfl (os rfl (os rfl (os rfl (os rfl (os rfl oz)))))))))))), lg (ls rfl (lx (ls rfl (ls rfl (ls rfl (ls rfl (ls rfl (os rfl (os rfl (os rfl (os rfl (os rfl (os rfl oz))))))))))))), lg (ls rfl (lx (ls rfl (ls rfl (ls rfl (ls rfl (ls rfl (os rfl (os rfl (os rfl (os rfl (os rfl (os rfl (os rfl oz)))))))))))))), lg (ls rfl (lx (ls rfl (ls rfl (ls rfl (ls rfl (ls rfl (os rfl (os rfl (os rfl (os rfl (os rfl (os rfl (os rfl (os rfl oz))))))))))))))), lg (ls rfl (lx (ls rfl (ls rfl (ls rfl (ls rfl (ls rfl (os rfl (os rfl (os rfl (os rfl (os rfl (os rfl (os rfl (os rfl (os rfl oz)))))))))))))))), trivial⟩ ?_
    refine aw_seq ?_
    refine aw_region (by decide) ?_
    refine rts _ rfl ((by first | exact opD_load_aggX (qs := [_, _]) ag41 sz41 (os rfl (os rfl (os rfl oz))) (by first | exact loc_get rfl | exact old_get (by assumption)) (by simp) rfl | exact opD_load_el_aggX (qs := [_, _]) ag41 sz41 (os rfl (os rfl (os rfl oz))) (by first | assumption | simp) (by decide) rfl)) ?_
    refine rts _ rfl (opD_pure ht33 (rx_bytes (most := 40) hJ3 (by decide) (by decide)) ⟨le_of_eq lz, le_of_eq (ev_const _ _), trivial⟩) ?_
    refine rts _ rfl (opD_move lz) ?_
    refine rts _ rfl (opD_extract lz rfl) ?_
    refine rts _ rfl (opD_extract (ls rfl lz) rfl) ?_
    refine rts _ rfl (opD_storeA sz41 (ls rfl (ls rfl (ls rfl (ls rfl (ls rfl (os rfl (os rfl (os rfl oz)))))))) (ls rfl lz) (by repeat (first | exact ones_nil | refine ones_cons (by first | exact one_pl rfl | exact one_sl _ _ _ _ | exact one_ptr _ _) ?_)) rfl rfl (Nat.le_of_ble_eq_true rfl) (List.cons_ne_nil _ _) (by repeat (first | exact bnd_nil | refine bnd_cons (by first | exact pl_bnd _ _ _ | exact sl_bnd (kL_bnd _ _ _) | exact sl_bnd (kI_bnd _ _ _ _) | exact ptr_bnd _ (by omega) | exact any_bnd _ _ | exact sl_own_bnd (kL_bnd _ _ _) (by omega) | exact sl_own_bnd (kL_bnd _ _ _) (by simp only [List.length_append, List.length_cons, List.length_nil]; omega)) ?_)) (by simp only [List.nil_append, List.cons_append, List.map_cons, List.map_nil, List.set_cons_zero, List.set_cons_succ, List.take_succ_cons, List.take_zero, List.drop_succ_cons, List.drop_zero]; rfl) (by simp only [List.nil_append, List.cons_append, List.map_cons, List.map_nil, List.set_cons_zero, List.set_cons_succ, List.take_succ_cons, List.take_zero, List.drop_succ_cons, List.drop_zero]; rfl)) ?_
    refine rts _ rfl (opD_assign (lx lz)) ?_
    refine .nil ?_
    refine aw_keep [(13, _), (12, _), (11, _), (10, _), (9, _), (34, _), (2, _), (4, _), (5, _), (6, _), (7, _), (8, _)] ⟨lg lz, lg (ls rfl (lx (ls rfl (ls rfl (ls rfl (ls rfl (ls rfl oz))))))), lg (ls rfl (lx (ls rfl (ls rfl (ls rfl (ls rfl (ls rfl (os rfl oz)))))))), lg (ls rfl (lx (ls rfl (ls rfl (ls rfl (ls rfl (ls rfl (os rfl (os rfl oz))))))))), lg (ls rfl (lx (ls rfl (ls rfl (ls rfl (ls rfl (ls rfl (os rfl (os rfl (os rfl oz)))))))))), lg (ls rfl (lx (ls rfl (ls rfl (ls rfl (ls rfl (ls rfl (os rfl (os rfl (os rfl (os rfl oz))))))))))), lg (ls rfl (lx (ls rfl (ls rfl (ls rfl (ls rfl (ls rfl (os rfl (os rfl (os rfl (os rfl (os rfl oz)))))))))))), lg (ls rfl (lx (ls rfl (ls rfl (ls rfl (ls rfl (ls rfl (os rfl (os rfl (os rfl (os rfl (os rfl (os rfl oz))))))))))))), lg (ls rfl (lx (ls rfl (ls rfl (ls rfl (ls rfl (ls rfl (os rfl (os rfl (os rfl (os rfl (os rfl (os rfl (os rfl oz)))))))))))))), lg (ls rfl (lx (ls rfl (ls rfl (ls rfl (ls rfl (ls rfl (os rfl (os rfl (os rfl (os rfl (os rfl (os rfl (os rfl (os rfl oz))))))))))))))), lg (ls rfl (lx (ls rfl (ls rfl (ls rfl (ls rfl (ls rfl (os rfl (os rfl (os rfl (os rfl (os rfl (os rfl (os rfl (os rfl (os rfl oz)))))))))))))))), lg (ls rfl (lx (ls rfl (ls rfl (ls rfl (ls rfl (ls rfl (os rfl (os rfl (os rfl (os rfl (os rfl (os rfl (os rfl (os rfl (os rfl (os rfl oz))))))))))))))))), trivial⟩ ?_
    refine aw_seq ?_
    refine aw_seq ?_
    refine aw_region (by decide) ?_
    refine rts _ rfl ((by first | exact opD_fieldAddr fo41_1 (os rfl (os rfl (os rfl (os rfl oz)))) | exact opD_fieldAddr_el fo41_1 (os rfl (os rfl (os rfl (os rfl oz)))))) ?_
    refine rts _ rfl ((by first | exact opD_load_one ag4 lz (by first | exact loc_get rfl | exact old_get (by assumption)) rfl | exact opD_load_el_one ag4 lz (by first | assumption | simp) rfl)) ?_
    refine .nil ?_
    refine aw_keep [(58, _), (13, _), (12, _), (11, _), (10, _), (9, _), (34, _), (2, _), (4, _), (5, _), (6, _), (7, _), (8, _)] ⟨lg lz, lg (ls rfl (ls rfl oz)), lg (ls rfl (ls rfl (os rfl oz))), lg (ls rfl (ls rfl (os rfl (os rfl oz)))), lg (ls rfl (ls rfl (os rfl (os rfl (os rfl oz))))), lg (ls rfl (ls rfl (os rfl (os rfl (os rfl (os rfl oz)))))), lg (ls rfl (ls rfl (os rfl (os rfl (os rfl (os rfl (os rfl oz))))))), lg (ls rfl (ls rfl (os rfl (os rfl (os rfl (os rfl (os rfl (os rfl oz)))))))), lg (ls rfl (ls rfl (os rfl (os rfl (os rfl (os rfl (os rfl (os rfl (os rfl oz))))))))), lg (ls rfl (ls rfl (os rfl (os rfl (os rfl (os rfl (os rfl (os rfl (os rfl (os rfl oz)))))))))), lg (ls rfl (ls rfl (os rfl (os rfl (os rfl (os rfl (os rfl (os rfl (os rfl (os rfl (os rfl oz))))))))))), lg (ls rfl (ls rfl (os rfl (os rfl (os rfl (os rfl (os rfl (os rfl (os rfl (os rfl (os rfl (os rfl oz)))))))))))), lg (ls rfl (ls rfl (os rfl (os rfl (os rfl (os rfl (os rfl (os rfl (os rfl (os rfl (os rfl (os rfl (os rfl oz))))))))))))), trivial⟩ ?_
    refine aw_cond _ oz (fun hc => ?_) (fun hc => ?_)
    · skip
      have hfin : decR l = none := by
        have hnil := hli.1 hc
        have hc' : (rdLn ((rdNum 4611686018427387904 l false).1 + i + 1) l2 b2).2.2 = true := hc
        rw [decGo, hnil, hc'] at hgo
        unfold decR
        simp only [← hgo]
        rw [if_neg]
        rintro ⟨h1, h2⟩
        rw [decGo_wrong, done_wrong] at h1
        cases h1
      refine aw_seq ?_
      refine aw_region (by decide) ?_
      refine rts _ rfl (opD_build_struct (rs := [_, _]) Go.Proofs.Tryd.underlying70 pt70 zt70 parts_nil rfl) ?_
      refine rts _ rfl (opD_storeA sz70 (ls rfl (os rfl (os rfl (os rfl (os rfl (os rfl (os rfl (os rfl oz)))))))) lz (by repeat (first | exact ones_nil | refine ones_cons (by first | exact one_pl rfl | exact one_sl _ _ _ _ | exact one_ptr _ _) ?_)) rfl rfl (Nat.le_of_ble_eq_true rfl) (List.cons_ne_nil _ _) (by repeat (first | exact bnd_nil | refine bnd_cons (by first | exact pl_bnd _ _ _ | exact sl_bnd (kL_bnd _ _ _) | exact sl_bnd (kI_bnd _ _ _ _) | exact ptr_bnd _ (by omega) | exact any_bnd _ _ | exact sl_own_bnd (kL_bnd _ _ _) (by omega) | exact sl_own_bnd (kL_bnd _ _ _) (by simp only [List.length_append, List.length_cons, List.length_nil]; omega)) ?_)) (by simp only [List.nil_append, List.cons_append, List.map_cons, List.map_nil, List.set_cons_zero, List.set_cons_succ, List.take_succ_cons, List.take_zero, List.drop_succ_cons, List.drop_zero]; rfl) (by simp only [List.nil_append, List.cons_append, List.map_cons, List.map_nil, List.set_cons_zero, List.set_cons_succ, List.take_succ_cons, List.take_zero, List.drop_succ_cons, List.drop_zero]; rfl)) ?_
      refine rts _ rfl (opD_assign (ev_const _ _)) ?_
      refine .nil ?_
      refine aw_keep [(3, _), (58, _), (13, _), (12, _), (11, _), (10, _), (9, _), (34, _), (2, _), (4, _), (5, _), (6, _), (7, _), (8, _)] ⟨lg lz, lg (ls rfl (lx (ls rfl oz))), lg (ls rfl (lx (ls rfl (os rfl oz)))), lg (ls rfl (lx (ls rfl (os rfl (os rfl oz))))), lg (ls rfl (lx (ls rfl (os rfl (os rfl (os rfl oz)))))), lg (ls rfl (lx (ls rfl (os rfl (os rfl (os rfl (os rfl oz))))))), lg (ls rfl (lx (ls rfl (os rfl (os rfl (os rfl (os rfl (os rfl oz)))))))), lg (ls rfl (lx (ls rfl (os rfl (os rfl (os rfl (os rfl (os rfl (os rfl oz))))))))), lg (ls rfl (lx (ls rfl (os rfl (os rfl (os rfl (os rfl (os rfl (os rfl (os rfl oz)))))))))), lg (ls rfl (lx (ls rfl (os rfl (os rfl (os rfl (os rfl (os rfl (os rfl (os rfl (os rfl oz))))))))))), lg (ls rfl (lx (ls rfl (os rfl (os rfl (os rfl (os rfl (os rfl (os rfl (os rfl (os rfl (os rfl oz)))))))))))), lg (ls rfl (lx (ls rfl (os rfl (os rfl (os rfl (os rfl (os rfl (os rfl (os rfl (os rfl (os rfl (os rfl oz))))))))))))), lg (ls rfl (lx (ls rfl (os rfl (os rfl (os rfl (os rfl (os rfl (os rfl (os rfl (os rfl (os rfl (os rfl (os rfl oz)))))))))))))), lg (ls rfl (lx (ls rfl (os rfl (os rfl (os rfl (os rfl (os rfl (os rfl (os rfl (os rfl (os rfl (os rfl (os rfl (os rfl oz))))))))))))))), trivial⟩ ?_
      refine aw_ret ?_
      refine cut_no ?_
      first | exact done_ext (.inr rfl) ((res_c1 (B := ⟨70, [_, _]⟩) rfl ag70 sz70 (eg (os rfl (os rfl (os rfl (os rfl (os rfl (os rfl (os rfl (os rfl oz))))))))) (loc_get (i := 0) rfl) rfl (eg oz)).le (tup_le ⟨(agg_le (ps := [_, _]) (qs := [pl (.int .u64 ((0 : Nat) : Int)), sl kL none none []]) ⟨le_of_eq rfl, le_nil rfl, trivial⟩).trans (le_of_eq (by unfold decLg; rw [hfin]; rfl)), le_of_eq (by unfold decN; rw [hfin]), trivial⟩)) (by unfold decLg; rw [hfin]; exact (tup_bnd (bnd_cons (lgP_bnd _ _ _ _) (bnd_cons (pl_bnd _ _ _) bnd_nil)))) | exact done_ext (.inr rfl) ((res_c1 (B := ⟨70, [_, _]⟩) rfl ag70 sz70 (eg (os rfl (os rfl (os rfl (os rfl (os rfl (os rfl (os rfl (os rfl oz))))))))) (loc_get (i := 0) rfl) rfl (eg oz)).le (tup_le ⟨(agg_le (ps := [_, _]) (qs := [_, _]) ⟨Pd.le_refl _, sl_le _ _ _ _, trivial⟩).trans (le_of_eq (by unfold decLg; rw [hfin]; rfl)), le_of_eq (by unfold decN; rw [hfin]), trivial⟩)) (by unfold decLg; rw [hfin]; exact (tup_bnd (bnd_cons (lgP_bnd _ _ _ _) (bnd_cons (pl_bnd _ _ _) bnd_nil))))
    · skip
      refine aw_skip ?_
      refine aw_keep [(58, _), (13, _), (12, _), (11, _), (10, _), (9, _), (34, _), (2, _), (4, _), (5, _), (6, _), (7, _), (8, _)] ⟨lg oz, lg (os rfl oz), lg (os rfl (os rfl oz)), lg (os rfl (os rfl (os rfl oz))), lg (os rfl (os rfl (os rfl (os rfl oz)))), lg (os rfl (os rfl (os rfl (os rfl (os rfl oz))))), lg (os rfl (os rfl (os rfl (os rfl (os rfl (os rfl oz)))))), lg (os rfl (os rfl (os rfl (os rfl (os rfl (os rfl (os rfl oz))))))), lg (os rfl (os rfl (os rfl (os rfl (os rfl (os rfl (os rfl (os rfl oz)))))))), lg (os rfl (os rfl (os rfl (os rfl (os rfl (os rfl (os rfl (os rfl (os rfl oz))))))))), lg (os rfl (os rfl (os rfl (os rfl (os rfl (os rfl (os rfl (os rfl (os rfl (os rfl oz)))))))))), lg (os rfl (os rfl (os rfl (os rfl (os rfl (os rfl (os rfl (os rfl (os rfl (os rfl (os rfl oz))))))))))), lg (os rfl (os rfl (os rfl (os rfl (os rfl (os rfl (os rfl (os rfl (os rfl (os rfl (os rfl (os rfl oz)))))))))))), trivial⟩ ?_
      refine aw_seq ?_
      refine aw_region (by decide) ?_
      refine rts _ rfl ((by first | exact opD_load_aggX (qs := [_, _]) ag41 sz41 (os rfl (os rfl (os rfl (os rfl (os rfl oz))))) (by first | exact loc_get rfl | exact old_get (by assumption)) (by simp) rfl | exact opD_load_el_aggX (qs := [_, _]) ag41 sz41 (os rfl (os rfl (os rfl (os rfl (os rfl oz))))) (by first | assumption | simp) (by decide) rfl)) ?_
      refine rts _ rfl (opD_storeA sz41 (ls rfl (os rfl (os rfl (os rfl (os rfl (os rfl (os rfl (os rfl (os rfl oz))))))))) lz (by repeat (first | exact ones_nil | refine ones_cons (by first | exact one_pl rfl | exact one_sl _ _ _ _ | exact one_ptr _ _) ?_)) rfl rfl (Nat.le_of_ble_eq_true rfl) (List.cons_ne_nil _ _) (by repeat (first | exact bnd_nil | refine bnd_cons (by first | exact pl_bnd _ _ _ | exact sl_bnd (kL_bnd _ _ _) | exact sl_bnd (kI_bnd _ _ _ _) | exact ptr_bnd _ (by omega) | exact any_bnd _ _ | exact sl_own_bnd (kL_bnd _ _ _) (by omega) | exact sl_own_bnd (kL_bnd _ _ _) (by simp only [List.length_append, List.length_cons, List.length_nil]; omega)) ?_)) (by simp only [List.nil_append, List.cons_append, List.map_cons, List.map_nil, List.set_cons_zero, List.set_cons_succ, List.take_succ_cons, List.take_zero, List.drop_succ_cons, List.drop_zero]; rfl) (by simp only [List.nil_append, List.cons_append, List.map_cons, List.map_nil, List.set_cons_zero, List.set_cons_succ, List.take_succ_cons, List.take_zero, List.drop_succ_cons, List.drop_zero]; rfl)) ?_
      refine .nil ?_
      refine aw_keep [(58, _), (13, _), (12, _), (11, _), (10, _), (9, _), (34, _), (2, _), (4, _), (5, _), (6, _), (7, _), (8, _)] ⟨lg (lx (ls rfl oz)), lg (lx (ls rfl (os rfl oz))), lg (lx (ls rfl (os rfl (os rfl oz)))), lg (lx (ls rfl (os rfl (os rfl (os rfl oz))))), lg (lx (ls rfl (os rfl (os rfl (os rfl (os rfl oz)))))), lg (lx (ls rfl (os rfl (os rfl (os rfl (os rfl (os rfl oz))))))), lg (lx (ls rfl (os rfl (os rfl (os rfl (os rfl (os rfl (os rfl oz)))))))), lg (lx (ls rfl (os rfl (os rfl (os rfl (os rfl (os rfl (os rfl (os rfl oz))))))))), lg (lx (ls rfl (os rfl (os rfl (os rfl (os rfl (os rfl (os rfl (os rfl (os rfl oz)))))))))), lg (lx (ls rfl (os rfl (os rfl (os rfl (os rfl (os rfl (os rfl (os rfl (os rfl (os rfl oz))))))))))), lg (lx (ls rfl (os rfl (os rfl (os rfl (os rfl (os rfl (os rfl (os rfl (os rfl (os rfl (os rfl oz)))))))))))), lg (lx (ls rfl (os rfl (os rfl (os rfl (os rfl (os rfl (os rfl (os rfl (os rfl (os rfl (os rfl (os rfl oz))))))))))))), lg (lx (ls rfl (os rfl (os rfl (os rfl (os rfl (os rfl (os rfl (os rfl (os rfl (os rfl (os rfl (os rfl (os rfl oz)))))))))))))), trivial⟩ ?_
      refine aw_region (by decide) ?_
      refine rts _ rfl ((by first | exact opD_fieldAddr fo70_1 (os rfl (os rfl (os rfl (os rfl (os rfl (os rfl (os rfl (os rfl (os rfl (os rfl (os rfl oz))))))))))) | exact opD_fieldAddr_el fo70_1 (os rfl (os rfl (os rfl (os rfl (os rfl (os rfl (os rfl (os rfl (os rfl (os rfl (os rfl oz))))))))))))) ?_
      refine rts _ rfl ((by first | exact opD_load_one ag54 lz (by first | exact loc_get rfl | exact old_get (by assumption)) rfl | exact opD_load_el_one ag54 lz (by first | assumption | simp) rfl)) ?_
      refine rts _ rfl (opD_move (ls rfl (ls rfl (os rfl (os rfl (os rfl (os rfl (os rfl (os rfl (os rfl (os rfl (os rfl oz)))))))))))) ?_
      refine rts _ rfl (opD_move (ls rfl (ls rfl (ls rfl (os rfl (os rfl (os rfl (os rfl (os rfl (os rfl (os rfl (os rfl (os rfl (os rfl (os rfl (os rfl oz)))))))))))))))) ?_
      refine rts _ rfl (opD_add (r := (((rdNum 4611686018427387904 l false).1 + i : Nat) : Int)) (ls rfl lz) lz ((IntWalk.u64_in _ (by omega)).trans (by omega))) ?_
      refine rts _ rfl (opD_add (r := (((rdNum 4611686018427387904 l false).1 + i + 1 : Nat) : Int)) lz (ev_const _ _) ((IntWalk.u64_in _ (by omega)).trans (by omega))) ?_
      refine rts _ rfl (opD_move (ls rfl (ls rfl (ls rfl (ls rfl (ls rfl (ls rfl (os rfl (os rfl (os rfl (os rfl oz))))))))))) ?_
      refine rts _ rfl (opD_move (ls rfl (ls rfl (ls rfl (ls rfl (ls rfl (ls rfl (ls rfl (os rfl (os rfl (os rfl oz))))))))))) ?_
      refine rts _ rfl (opD_move (ls rfl (ls rfl (ls rfl (ls rfl (ls rfl (ls rfl (ls rfl (ls rfl (os rfl (os rfl oz))))))))))) ?_
      refine rts _ rfl (opD_conv_int Go.Proofs.Tryd.underlying22 Go.Proofs.Tryd.underlying58 lz (by first | exact IntWalk.u16_in _ (by omega) | exact rfl)) ?_
      refine rts _ rfl (opD_move (ls rfl (ls rfl (ls rfl (ls rfl (ls rfl (ls rfl (ls rfl (ls rfl (ls rfl (ls rfl (os rfl oz)))))))))))) ?_
      refine rts _ rfl (opD_bytes_str Go.Proofs.Tryd.underlying23 Go.Proofs.Tryd.underlying5 Go.Proofs.Tryd.underlying9 lz) ?_
      refine rts _ rfl (opD_build_struct (rs := [_, _, _, _, _]) Go.Proofs.Tryd.underlying60 pt60 zt60 (parts_cons (cells1 (ls rfl (ls rfl (ls rfl (ls rfl (ls rfl (ls rfl lz)))))) (by first | exact one_pl rfl | exact one_sl _ _ _ _ | exact one_ptr _ _ | exact one_ifc _ _)) (parts_cons (cells1 (ls rfl (ls rfl (ls rfl (ls rfl (ls rfl lz))))) (by first | exact one_pl rfl | exact one_sl _ _ _ _ | exact one_ptr _ _ | exact one_ifc _ _)) (parts_cons (cells1 (ls rfl (ls rfl (ls rfl (ls rfl lz)))) (by first | exact one_pl rfl | exact one_sl _ _ _ _ | exact one_ptr _ _ | exact one_ifc _ _)) (parts_cons (cells1 (ls rfl (ls rfl lz)) (by first | exact one_pl rfl | exact one_sl _ _ _ _ | exact one_ptr _ _ | exact one_ifc _ _)) (parts_cons (cells1 lz (by first | exact one_pl rfl | exact one_sl _ _ _ _ | exact one_ptr _ _ | exact one_ifc _ _)) parts_nil))))) rfl) ?_
      refine rts _ rfl (opD_buildSlice (k := kL) [(rdLn ((rdNum 4611686018427387904 l false).1 + i + 1) l2 b2).1] Go.Proofs.Tryd.underlying54 sz60 zt60 (by decide) rfl (parts_cons (cellsA lz) parts_nil) rfl rfl) ?_
      refine rts _ rfl ((by first | exact opD_appendX Go.Proofs.Tryd.underlying54 el60 (ls rfl (ls rfl (ls rfl (ls rfl (ls rfl (ls rfl (ls rfl (ls rfl (ls rfl (ls rfl (ls rfl (ls rfl lz)))))))))))) lz rfl (by first | omega | (simp only [List.length_cons, List.length_nil, List.length_append]; omega)) (by first | omega | (simp only [List.length_cons, List.length_nil, List.length_append]; omega)) (by first | (with_reducible exact List.nil_append _) | exact rfl) (by simp only [List.nil_append, List.cons_append, List.map_cons, List.map_nil, List.set_cons_zero, List.set_cons_succ, List.take_succ_cons, List.take_zero, List.drop_succ_cons, List.drop_zero]; rfl) | exact opD_appendN (k := kL) Go.Proofs.Tryd.underlying54 el60 (ls rfl (ls rfl (ls rfl (ls rfl (ls rfl (ls rfl (ls rfl (ls rfl (ls rfl (ls rfl (ls rfl (ls rfl lz)))))))))))) lz (by first | omega | (simp only [List.length_cons, List.length_nil, List.length_append]; omega)) (by first | omega | (simp only [List.length_cons, List.length_nil, List.length_append]; omega)) (by first | exact List.length_nil | (simp only [List.length_cons, List.length_nil, Nat.zero_add, Nat.reduceAdd]; rfl)) (by simp only [List.nil_append, List.cons_append, List.map_cons, List.map_nil, List.set_cons_zero, List.set_cons_succ, List.take_succ_cons, List.take_zero, List.drop_succ_cons, List.drop_zero]; rfl))) ?_
      refine rts _ rfl ((by first | exact opD_fieldAddr fo70_1 (ls rfl (ls rfl (ls rfl (ls rfl (ls rfl (ls rfl (ls rfl (ls rfl (ls rfl (ls rfl (ls rfl (ls rfl (ls rfl (ls rfl (ls rfl (os rfl (os rfl (os rfl (os rfl (os rfl (os rfl (os rfl (os rfl (os rfl (os rfl (os rfl oz)))))))))))))))))))))))))) | exact opD_fieldAddr_el fo70_1 (ls rfl (ls rfl (ls rfl (ls rfl (ls rfl (ls rfl (ls rfl (ls rfl (ls rfl (ls rfl (ls rfl (ls rfl (ls rfl (ls rfl (ls rfl (os rfl (os rfl (os rfl (os rfl (os rfl (os rfl (os rfl (os rfl (os rfl (os rfl (os rfl oz)))))))))))))))))))))))))))) ?_
      refine rts _ rfl ((by first | exact opD_storeO sz54 lz (le_of_eq (ls rfl lz)) (by first | exact one_pl rfl | exact one_sl _ _ _ _ | exact one_ptr _ _) rfl (by simp) (by first | exact pl_bnd _ _ _ | exact sl_bnd (kL_bnd _ _ _) | exact sl_bnd (kI_bnd _ _ _ _) | exact ptr_bnd _ (by omega) | exact any_bnd _ _ | exact sl_own_bnd (kL_bnd _ _ _) (by omega) | exact sl_own_bnd (kL_bnd _ _ _) (by simp only [List.length_append, List.length_cons, List.length_nil]; omega)) (by simp only [List.nil_append, List.cons_append, List.map_cons, List.map_nil, List.set_cons_zero, List.set_cons_succ, List.take_succ_cons, List.take_zero, List.drop_succ_cons, List.drop_zero]; rfl) (by simp only [List.nil_append, List.cons_append, List.map_cons, List.map_nil, List.set_cons_zero, List.set_cons_succ, List.take_succ_cons, List.take_zero, List.drop_succ_cons, List.drop_zero]; rfl) | exact opD_storeG sz54 lz (le_of_eq (ls rfl lz)) (by first | exact one_pl rfl | exact one_sl _ _ _ _ | exact one_ptr _ _) hG (by simp) (by first | exact pl_bnd _ _ _ | exact sl_bnd (kL_bnd _ _ _) | exact sl_bnd (kI_bnd _ _ _ _) | exact ptr_bnd _ (by omega) | exact any_bnd _ _ | exact sl_own_bnd (kL_bnd _ _ _) (by omega) | exact sl_own_bnd (kL_bnd _ _ _) (by simp only [List.length_append, List.length_cons, List.length_nil]; omega)) (by simp only [List.nil_append, List.cons_append, List.map_cons, List.map_nil, List.set_cons_zero, List.set_cons_succ, List.take_succ_cons, List.take_zero, List.drop_succ_cons, List.drop_zero]; rfl))) ?_
      refine .nil ?_
      refine aw_keep [(58, _), (13, _), (12, _), (11, _), (10, _), (9, _), (34, _), (2, _), (4, _), (5, _), (6, _), (7, _), (8, _)] ⟨lg (lx (ls rfl (ls rfl (ls rfl (ls rfl (ls rfl (ls rfl (ls rfl (ls rfl (ls rfl (ls rfl (ls rfl (ls rfl (ls rfl (ls rfl (ls rfl (ls rfl oz))))))))))))))))), lg (lx (ls rfl (ls rfl (ls rfl (ls rfl (ls rfl (ls rfl (ls rfl (ls rfl (ls rfl (ls rfl (ls rfl (ls rfl (ls rfl (ls rfl (ls rfl (ls rfl (os rfl oz)))))))))))))))))), lg (lx (ls rfl (ls rfl (ls rfl (ls rfl (ls rfl (ls rfl (ls rfl (ls rfl (ls rfl (ls rfl (ls rfl (ls rfl (ls rfl (ls rfl (ls rfl (ls rfl (os rfl (os rfl oz))))))))))))))))))), lg (lx (ls rfl (ls rfl (ls rfl (ls rfl (ls rfl (ls rfl (ls rfl (ls rfl (ls rfl (ls rfl (ls rfl (ls rfl (ls rfl (ls rfl (ls rfl (ls rfl (os rfl (os rfl (os rfl oz)))))))))))))))))))), lg (lx (ls rfl (ls rfl (ls rfl (ls rfl (ls rfl (ls rfl (ls rfl (ls rfl (ls rfl (ls rfl (ls rfl (ls rfl (ls rfl (ls rfl (ls rfl (ls rfl (os rfl (os rfl (os rfl (os rfl oz))))))))))))))))))))), lg (lx (ls rfl (ls rfl (ls rfl (ls rfl (ls rfl (ls rfl (ls rfl (ls rfl (ls rfl (ls rfl (ls rfl (ls rfl (ls rfl (ls rfl (ls rfl (ls rfl (os rfl (os rfl (os rfl (os rfl (os rfl oz)))))))))))))))))))))), lg (lx (ls rfl (ls rfl (ls rfl (ls rfl (ls rfl (ls rfl (ls rfl (ls rfl (ls rfl (ls rfl (ls rfl (ls rfl (ls rfl (ls rfl (ls rfl (ls rfl (os rfl (os rfl (os rfl (os rfl (os rfl (os rfl oz))))))))))))))))))))))), lg (lx (ls rfl (ls rfl (ls rfl (ls rfl (ls rfl (ls rfl (ls rfl (ls rfl (ls rfl (ls rfl (ls rfl (ls rfl (ls rfl (ls rfl (ls rfl (ls rfl (os rfl (os rfl (os rfl (os rfl (os rfl (os rfl (os rfl oz)))))))))))))))))))))))), lg (lx (ls rfl (ls rfl (ls rfl (ls rfl (ls rfl (ls rfl (ls rfl (ls rfl (ls rfl (ls rfl (ls rfl (ls rfl (ls rfl (ls rfl (ls rfl (ls rfl (os rfl (os rfl (os rfl (os rfl (os rfl (os rfl (os rfl (os rfl oz))))))))))))))))))))))))), lg (lx (ls rfl (ls rfl (ls rfl (ls rfl (ls rfl (ls rfl (ls rfl (ls rfl (ls rfl (ls rfl (ls rfl (ls rfl (ls rfl (ls rfl (ls rfl (ls rfl (os rfl (os rfl (os rfl (os rfl (os rfl (os rfl (os rfl (os rfl (os rfl oz)))))))))))))))))))))))))), lg (lx (ls rfl (ls rfl (ls rfl (ls rfl (ls rfl (ls rfl (ls rfl (ls rfl (ls rfl (ls rfl (ls rfl (ls rfl (ls rfl (ls rfl (ls rfl (ls rfl (os rfl (os rfl (os rfl (os rfl (os rfl (os rfl (os rfl (os rfl (os rfl (os rfl oz))))))))))))))))))))))))))), lg (lx (ls rfl (ls rfl (ls rfl (ls rfl (ls rfl (ls rfl (ls rfl (ls rfl (ls rfl (ls rfl (ls rfl (ls rfl (ls rfl (ls rfl (ls rfl (ls rfl (os rfl (os rfl (os rfl (os rfl (os rfl (os rfl (os rfl (os rfl (os rfl (os rfl (os rfl oz)))))))))))))))))))))))))))), lg (lx (ls rfl (ls rfl (ls rfl (ls rfl (ls rfl (ls rfl (ls rfl (ls rfl (ls rfl (ls rfl (ls rfl (ls rfl (ls rfl (ls rfl (ls rfl (ls rfl (os rfl (os rfl (os rfl (os rfl (os rfl (os rfl (os rfl (os rfl (os rfl (os rfl (os rfl (os rfl oz))))))))))))))))))))))))))))), trivial⟩ ?_
      refine aw_region (by decide) ?_
      refine rts _ rfl (opD_move (os rfl (os rfl (os rfl (os rfl (os rfl (os rfl (os rfl (os rfl (os rfl (os rfl (os rfl (os rfl oz))))))))))))) ?_
      refine rts _ rfl (opD_add lz (ev_const _ _) (by first | exact IntWalk.u64_in _ (by omega) | exact rfl)) ?_
      refine rts _ rfl (opD_assign lz) ?_
      refine .nil ?_
      refine cut_yes (l := [(2, _), (4, _), (5, _), (6, _), (7, _), (8, _)]) ⟨lg (ls rfl (ls rfl (ls rfl (os rfl (os rfl (os rfl (os rfl (os rfl (os rfl (os rfl oz)))))))))), lg (ls rfl (ls rfl (ls rfl (os rfl (os rfl (os rfl (os rfl (os rfl (os rfl (os rfl (os rfl oz))))))))))), lg (ls rfl (ls rfl (ls rfl (os rfl (os rfl (os rfl (os rfl (os rfl (os rfl (os rfl (os rfl (os rfl oz)))))))))))), lg (ls rfl (ls rfl (ls rfl (os rfl (os rfl (os rfl (os rfl (os rfl (os rfl (os rfl (os rfl (os rfl (os rfl oz))))))))))))), lg (ls rfl (ls rfl (ls rfl (os rfl (os rfl (os rfl (os rfl (os rfl (os rfl (os rfl (os rfl (os rfl (os rfl (os rfl oz)))))))))))))), lg lz, trivial⟩ (by repeat (first | exact bnd_nil | refine bnd_cons (by first | exact pl_bnd _ _ _ | exact sl_bnd (kL_bnd _ _ _) | exact sl_bnd (kI_bnd _ _ _ _) | exact ptr_bnd _ (by omega) | exact any_bnd _ _ | exact sl_own_bnd (kL_bnd _ _ _) (by omega) | exact sl_own_bnd (kL_bnd _ _ _) (by simp only [List.length_append, List.length_cons, List.length_nil]; omega)) ?_)) (Nat.le_of_ble_eq_true rfl) (Nat.le_of_ble_eq_true rfl) (by simp only [List.nil_append, List.cons_append, List.map_cons, List.map_nil, List.set_cons_zero, List.set_cons_succ, List.take_succ_cons, List.take_zero, List.drop_succ_cons, List.drop_zero]; rfl) (by simp only [List.nil_append, List.cons_append, List.map_cons, List.map_nil, List.set_cons_zero, List.set_cons_succ, List.take_succ_cons, List.take_zero, List.drop_succ_cons, List.drop_zero]; rfl) (by repeat (first | exact bl_nil | refine bl_cons (by repeat (first | exact bnd_nil | refine bnd_cons (by first | exact pl_bnd _ _ _ | exact sl_bnd (kL_bnd _ _ _) | exact sl_bnd (kI_bnd _ _ _ _) | exact ptr_bnd _ (by omega) | exact any_bnd _ _ | exact sl_own_bnd (kL_bnd _ _ _) (by omega) | exact sl_own_bnd (kL_bnd _ _ _) (by simp only [List.length_append, List.length_cons, List.length_nil]; omega)) ?_)) ?_)) ?_
      refine ⟨n, by omega, i + 1, acc ++ [(rdLn ((rdNum 4611686018427387904 l false).1 + i + 1) l2 b2).1], _, _, ⟨le_of_eq (eg oz), le_of_eq (eg (os rfl oz)), le_of_eq (eg (os rfl (os rfl oz))), le_of_eq (eg (os rfl (os rfl (os rfl oz)))), le_of_eq (eg (os rfl (os rfl (os rfl (os rfl oz))))), le_of_eq (eg (os rfl (os rfl (os rfl (os rfl (os rfl oz)))))), trivial⟩, rfl, by omega, hli, hgo, by simp [hal], ?_⟩
      intro x hx
      rcases List.mem_append.1 hx with hx | hx
      · exact hacc x hx
      · rw [List.mem_singleton.1 hx]; exact hlo
  · skip
    have hx : n = 0 ∨ b2 = true := by
      simp only [Bool.and_eq_false_iff, decide_eq_false_iff_not, Bool.not_eq_false'] at hc
      rcases hc with hc | hc
      · left; omega
      · exact .inr hc
    refine aw_exit ?_
    refine cut_no ?_
    refine aw_keep [(34, _), (2, _), (4, _), (5, _), (6, _), (7, _), (8, _)] ⟨lg oz, lg (os rfl oz), lg (os rfl (os rfl oz)), lg (os rfl (os rfl (os rfl oz))), lg (os rfl (os rfl (os rfl (os rfl oz)))), lg (os rfl (os rfl (os rfl (os rfl (os rfl oz))))), lg (os rfl (os rfl (os rfl (os rfl (os rfl (os rfl oz)))))), trivial⟩ ?_
    refine aw_seq ?_
    refine aw_seq ?_
    refine aw_region (by decide) ?_
    refine rts _ rfl ((by first | exact opD_load_aggX (qs := [_, _]) ag41 sz41 (os rfl (os rfl oz)) (by first | exact loc_get rfl | exact old_get (by assumption)) (by simp) rfl | exact opD_load_el_aggX (qs := [_, _]) ag41 sz41 (os rfl (os rfl oz)) (by first | assumption | simp) (by decide) rfl)) ?_
    refine rts _ rfl (opD_pure ht34 (ref_done) ⟨le_of_eq lz, trivial⟩) ?_
    refine rts _ rfl (opD_not lz) ?_
    refine rts _ rfl (opD_move lz) ?_
    refine rtg _ rfl lz (fun hg15_4 => by
        have hg15_4' := hg15_4
        try simp only [beq_iff_eq, decide_eq_true_eq, decide_eq_false_iff_not, Bool.and_eq_true, Bool.or_eq_true, Bool.or_eq_false_iff, Bool.and_eq_false_iff] at hg15_4'
        exact (by first | exact opD_load_aggX (qs := [_, _]) ag70 sz70 (ls rfl (ls rfl (ls rfl (ls rfl (os rfl (os rfl (os rfl (os rfl (os rfl oz))))))))) (by first | exact loc_get rfl | exact old_get (by assumption) | exact hB) (by simp) rfl | exact opD_load_el_aggX (qs := [_, _]) ag70 sz70 (ls rfl (ls rfl (ls rfl (ls rfl (os rfl (os rfl (os rfl (os rfl (os rfl oz))))))))) (by first | assumption | simp) (by decide) rfl)) ?_
    refine rtg _ rfl (ls rfl lz) (fun hg15_5 => by
        have hg15_5' := hg15_5
        try simp only [beq_iff_eq, decide_eq_true_eq, decide_eq_false_iff_not, Bool.and_eq_true, Bool.or_eq_true, Bool.or_eq_false_iff, Bool.and_eq_false_iff] at hg15_5'
        exact opD_pure ht48 (lg_May (by omega) (by omega) hacc) ⟨(le_of_eq (lz.trans (pif_pos hg15_5))).trans (agg_le (ps := [_, _]) (qs := [_, _]) ⟨Pd.le_refl _, sl_le _ _ _ _, trivial⟩), trivial⟩) ?_
    refine rtg _ rfl (ls rfl (ls rfl lz)) (fun hg15_6 => by
        have hg15_6' := hg15_6
        try simp only [beq_iff_eq, decide_eq_true_eq, decide_eq_false_iff_not, Bool.and_eq_true, Bool.or_eq_true, Bool.or_eq_false_iff, Bool.and_eq_false_iff] at hg15_6'
        exact opD_not (lz.trans (pif_pos hg15_6))) ?_
    refine rts _ rfl (opD_or (ls rfl (ls rfl (ls rfl lz))) lz) ?_
    refine .nil ?_
    refine aw_keep [(84, _), (34, _), (2, _), (4, _), (5, _), (6, _), (7, _), (8, _)] ⟨lg lz, lg (ls rfl (ls rfl (ls rfl (ls rfl (ls rfl (ls rfl (ls rfl (ls rfl oz)))))))), lg (ls rfl (ls rfl (ls rfl (ls rfl (ls rfl (ls rfl (ls rfl (ls rfl (os rfl oz))))))))), lg (ls rfl (ls rfl (ls rfl (ls rfl (ls rfl (ls rfl (ls rfl (ls rfl (os rfl (os rfl oz)))))))))), lg (ls rfl (ls rfl (ls rfl (ls rfl (ls rfl (ls rfl (ls rfl (ls rfl (os rfl (os rfl (os rfl oz))))))))))), lg (ls rfl (ls rfl (ls rfl (ls rfl (ls rfl (ls rfl (ls rfl (ls rfl (os rfl (os rfl (os rfl (os rfl oz)))))))))))), lg (ls rfl (ls rfl (ls rfl (ls rfl (ls rfl (ls rfl (ls rfl (ls rfl (os rfl (os rfl (os rfl (os rfl (os rfl oz))))))))))))), lg (ls rfl (ls rfl (ls rfl (ls rfl (ls rfl (ls rfl (ls rfl (ls rfl (os rfl (os rfl (os rfl (os rfl (os rfl (os rfl oz)))))))))))))), trivial⟩ ?_
    refine aw_cond _ oz (fun hc => ?_) (fun hc => ?_)
    · skip
      have hfin : decR l = none := by
        simp only [Bool.or_eq_true] at hc
        rcases hx with rfl | rfl
        · unfold decR
          simp only [← hgo]
          rw [if_neg]
          rintro ⟨h1, h2⟩
          have h1' : (rdDone b2 l2).isSome = false := h1
          have h2' : lgOk (rdNum 4611686018427387904 l false).1 acc = true := h2
          rw [h2'] at hc
          cases b2 with
          | true => rw [done_wrong] at h1'; cases h1'
          | false =>
            cases l2 with
            | nil => simp at hc
            | cons u t => simp [rdDone] at h1'
        · obtain rfl := hI.1 rfl
          unfold decR
          simp only [← hgo]
          rw [if_neg]
          rintro ⟨h1, h2⟩
          rw [decGo_wrong, done_wrong] at h1
          cases h1
      refine aw_seq ?_
      refine aw_region (by decide) ?_
      refine rts _ rfl (opD_build_struct (rs := [_, _]) Go.Proofs.Tryd.underlying70 pt70 zt70 parts_nil rfl) ?_
      refine rts _ rfl (opD_storeA sz70 (ls rfl (os rfl (os rfl oz))) lz (by repeat (first | exact ones_nil | refine ones_cons (by first | exact one_pl rfl | exact one_sl _ _ _ _ | exact one_ptr _ _) ?_)) rfl rfl (Nat.le_of_ble_eq_true rfl) (List.cons_ne_nil _ _) (by repeat (first | exact bnd_nil | refine bnd_cons (by first | exact pl_bnd _ _ _ | exact sl_bnd (kL_bnd _ _ _) | exact sl_bnd (kI_bnd _ _ _ _) | exact ptr_bnd _ (by omega) | exact any_bnd _ _ | exact sl_own_bnd (kL_bnd _ _ _) (by omega) | exact sl_own_bnd (kL_bnd _ _ _) (by simp only [List.length_append, List.length_cons, List.length_nil]; omega)) ?_)) (by simp only [List.nil_append, List.cons_append, List.map_cons, List.map_nil, List.set_cons_zero, List.set_cons_succ, List.take_succ_cons, List.take_zero, List.drop_succ_cons, List.drop_zero]; rfl) (by simp only [List.nil_append, List.cons_append, List.map_cons, List.map_nil, List.set_cons_zero, List.set_cons_succ, List.take_succ_cons, List.take_zero, List.drop_succ_cons, List.drop_zero]; rfl)) ?_
      refine rts _ rfl (opD_assign (ev_const _ _)) ?_
      refine .nil ?_
      refine aw_keep [(3, _), (84, _), (34, _), (2, _), (4, _), (5, _), (6, _), (7, _), (8, _)] ⟨lg lz, lg (ls rfl (lx (ls rfl oz))), lg (ls rfl (lx (ls rfl (os rfl oz)))), lg (ls rfl (lx (ls rfl (os rfl (os rfl oz))))), lg (ls rfl (lx (ls rfl (os rfl (os rfl (os rfl oz)))))), lg (ls rfl (lx (ls rfl (os rfl (os rfl (os rfl (os rfl oz))))))), lg (ls rfl (lx (ls rfl (os rfl (os rfl (os rfl (os rfl (os rfl oz)))))))), lg (ls rfl (lx (ls rfl (os rfl (os rfl (os rfl (os rfl (os rfl (os rfl oz))))))))), lg (ls rfl (lx (ls rfl (os rfl (os rfl (os rfl (os rfl (os rfl (os rfl (os rfl oz)))))))))), trivial⟩ ?_
      refine aw_ret ?_
      first | exact done_ext (.inr rfl) ((res_c1 (B := ⟨70, [_, _]⟩) rfl ag70 sz70 (eg (os rfl (os rfl (os rfl oz)))) (loc_get (i := 0) rfl) rfl (eg oz)).le (tup_le ⟨(agg_le (ps := [_, _]) (qs := [pl (.int .u64 ((0 : Nat) : Int)), sl kL none none []]) ⟨le_of_eq rfl, le_nil rfl, trivial⟩).trans (le_of_eq (by unfold decLg; rw [hfin]; rfl)), le_of_eq (by unfold decN; rw [hfin]), trivial⟩)) (by unfold decLg; rw [hfin]; exact (tup_bnd (bnd_cons (lgP_bnd _ _ _ _) (bnd_cons (pl_bnd _ _ _) bnd_nil)))) | exact done_ext (.inr rfl) ((res_c1 (B := ⟨70, [_, _]⟩) rfl ag70 sz70 (eg (os rfl (os rfl (os rfl oz)))) (loc_get (i := 0) rfl) rfl (eg oz)).le (tup_le ⟨(agg_le (ps := [_, _]) (qs := [_, _]) ⟨Pd.le_refl _, sl_le _ _ _ _, trivial⟩).trans (le_of_eq (by unfold decLg; rw [hfin]; rfl)), le_of_eq (by unfold decN; rw [hfin]), trivial⟩)) (by unfold decLg; rw [hfin]; exact (tup_bnd (bnd_cons (lgP_bnd _ _ _ _) (bnd_cons (pl_bnd _ _ _) bnd_nil))))
    · skip
      have hfin : decR l = some ((rdNum 4611686018427387904 l false).1, acc) := by
        simp only [Bool.or_eq_false_iff] at hc
        obtain ⟨hc1, hc2⟩ := hc
        cases b2 with
        | true => simp at hc1
        | false =>
          obtain rfl : n = 0 := by
            rcases hx with h | h
            · exact h
            · cases h
          obtain rfl : l2 = [] := by cases l2 with
            | nil => rfl
            | cons u t => simp at hc1; omega
          unfold decR
          simp only [← hgo]
          rw [if_pos]
          · rfl
          · exact ⟨rfl, (show lgOk (rdNum 4611686018427387904 l false).1 acc = true by simpa using hc2)⟩
      refine aw_skip ?_
      refine aw_keep [(84, _), (34, _), (2, _), (4, _), (5, _), (6, _), (7, _), (8, _)] ⟨lg oz, lg (os rfl oz), lg (os rfl (os rfl oz)), lg (os rfl (os rfl (os rfl oz))), lg (os rfl (os rfl (os rfl (os rfl oz)))), lg (os rfl (os rfl (os rfl (os rfl (os rfl oz))))), lg (os rfl (os rfl (os rfl (os rfl (os rfl (os rfl oz)))))), lg (os rfl (os rfl (os rfl (os rfl (os rfl (os rfl (os rfl oz))))))), trivial⟩ ?_
      refine aw_seq ?_
      refine aw_region (by decide) ?_
      refine rts _ rfl ((by first | exact opD_load_aggX (qs := [_, _]) ag70 sz70 (os rfl (os rfl (os rfl (os rfl (os rfl (os rfl oz)))))) (by first | exact loc_get rfl | exact old_get (by assumption)) (by simp) rfl | exact opD_load_el_aggX (qs := [_, _]) ag70 sz70 (os rfl (os rfl (os rfl (os rfl (os rfl (os rfl oz)))))) (by first | assumption | simp) (by decide) rfl)) ?_
      refine rts _ rfl (opD_storeA sz70 (ls rfl (os rfl (os rfl oz))) lz (by repeat (first | exact ones_nil | refine ones_cons (by first | exact one_pl rfl | exact one_sl _ _ _ _ | exact one_ptr _ _) ?_)) rfl rfl (Nat.le_of_ble_eq_true rfl) (List.cons_ne_nil _ _) (by repeat (first | exact bnd_nil | refine bnd_cons (by first | exact pl_bnd _ _ _ | exact sl_bnd (kL_bnd _ _ _) | exact sl_bnd (kI_bnd _ _ _ _) | exact ptr_bnd _ (by omega) | exact any_bnd _ _ | exact sl_own_bnd (kL_bnd _ _ _) (by omega) | exact sl_own_bnd (kL_bnd _ _ _) (by simp only [List.length_append, List.length_cons, List.length_nil]; omega)) ?_)) (by simp only [List.nil_append, List.cons_append, List.map_cons, List.map_nil, List.set_cons_zero, List.set_cons_succ, List.take_succ_cons, List.take_zero, List.drop_succ_cons, List.drop_zero]; rfl) (by simp only [List.nil_append, List.cons_append, List.map_cons, List.map_nil, List.set_cons_zero, List.set_cons_succ, List.take_succ_cons, List.take_zero, List.drop_succ_cons, List.drop_zero]; rfl)) ?_
      refine rts _ rfl (opD_assign (ev_const _ _)) ?_
      refine .nil ?_
      refine aw_keep [(3, _), (84, _), (34, _), (2, _), (4, _), (5, _), (6, _), (7, _), (8, _)] ⟨lg lz, lg (ls rfl (lx (ls rfl oz))), lg (ls rfl (lx (ls rfl (os rfl oz)))), lg (ls rfl (lx (ls rfl (os rfl (os rfl oz))))), lg (ls rfl (lx (ls rfl (os rfl (os rfl (os rfl oz)))))), lg (ls rfl (lx (ls rfl (os rfl (os rfl (os rfl (os rfl oz))))))), lg (ls rfl (lx (ls rfl (os rfl (os rfl (os rfl (os rfl (os rfl oz)))))))), lg (ls rfl (lx (ls rfl (os rfl (os rfl (os rfl (os rfl (os rfl (os rfl oz))))))))), lg (ls rfl (lx (ls rfl (os rfl (os rfl (os rfl (os rfl (os rfl (os rfl (os rfl oz)))))))))), trivial⟩ ?_
      refine aw_ret ?_
      first | exact done_ext (.inr rfl) ((res_c1 (B := ⟨70, [_, _]⟩) rfl ag70 sz70 (eg (os rfl (os rfl (os rfl oz)))) (loc_get (i := 0) rfl) rfl (eg oz)).le (tup_le ⟨(agg_le (ps := [_, _]) (qs := [pl (.int .u64 ((0 : Nat) : Int)), sl kL none none []]) ⟨le_of_eq rfl, le_nil rfl, trivial⟩).trans (le_of_eq (by unfold decLg; rw [hfin]; rfl)), le_of_eq (by unfold decN; rw [hfin]), trivial⟩)) (by unfold decLg; rw [hfin]; exact (tup_bnd (bnd_cons (lgP_bnd _ _ _ _) (bnd_cons (pl_bnd _ _ _) bnd_nil)))) | exact done_ext (.inr rfl) ((res_c1 (B := ⟨70, [_, _]⟩) rfl ag70 sz70 (eg (os rfl (os rfl (os rfl oz)))) (loc_get (i := 0) rfl) rfl (eg oz)).le (tup_le ⟨(agg_le (ps := [_, _]) (qs := [_, _]) ⟨Pd.le_refl _, sl_le _ _ _ _, trivial⟩).trans (le_of_eq (by unfold decLg; rw [hfin]; rfl)), le_of_eq (by unfold decN; rw [hfin]), trivial⟩)) (by unfold decLg; rw [hfin]; exact (tup_bnd (bnd_cons (lgP_bnd _ _ _ _) (bnd_cons (pl_bnd _ _ _) bnd_nil))))
end Go.Proofs.YtmnhfpcbfdgbcaaDoor.Eng.Lx

