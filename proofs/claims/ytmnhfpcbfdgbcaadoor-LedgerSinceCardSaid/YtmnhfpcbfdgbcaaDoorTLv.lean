/- TLv: what the functions of one package do, walked; used by the laws of this seat. -/
import Derived.Test.YtmnhfpcbfdgbcaaDoorTLu
namespace Go.Proofs.YtmnhfpcbfdgbcaaDoor.Eng.Lv
set_option linter.unusedVariables false
set_option linter.unusedSimpArgs false
open Go.RowKit Go.Proofs.YtmnhfpcbfdgbcaaDoor.Plain Go.Proofs.YtmnhfpcbfdgbcaaDoor.Eng

theorem ag63 : aggT Go.Proofs.Tryd.prog 63 = some true := by kernel_rfl
theorem sz63 : sizeT Go.Proofs.Tryd.prog 63 = some 5 := by kernel_rfl
theorem ag22 : aggT Go.Proofs.Tryd.prog 22 = some false := by kernel_rfl
theorem ag70 : aggT Go.Proofs.Tryd.prog 70 = some true := by kernel_rfl
theorem sz70 : sizeT Go.Proofs.Tryd.prog 70 = some 2 := by kernel_rfl
theorem ht40 : hasText Go.Proofs.Tryd.prog 40 = true := by kernel_rfl
theorem zt57 : zeroT Go.Proofs.Tryd.prog 57 = some [.int .u64 0, .slice none 0 0] := by kernel_rfl
theorem sz57 : sizeT Go.Proofs.Tryd.prog 57 = some 2 := by kernel_rfl
theorem fo70_1 : fieldOff Go.Proofs.Tryd.prog 70 1 = some 1 := by kernel_rfl
theorem ag54 : aggT Go.Proofs.Tryd.prog 54 = some false := by kernel_rfl
theorem ag57 : aggT Go.Proofs.Tryd.prog 57 = some true := by kernel_rfl
theorem ht47 : hasText Go.Proofs.Tryd.prog 47 = true := by kernel_rfl
theorem ht39 : hasText Go.Proofs.Tryd.prog 39 = true := by kernel_rfl
theorem ht42 : hasText Go.Proofs.Tryd.prog 42 = true := by kernel_rfl
theorem fo57_1 : fieldOff Go.Proofs.Tryd.prog 57 1 = some 1 := by kernel_rfl
theorem ag55 : aggT Go.Proofs.Tryd.prog 55 = some false := by kernel_rfl
theorem mixed : Go.Proofs.Tryd.prog.follows .mixedOrders = true := by kernel_rfl
theorem fo63_0 : fieldOff Go.Proofs.Tryd.prog 63 0 = some 0 := by kernel_rfl

open Go.Proofs.YtmnhfpcbfdgbcaaDoor.Eng.Pk Go.Proofs.YtmnhfpcbfdgbcaaDoor.Eng.Rd Go.Proofs.YtmnhfpcbfdgbcaaDoor.Eng.Pb Go.Proofs.YtmnhfpcbfdgbcaaDoor.Eng.Er Go.Proofs.YtmnhfpcbfdgbcaaDoor.Eng.Rf06 Go.Proofs.YtmnhfpcbfdgbcaaDoor.Eng.Lg Go.Proofs.YtmnhfpcbfdgbcaaDoor.Eng.Lc Go.Proofs.YtmnhfpcbfdgbcaaDoor.Eng.Ls Go.Proofs.YtmnhfpcbfdgbcaaDoor.Eng.Lt Go.Proofs.YtmnhfpcbfdgbcaaDoor.Eng.Le Go.Proofs.YtmnhfpcbfdgbcaaDoor.Eng.Ld Go.Proofs.YtmnhfpcbfdgbcaaDoor.Eng.Lx Go.Proofs.YtmnhfpcbfdgbcaaDoor.Eng.Lu
theorem from_eq {d q : Nat} {l : List Ln} (hok : LgOk d l) : fromL l q = l.drop (q - (d + 1)) := by
  by_cases h : q - (d + 1) ≤ l.length
  · refine (from_drop hok h (fun j x hj hx => ?_) fun hlt => ?_).symm
    · have := (hok.2.2.2 j x hx).2; omega
    · refine ⟨l[q - (d + 1)], List.getElem?_eq_getElem hlt, ?_⟩
      have := (hok.2.2.2 _ _ (List.getElem?_eq_getElem hlt)).2; omega
  · rw [List.drop_eq_nil_of_le (by omega)]
    have := from_drop (q := q) hok (Nat.le_refl l.length) (fun j x hj hx => by have := (hok.2.2.2 j x hx).2; omega) (fun h => by omega)
    rw [← this, List.drop_length]
theorem since_ok {d q : Nat} {l : List Ln} (hok : LgOk d l) (hx : ∀ x ∈ l, LnOk x) : Pure Go.Proofs.Tryd.prog 42 [lgP d l, pl (.int .u64 (q : Int))] (tup [sl kL none none (l.drop (q - (d + 1))), pl .nilIface]) := by
  have h := lg_since (d := d) (q := q) (l := l) (by have := hok.1; omega) (by have := hok.2.1; omega) hx
  rw [sinceL_t hok, lgE_t hok, from_eq hok] at h
  exact h

set_option maxRecDepth 100000 in
set_option maxHeartbeats 2000000 in
theorem ledgerSince {d q : Nat} {l : List Ln} {s : St} (hst : StGV s) (hd : d < 18446744073709551616) (hq : q < 18446744073709551616) (hl : l.length * 40 ≤ 140737488355328) (hx : ∀ x ∈ l, LnOk x) : AC Go.Proofs.Tryd.prog 8 [lgP d l, pl (.int .u64 (q : Int))] s (pl (.bool true)) s := by
  unfold lgP
  refine ac_of_aw s.boxes.length s.fr.length Go.Proofs.Tryd.func8 rfl (by simp [Go.Proofs.Tryd.ntmps8]) ?_
  refine aw_ext0 ?_
  refine aw_keep [(0, _), (1, _)] ⟨lg ez, lg (es ez), trivial⟩ ?_
  refine aw_seq ?_
  refine aw_region (by decide) ?_
  refine rts _ rfl (opD_boxA oz (by repeat (first | exact bnd_nil | refine bnd_cons (by first | exact pl_bnd _ _ _ | exact sl_bnd (kL_bnd _ _ _) | exact sl_bnd (kI_bnd _ _ _ _) | exact ptr_bnd _ (by omega) | exact any_bnd _ _ | exact sl_own_bnd (kL_bnd _ _ _) (by omega) | exact sl_own_bnd (kL_bnd _ _ _) (by simp only [List.length_append, List.length_cons, List.length_nil]; omega)) ?_)) (by first | exact List.length_nil | (simp only [List.length_cons, List.length_nil, Nat.zero_add, Nat.reduceAdd]; rfl)) (by simp only [List.nil_append, List.cons_append, List.map_cons, List.map_nil, List.set_cons_zero, List.set_cons_succ, List.take_succ_cons, List.take_zero, List.drop_succ_cons, List.drop_zero]; rfl)) ?_
  refine rts _ rfl (opD_assign (ev_const _ _)) ?_
  refine .nil ?_
  refine aw_keep [(4, _), (2, _), (0, _), (1, _)] ⟨lg lz, lg (ls rfl lz), lg (ls rfl (ls rfl oz)), lg (ls rfl (ls rfl (os rfl oz))), trivial⟩ ?_
  refine aw_seq ?_
  refine aw_region (by decide) ?_
  refine rts _ rfl ((by first | exact opD_load_aggX (qs := [_, _]) ag70 sz70 (os rfl oz) (by first | exact loc_get rfl | exact old_get (by assumption)) (by simp) rfl | exact opD_load_el_aggX (qs := [_, _]) ag70 sz70 (os rfl oz) (by first | assumption | simp) (by decide) rfl)) ?_
  refine rts _ rfl (opD_pure ht40 (give_lg (d := d) (l := l) hl) ⟨le_of_eq lz, trivial⟩) ?_
  refine rts _ rfl (opD_allocX zt57 (by first | exact List.length_nil | (simp only [List.length_cons, List.length_nil, Nat.zero_add, Nat.reduceAdd]; rfl)) (by simp only [List.nil_append, List.cons_append, List.map_cons, List.map_nil, List.set_cons_zero, List.set_cons_succ, List.take_succ_cons, List.take_zero, List.drop_succ_cons, List.drop_zero]; rfl)) ?_
  refine rts _ rfl (opD_storeA sz57 lz (ls rfl lz) (by repeat (first | exact ones_nil | refine ones_cons (by first | exact one_pl rfl | exact one_sl _ _ _ _ | exact one_ptr _ _) ?_)) rfl rfl (Nat.le_of_ble_eq_true rfl) (List.cons_ne_nil _ _) (by repeat (first | exact bnd_nil | refine bnd_cons (by first | exact pl_bnd _ _ _ | exact sl_bnd (kL_bnd _ _ _) | exact sl_bnd (kI_bnd _ _ _ _) | exact ptr_bnd _ (by omega) | exact any_bnd _ _ | exact sl_own_bnd (kL_bnd _ _ _) (by omega) | exact sl_own_bnd (kL_bnd _ _ _) (by simp only [List.length_append, List.length_cons, List.length_nil]; omega)) ?_)) (by simp only [List.nil_append, List.cons_append, List.map_cons, List.map_nil, List.set_cons_zero, List.set_cons_succ, List.take_succ_cons, List.take_zero, List.drop_succ_cons, List.drop_zero]; rfl) (by simp only [List.nil_append, List.cons_append, List.map_cons, List.map_nil, List.set_cons_zero, List.set_cons_succ, List.take_succ_cons, List.take_zero, List.drop_succ_cons, List.drop_zero]; rfl)) ?_
  refine .nil ?_
  refine aw_keep [(5, _), (4, _), (2, _), (0, _), (1, _)] ⟨lg (lx lz), lg (lx (ls rfl (ls rfl (ls rfl oz)))), lg (lx (ls rfl (ls rfl (ls rfl (os rfl oz))))), lg (lx (ls rfl (ls rfl (ls rfl (os rfl (os rfl oz)))))), lg (lx (ls rfl (ls rfl (ls rfl (os rfl (os rfl (os rfl oz))))))), trivial⟩ ?_
  refine aw_seq ?_
  refine aw_seq ?_
  refine aw_region (by decide) ?_
  refine rts _ rfl ((by first | exact opD_fieldAddr fo70_1 (os rfl (os rfl oz)) | exact opD_fieldAddr_el fo70_1 (os rfl (os rfl oz)))) ?_
  refine rts _ rfl ((by first | exact opD_load_one ag54 lz (by first | exact loc_get rfl | exact old_get (by assumption)) rfl | exact opD_load_el_one ag54 lz (by first | assumption | simp) rfl)) ?_
  refine rts _ rfl (opD_len_sl Go.Proofs.Tryd.underlying54 lz) ?_
  refine rts _ rfl (opD_gtr lz (ev_const _ _)) ?_
  refine rts _ rfl (opD_move lz) ?_
  refine rtg _ rfl lz (fun hg2_5 => by
      have hg2_5' := hg2_5
      try simp only [beq_iff_eq, decide_eq_true_eq, decide_eq_false_iff_not, Bool.and_eq_true, Bool.or_eq_true, Bool.or_eq_false_iff, Bool.and_eq_false_iff] at hg2_5'
      exact (by first | exact opD_load_aggX (qs := [_, _]) ag57 sz57 (ls rfl (ls rfl (ls rfl (ls rfl (ls rfl oz))))) (by first | exact loc_get rfl | exact old_get (by assumption) | exact hB) (by simp) rfl | exact opD_load_el_aggX (qs := [_, _]) ag57 sz57 (ls rfl (ls rfl (ls rfl (ls rfl (ls rfl oz))))) (by first | assumption | simp) (by decide) rfl)) ?_
  refine rtg _ rfl (ls rfl lz) (fun hg2_6 => by
      have hg2_6' := hg2_6
      try simp only [beq_iff_eq, decide_eq_true_eq, decide_eq_false_iff_not, Bool.and_eq_true, Bool.or_eq_true, Bool.or_eq_false_iff, Bool.and_eq_false_iff] at hg2_6'
      exact opD_pure ht47 (lg_check hd (by omega) hx) ⟨le_of_eq (lz.trans (pif_pos hg2_6)), trivial⟩) ?_
  refine rtg _ rfl (ls rfl (ls rfl lz)) (fun hg2_7 => by
      have hg2_7' := hg2_7
      try simp only [beq_iff_eq, decide_eq_true_eq, decide_eq_false_iff_not, Bool.and_eq_true, Bool.or_eq_true, Bool.or_eq_false_iff, Bool.and_eq_false_iff] at hg2_7'
      exact opD_bin (lz.trans (pif_pos hg2_7)) (ev_const _ _) (fun w => errV_guard _ w _) (fun w => errV_beq _ w)) ?_
  refine rts _ rfl (opD_or (ls rfl (ls rfl (ls rfl lz))) lz) ?_
  refine rts _ rfl (opD_move lz) ?_
  refine rtg _ rfl lz (fun hg2_10 => by
      have hg2_10' := hg2_10
      try simp only [beq_iff_eq, decide_eq_true_eq, decide_eq_false_iff_not, Bool.and_eq_true, Bool.or_eq_true, Bool.or_eq_false_iff, Bool.and_eq_false_iff] at hg2_10'
      exact opD_move (ls rfl (ls rfl (ls rfl (ls rfl (ls rfl (ls rfl (ls rfl (ls rfl (ls rfl (ls rfl (os rfl (os rfl (os rfl (os rfl oz))))))))))))))) ?_
  refine rtg _ rfl (ls rfl lz) (fun hg2_11 => by
      have hg2_11' := hg2_11
      try simp only [beq_iff_eq, decide_eq_true_eq, decide_eq_false_iff_not, Bool.and_eq_true, Bool.or_eq_true, Bool.or_eq_false_iff, Bool.and_eq_false_iff] at hg2_11'
      exact opD_gtr (lz.trans (pif_pos hg2_11)) (ev_const _ _)) ?_
  refine rts _ rfl (opD_or (ls rfl (ls rfl lz)) lz) ?_
  refine .nil ?_
  refine aw_keep [(27, _), (5, _), (4, _), (2, _), (0, _), (1, _)] ⟨lg lz, lg (ls rfl (ls rfl (ls rfl (ls rfl (ls rfl (ls rfl (ls rfl (ls rfl (ls rfl (ls rfl (ls rfl (ls rfl (ls rfl oz))))))))))))), lg (ls rfl (ls rfl (ls rfl (ls rfl (ls rfl (ls rfl (ls rfl (ls rfl (ls rfl (ls rfl (ls rfl (ls rfl (ls rfl (os rfl oz)))))))))))))), lg (ls rfl (ls rfl (ls rfl (ls rfl (ls rfl (ls rfl (ls rfl (ls rfl (ls rfl (ls rfl (ls rfl (ls rfl (ls rfl (os rfl (os rfl oz))))))))))))))), lg (ls rfl (ls rfl (ls rfl (ls rfl (ls rfl (ls rfl (ls rfl (ls rfl (ls rfl (ls rfl (ls rfl (ls rfl (ls rfl (os rfl (os rfl (os rfl oz)))))))))))))))), lg (ls rfl (ls rfl (ls rfl (ls rfl (ls rfl (ls rfl (ls rfl (ls rfl (ls rfl (ls rfl (ls rfl (ls rfl (ls rfl (os rfl (os rfl (os rfl (os rfl oz))))))))))))))))), trivial⟩ ?_
  refine aw_cond _ oz (fun hc => ?_) (fun hc => ?_)
  · skip
    refine aw_seq ?_
    refine aw_region (by decide) ?_
    refine rts _ rfl (opD_call ht39 (sure30 hst) trivial) ?_
    refine rts _ rfl (opD_assign lz) ?_
    refine .nil ?_
    refine aw_keep [(4, _), (27, _), (5, _), (2, _), (0, _), (1, _)] ⟨lg lz, lg (ls rfl (ls rfl oz)), lg (ls rfl (ls rfl (os rfl oz))), lg (ls rfl (ls rfl (os rfl (os rfl (os rfl oz))))), lg (ls rfl (ls rfl (os rfl (os rfl (os rfl (os rfl oz)))))), lg (ls rfl (ls rfl (os rfl (os rfl (os rfl (os rfl (os rfl oz))))))), trivial⟩ ?_
    refine aw_ret ?_
    exact done_ext (.inr rfl) ((res_1 rfl (eg oz)).le (le_of_eq (congrArg (fun b => pl (.bool b)) (by first | rfl | (by_cases hE : (l.drop (q - (d + 1))).length = (l.drop (q + 1 - (d + 1))).length <;> first | (simp [hE]; done) | (rw [hend hE]; simp; done)))))) (pl_bnd _ _ _)
  · skip
    simp only [Bool.or_eq_false_iff, decide_eq_false_iff_not] at hc
    obtain ⟨⟨h40, hce⟩, hq62⟩ := hc
    have hok := lgE_n hce
    have hdl := hok.1
    have hal : (l.drop (q - (d + 1))).length = l.length - (q - (d + 1)) := List.length_drop
    have hbl : (l.drop (q + 1 - (d + 1))).length = l.length - (q + 1 - (d + 1)) := List.length_drop
    refine aw_skip ?_
    refine aw_keep [(27, _), (5, _), (4, _), (2, _), (0, _), (1, _)] ⟨lg oz, lg (os rfl oz), lg (os rfl (os rfl oz)), lg (os rfl (os rfl (os rfl oz))), lg (os rfl (os rfl (os rfl (os rfl oz)))), lg (os rfl (os rfl (os rfl (os rfl (os rfl oz))))), trivial⟩ ?_
    refine aw_seq ?_
    refine aw_region (by decide) ?_
    refine rts _ rfl ((by first | exact opD_load_aggX (qs := [_, _]) ag57 sz57 (os rfl oz) (by first | exact loc_get rfl | exact old_get (by assumption)) (by simp) rfl | exact opD_load_el_aggX (qs := [_, _]) ag57 sz57 (os rfl oz) (by first | assumption | simp) (by decide) rfl)) ?_
    refine rts _ rfl (opD_move (ls rfl (os rfl (os rfl (os rfl (os rfl (os rfl oz))))))) ?_
    refine rts _ rfl (opD_pure ht42 (since_ok (q := q) hok hx) ⟨le_of_eq (ls rfl lz), le_of_eq lz, trivial⟩) ?_
    refine rts _ rfl (opD_move lz) ?_
    refine rts _ rfl (opD_extract lz rfl) ?_
    refine rts _ rfl (opD_extract (ls rfl lz) rfl) ?_
    refine rts _ rfl (opD_assign (ls rfl lz)) ?_
    refine rts _ rfl (opD_assign (ls rfl lz)) ?_
    refine .nil ?_
    refine aw_keep [(7, _), (6, _), (27, _), (5, _), (4, _), (2, _), (0, _), (1, _)] ⟨lg lz, lg (ls rfl lz), lg (ls rfl (ls rfl (ls rfl (ls rfl (ls rfl (ls rfl (ls rfl (ls rfl oz)))))))), lg (ls rfl (ls rfl (ls rfl (ls rfl (ls rfl (ls rfl (ls rfl (ls rfl (os rfl oz))))))))), lg (ls rfl (ls rfl (ls rfl (ls rfl (ls rfl (ls rfl (ls rfl (ls rfl (os rfl (os rfl oz)))))))))), lg (ls rfl (ls rfl (ls rfl (ls rfl (ls rfl (ls rfl (ls rfl (ls rfl (os rfl (os rfl (os rfl oz))))))))))), lg (ls rfl (ls rfl (ls rfl (ls rfl (ls rfl (ls rfl (ls rfl (ls rfl (os rfl (os rfl (os rfl (os rfl oz)))))))))))), lg (ls rfl (ls rfl (ls rfl (ls rfl (ls rfl (ls rfl (ls rfl (ls rfl (os rfl (os rfl (os rfl (os rfl (os rfl oz))))))))))))), trivial⟩ ?_
    refine aw_seq ?_
    refine aw_region (by decide) ?_
    refine rts _ rfl ((by first | exact opD_load_aggX (qs := [_, _]) ag57 sz57 (os rfl (os rfl (os rfl oz))) (by first | exact loc_get rfl | exact old_get (by assumption)) (by simp) rfl | exact opD_load_el_aggX (qs := [_, _]) ag57 sz57 (os rfl (os rfl (os rfl oz))) (by first | assumption | simp) (by decide) rfl)) ?_
    refine rts _ rfl (opD_move (ls rfl (os rfl (os rfl (os rfl (os rfl (os rfl (os rfl (os rfl oz))))))))) ?_
    refine rts _ rfl (opD_add (r := ((q + 1 : Nat) : Int)) lz (ev_const _ _) ((IntWalk.u64_in _ (by omega)).trans (by omega))) ?_
    refine rts _ rfl (opD_pure ht42 (since_ok (q := q + 1) hok hx) ⟨le_of_eq (ls rfl (ls rfl lz)), le_of_eq lz, trivial⟩) ?_
    refine rts _ rfl (opD_move lz) ?_
    refine rts _ rfl (opD_extract lz rfl) ?_
    refine rts _ rfl (opD_extract (ls rfl lz) rfl) ?_
    refine rts _ rfl (opD_assign (ls rfl lz)) ?_
    refine rts _ rfl (opD_assign (ls rfl lz)) ?_
    refine .nil ?_
    refine aw_keep [(9, _), (8, _), (7, _), (6, _), (27, _), (5, _), (4, _), (2, _), (0, _), (1, _)] ⟨lg lz, lg (ls rfl lz), lg (ls rfl (ls rfl (ls rfl (ls rfl (ls rfl (ls rfl (ls rfl (ls rfl (ls rfl oz))))))))), lg (ls rfl (ls rfl (ls rfl (ls rfl (ls rfl (ls rfl (ls rfl (ls rfl (ls rfl (os rfl oz)))))))))), lg (ls rfl (ls rfl (ls rfl (ls rfl (ls rfl (ls rfl (ls rfl (ls rfl (ls rfl (os rfl (os rfl oz))))))))))), lg (ls rfl (ls rfl (ls rfl (ls rfl (ls rfl (ls rfl (ls rfl (ls rfl (ls rfl (os rfl (os rfl (os rfl oz)))))))))))), lg (ls rfl (ls rfl (ls rfl (ls rfl (ls rfl (ls rfl (ls rfl (ls rfl (ls rfl (os rfl (os rfl (os rfl (os rfl oz))))))))))))), lg (ls rfl (ls rfl (ls rfl (ls rfl (ls rfl (ls rfl (ls rfl (ls rfl (ls rfl (os rfl (os rfl (os rfl (os rfl (os rfl oz)))))))))))))), lg (ls rfl (ls rfl (ls rfl (ls rfl (ls rfl (ls rfl (ls rfl (ls rfl (ls rfl (os rfl (os rfl (os rfl (os rfl (os rfl (os rfl oz))))))))))))))), lg (ls rfl (ls rfl (ls rfl (ls rfl (ls rfl (ls rfl (ls rfl (ls rfl (ls rfl (os rfl (os rfl (os rfl (os rfl (os rfl (os rfl (os rfl oz)))))))))))))))), trivial⟩ ?_
    refine aw_seq ?_
    refine aw_region (by decide) ?_
    refine rts _ rfl ((by first | exact opD_load_aggX (qs := [_, _]) ag57 sz57 (os rfl (os rfl (os rfl (os rfl (os rfl oz))))) (by first | exact loc_get rfl | exact old_get (by assumption)) (by simp) rfl | exact opD_load_el_aggX (qs := [_, _]) ag57 sz57 (os rfl (os rfl (os rfl (os rfl (os rfl oz))))) (by first | assumption | simp) (by decide) rfl)) ?_
    refine rts _ rfl (opD_pure ht42 (since_ok (q := 0) hok hx) ⟨le_of_eq lz, le_of_eq (ev_const _ _), trivial⟩) ?_
    refine rts _ rfl (opD_move lz) ?_
    refine rts _ rfl (opD_extract lz rfl) ?_
    refine rts _ rfl (opD_extract (ls rfl lz) rfl) ?_
    refine rts _ rfl (opD_assign (ls rfl lz)) ?_
    refine rts _ rfl (opD_assign (ls rfl lz)) ?_
    refine .nil ?_
    refine aw_keep [(11, _), (10, _), (9, _), (8, _), (7, _), (6, _), (27, _), (5, _), (4, _), (2, _), (0, _), (1, _)] ⟨lg lz, lg (ls rfl lz), lg (ls rfl (ls rfl (ls rfl (ls rfl (ls rfl (ls rfl (ls rfl oz))))))), lg (ls rfl (ls rfl (ls rfl (ls rfl (ls rfl (ls rfl (ls rfl (os rfl oz)))))))), lg (ls rfl (ls rfl (ls rfl (ls rfl (ls rfl (ls rfl (ls rfl (os rfl (os rfl oz))))))))), lg (ls rfl (ls rfl (ls rfl (ls rfl (ls rfl (ls rfl (ls rfl (os rfl (os rfl (os rfl oz)))))))))), lg (ls rfl (ls rfl (ls rfl (ls rfl (ls rfl (ls rfl (ls rfl (os rfl (os rfl (os rfl (os rfl oz))))))))))), lg (ls rfl (ls rfl (ls rfl (ls rfl (ls rfl (ls rfl (ls rfl (os rfl (os rfl (os rfl (os rfl (os rfl oz)))))))))))), lg (ls rfl (ls rfl (ls rfl (ls rfl (ls rfl (ls rfl (ls rfl (os rfl (os rfl (os rfl (os rfl (os rfl (os rfl oz))))))))))))), lg (ls rfl (ls rfl (ls rfl (ls rfl (ls rfl (ls rfl (ls rfl (os rfl (os rfl (os rfl (os rfl (os rfl (os rfl (os rfl oz)))))))))))))), lg (ls rfl (ls rfl (ls rfl (ls rfl (ls rfl (ls rfl (ls rfl (os rfl (os rfl (os rfl (os rfl (os rfl (os rfl (os rfl (os rfl oz))))))))))))))), lg (ls rfl (ls rfl (ls rfl (ls rfl (ls rfl (ls rfl (ls rfl (os rfl (os rfl (os rfl (os rfl (os rfl (os rfl (os rfl (os rfl (os rfl oz)))))))))))))))), trivial⟩ ?_
    refine aw_seq ?_
    refine aw_seq ?_
    refine aw_region (by decide) ?_
    refine rts _ rfl (opD_move (os rfl (os rfl (os rfl (os rfl oz))))) ?_
    refine rts _ rfl (opD_bin (r := .bool false) lz (ev_const _ _) (fun w => by simp [go_sem]) (fun w => by simp [go_sem])) ?_
    refine rts _ rfl (opD_move lz) ?_
    refine rtg _ rfl lz (fun hg7_3 => by
        have hg7_3' := hg7_3
        try simp only [beq_iff_eq, decide_eq_true_eq, decide_eq_false_iff_not, Bool.and_eq_true, Bool.or_eq_true, Bool.or_eq_false_iff, Bool.and_eq_false_iff] at hg7_3'
        exact opD_move (ls rfl (ls rfl (ls rfl (os rfl (os rfl oz)))))) ?_
    refine rtg _ rfl (ls rfl lz) (fun hg7_4 => by
        have hg7_4' := hg7_4
        try simp only [beq_iff_eq, decide_eq_true_eq, decide_eq_false_iff_not, Bool.and_eq_true, Bool.or_eq_true, Bool.or_eq_false_iff, Bool.and_eq_false_iff] at hg7_4'
        exact opD_bin (r := .bool false) (lz.trans (pif_pos hg7_4)) (ev_const _ _) (fun w => by simp [go_sem]) (fun w => by simp [go_sem])) ?_
    refine rts _ rfl (opD_or (ls rfl (ls rfl lz)) lz) ?_
    refine rts _ rfl (opD_move lz) ?_
    refine rtg _ rfl lz (fun hg7_7 => by
        have hg7_7' := hg7_7
        try simp only [beq_iff_eq, decide_eq_true_eq, decide_eq_false_iff_not, Bool.and_eq_true, Bool.or_eq_true, Bool.or_eq_false_iff, Bool.and_eq_false_iff] at hg7_7'
        exact opD_move (ls rfl (ls rfl (ls rfl (ls rfl (ls rfl (ls rfl (ls rfl oz)))))))) ?_
    refine rtg _ rfl (ls rfl lz) (fun hg7_8 => by
        have hg7_8' := hg7_8
        try simp only [beq_iff_eq, decide_eq_true_eq, decide_eq_false_iff_not, Bool.and_eq_true, Bool.or_eq_true, Bool.or_eq_false_iff, Bool.and_eq_false_iff] at hg7_8'
        exact opD_bin (r := .bool false) (lz.trans (pif_pos hg7_8)) (ev_const _ _) (fun w => by simp [go_sem]) (fun w => by simp [go_sem])) ?_
    refine rts _ rfl (opD_or (ls rfl (ls rfl lz)) lz) ?_
    refine rts _ rfl (opD_move lz) ?_
    refine rtg _ rfl lz (fun hg7_11 => by
        have hg7_11' := hg7_11
        try simp only [beq_iff_eq, decide_eq_true_eq, decide_eq_false_iff_not, Bool.and_eq_true, Bool.or_eq_true, Bool.or_eq_false_iff, Bool.and_eq_false_iff] at hg7_11'
        exact opD_move (ls rfl (ls rfl (ls rfl (ls rfl (ls rfl (ls rfl (ls rfl (ls rfl (ls rfl (ls rfl (ls rfl (os rfl oz))))))))))))) ?_
    refine rtg _ rfl (ls rfl lz) (fun hg7_12 => by
        have hg7_12' := hg7_12
        try simp only [beq_iff_eq, decide_eq_true_eq, decide_eq_false_iff_not, Bool.and_eq_true, Bool.or_eq_true, Bool.or_eq_false_iff, Bool.and_eq_false_iff] at hg7_12'
        exact opD_len_sl Go.Proofs.Tryd.underlying55 (lz.trans (pif_pos hg7_12))) ?_
    refine rtg _ rfl (ls rfl (ls rfl lz)) (fun hg7_13 => by
        have hg7_13' := hg7_13
        try simp only [beq_iff_eq, decide_eq_true_eq, decide_eq_false_iff_not, Bool.and_eq_true, Bool.or_eq_true, Bool.or_eq_false_iff, Bool.and_eq_false_iff] at hg7_13'
        exact (by first | exact opD_fieldAddr fo57_1 (ls rfl (ls rfl (ls rfl (ls rfl (ls rfl (ls rfl (ls rfl (ls rfl (ls rfl (ls rfl (ls rfl (ls rfl (ls rfl (os rfl (os rfl (os rfl (os rfl (os rfl (os rfl (os rfl oz)))))))))))))))))))) | exact opD_fieldAddr_el fo57_1 (ls rfl (ls rfl (ls rfl (ls rfl (ls rfl (ls rfl (ls rfl (ls rfl (ls rfl (ls rfl (ls rfl (ls rfl (ls rfl (os rfl (os rfl (os rfl (os rfl (os rfl (os rfl (os rfl oz)))))))))))))))))))))) ?_
    refine rtg _ rfl (ls rfl (ls rfl (ls rfl lz))) (fun hg7_14 => by
        have hg7_14' := hg7_14
        try simp only [beq_iff_eq, decide_eq_true_eq, decide_eq_false_iff_not, Bool.and_eq_true, Bool.or_eq_true, Bool.or_eq_false_iff, Bool.and_eq_false_iff] at hg7_14'
        exact (by first | exact opD_load_one ag55 (lz.trans (pif_pos hg7_14)) (by first | exact loc_get rfl | exact old_get (by assumption) | exact hB) rfl | exact opD_load_el_one ag55 (lz.trans (pif_pos hg7_14)) (by first | assumption | simp) rfl)) ?_
    refine rtg _ rfl (ls rfl (ls rfl (ls rfl (ls rfl lz)))) (fun hg7_15 => by
        have hg7_15' := hg7_15
        try simp only [beq_iff_eq, decide_eq_true_eq, decide_eq_false_iff_not, Bool.and_eq_true, Bool.or_eq_true, Bool.or_eq_false_iff, Bool.and_eq_false_iff] at hg7_15'
        exact opD_len_sl Go.Proofs.Tryd.underlying55 (lz.trans (pif_pos hg7_15))) ?_
    refine rtg _ rfl (ls rfl (ls rfl (ls rfl (ls rfl (ls rfl lz))))) (fun hg7_16 => by
        have hg7_16' := hg7_16
        try simp only [beq_iff_eq, decide_eq_true_eq, decide_eq_false_iff_not, Bool.and_eq_true, Bool.or_eq_true, Bool.or_eq_false_iff, Bool.and_eq_false_iff] at hg7_16'
        exact opD_neq ((ls rfl (ls rfl (ls rfl lz))).trans (pif_pos hg7_16)) (lz.trans (pif_pos hg7_16))) ?_
    refine rts _ rfl (opD_or (ls rfl (ls rfl (ls rfl (ls rfl (ls rfl (ls rfl lz)))))) lz) ?_
    refine rts _ rfl (opD_move lz) ?_
    refine rtg _ rfl lz (fun hg7_19 => by
        have hg7_19' := hg7_19
        try simp only [beq_iff_eq, decide_eq_true_eq, decide_eq_false_iff_not, Bool.and_eq_true, Bool.or_eq_true, Bool.or_eq_false_iff, Bool.and_eq_false_iff] at hg7_19'
        exact opD_move (ls rfl (ls rfl (ls rfl (ls rfl (ls rfl (ls rfl (ls rfl (ls rfl (ls rfl (ls rfl (ls rfl (ls rfl (ls rfl (ls rfl (ls rfl (ls rfl (ls rfl (ls rfl (ls rfl (os rfl (os rfl (os rfl (os rfl (os rfl oz))))))))))))))))))))))))) ?_
    refine rtg _ rfl (ls rfl lz) (fun hg7_20 => by
        have hg7_20' := hg7_20
        try simp only [beq_iff_eq, decide_eq_true_eq, decide_eq_false_iff_not, Bool.and_eq_true, Bool.or_eq_true, Bool.or_eq_false_iff, Bool.and_eq_false_iff] at hg7_20'
        exact opD_len_sl Go.Proofs.Tryd.underlying55 (lz.trans (pif_pos hg7_20))) ?_
    refine rtg _ rfl (ls rfl (ls rfl lz)) (fun hg7_21 => by
        have hg7_21' := hg7_21
        try simp only [beq_iff_eq, decide_eq_true_eq, decide_eq_false_iff_not, Bool.and_eq_true, Bool.or_eq_true, Bool.or_eq_false_iff, Bool.and_eq_false_iff] at hg7_21'
        exact opD_move (ls rfl (ls rfl (ls rfl (ls rfl (ls rfl (ls rfl (ls rfl (ls rfl (ls rfl (ls rfl (ls rfl (ls rfl (ls rfl (ls rfl (ls rfl (ls rfl (ls rfl (ls rfl (ls rfl (ls rfl (ls rfl (os rfl (os rfl (os rfl oz))))))))))))))))))))))))) ?_
    refine rtg _ rfl (ls rfl (ls rfl (ls rfl lz))) (fun hg7_22 => by
        have hg7_22' := hg7_22
        try simp only [beq_iff_eq, decide_eq_true_eq, decide_eq_false_iff_not, Bool.and_eq_true, Bool.or_eq_true, Bool.or_eq_false_iff, Bool.and_eq_false_iff] at hg7_22'
        exact opD_len_sl Go.Proofs.Tryd.underlying55 (lz.trans (pif_pos hg7_22))) ?_
    refine rtg _ rfl (ls rfl (ls rfl (ls rfl (ls rfl lz)))) (fun hg7_23 => by
        have hg7_23' := hg7_23
        try simp only [beq_iff_eq, decide_eq_true_eq, decide_eq_false_iff_not, Bool.and_eq_true, Bool.or_eq_true, Bool.or_eq_false_iff, Bool.and_eq_false_iff] at hg7_23'
        exact opD_sub ((ls rfl (ls rfl lz)).trans (pif_pos hg7_23)) (lz.trans (pif_pos hg7_23)) (by first | exact IntWalk.i64_in _ (by omega) | exact rfl)) ?_
    refine rtg _ rfl (ls rfl (ls rfl (ls rfl (ls rfl (ls rfl lz))))) (fun hg7_24 => by
        have hg7_24' := hg7_24
        try simp only [beq_iff_eq, decide_eq_true_eq, decide_eq_false_iff_not, Bool.and_eq_true, Bool.or_eq_true, Bool.or_eq_false_iff, Bool.and_eq_false_iff] at hg7_24'
        exact opD_lss (lz.trans (pif_pos hg7_24)) (ev_const _ _)) ?_
    refine rts _ rfl (opD_or (ls rfl (ls rfl (ls rfl (ls rfl (ls rfl (ls rfl lz)))))) lz) ?_
    refine rts _ rfl (opD_move lz) ?_
    refine rtg _ rfl lz (fun hg7_27 => by
        have hg7_27' := hg7_27
        try simp only [beq_iff_eq, decide_eq_true_eq, decide_eq_false_iff_not, Bool.and_eq_true, Bool.or_eq_true, Bool.or_eq_false_iff, Bool.and_eq_false_iff] at hg7_27'
        exact opD_move (ls rfl (ls rfl (ls rfl (ls rfl (ls rfl (ls rfl (ls rfl (ls rfl (ls rfl (ls rfl (ls rfl (ls rfl (ls rfl (ls rfl (ls rfl (ls rfl (ls rfl (ls rfl (ls rfl (ls rfl (ls rfl (ls rfl (ls rfl (ls rfl (ls rfl (ls rfl (ls rfl (os rfl (os rfl (os rfl (os rfl (os rfl oz))))))))))))))))))))))))))))))))) ?_
    refine rtg _ rfl (ls rfl lz) (fun hg7_28 => by
        have hg7_28' := hg7_28
        try simp only [beq_iff_eq, decide_eq_true_eq, decide_eq_false_iff_not, Bool.and_eq_true, Bool.or_eq_true, Bool.or_eq_false_iff, Bool.and_eq_false_iff] at hg7_28'
        exact opD_len_sl Go.Proofs.Tryd.underlying55 (lz.trans (pif_pos hg7_28))) ?_
    refine rtg _ rfl (ls rfl (ls rfl lz)) (fun hg7_29 => by
        have hg7_29' := hg7_29
        try simp only [beq_iff_eq, decide_eq_true_eq, decide_eq_false_iff_not, Bool.and_eq_true, Bool.or_eq_true, Bool.or_eq_false_iff, Bool.and_eq_false_iff] at hg7_29'
        exact opD_move (ls rfl (ls rfl (ls rfl (ls rfl (ls rfl (ls rfl (ls rfl (ls rfl (ls rfl (ls rfl (ls rfl (ls rfl (ls rfl (ls rfl (ls rfl (ls rfl (ls rfl (ls rfl (ls rfl (ls rfl (ls rfl (ls rfl (ls rfl (ls rfl (ls rfl (ls rfl (ls rfl (ls rfl (ls rfl (os rfl (os rfl (os rfl oz))))))))))))))))))))))))))))))))) ?_
    refine rtg _ rfl (ls rfl (ls rfl (ls rfl lz))) (fun hg7_30 => by
        have hg7_30' := hg7_30
        try simp only [beq_iff_eq, decide_eq_true_eq, decide_eq_false_iff_not, Bool.and_eq_true, Bool.or_eq_true, Bool.or_eq_false_iff, Bool.and_eq_false_iff] at hg7_30'
        exact opD_len_sl Go.Proofs.Tryd.underlying55 (lz.trans (pif_pos hg7_30))) ?_
    refine rtg _ rfl (ls rfl (ls rfl (ls rfl (ls rfl lz)))) (fun hg7_31 => by
        have hg7_31' := hg7_31
        try simp only [beq_iff_eq, decide_eq_true_eq, decide_eq_false_iff_not, Bool.and_eq_true, Bool.or_eq_true, Bool.or_eq_false_iff, Bool.and_eq_false_iff] at hg7_31'
        exact opD_sub ((ls rfl (ls rfl lz)).trans (pif_pos hg7_31)) (lz.trans (pif_pos hg7_31)) (by first | exact IntWalk.i64_in _ (by omega) | exact rfl)) ?_
    refine rtg _ rfl (ls rfl (ls rfl (ls rfl (ls rfl (ls rfl lz))))) (fun hg7_32 => by
        have hg7_32' := hg7_32
        try simp only [beq_iff_eq, decide_eq_true_eq, decide_eq_false_iff_not, Bool.and_eq_true, Bool.or_eq_true, Bool.or_eq_false_iff, Bool.and_eq_false_iff] at hg7_32'
        exact opD_gtr (lz.trans (pif_pos hg7_32)) (ev_const _ _)) ?_
    refine rts _ rfl (opD_or (ls rfl (ls rfl (ls rfl (ls rfl (ls rfl (ls rfl lz)))))) lz) ?_
    refine .nil ?_
    refine aw_keep [(80, _), (11, _), (10, _), (9, _), (8, _), (7, _), (6, _), (27, _), (5, _), (4, _), (2, _), (0, _), (1, _)] ⟨lg lz, lg (ls rfl (ls rfl (ls rfl (ls rfl (ls rfl (ls rfl (ls rfl (ls rfl (ls rfl (ls rfl (ls rfl (ls rfl (ls rfl (ls rfl (ls rfl (ls rfl (ls rfl (ls rfl (ls rfl (ls rfl (ls rfl (ls rfl (ls rfl (ls rfl (ls rfl (ls rfl (ls rfl (ls rfl (ls rfl (ls rfl (ls rfl (ls rfl (ls rfl (ls rfl oz)))))))))))))))))))))))))))))))))), lg (ls rfl (ls rfl (ls rfl (ls rfl (ls rfl (ls rfl (ls rfl (ls rfl (ls rfl (ls rfl (ls rfl (ls rfl (ls rfl (ls rfl (ls rfl (ls rfl (ls rfl (ls rfl (ls rfl (ls rfl (ls rfl (ls rfl (ls rfl (ls rfl (ls rfl (ls rfl (ls rfl (ls rfl (ls rfl (ls rfl (ls rfl (ls rfl (ls rfl (ls rfl (os rfl oz))))))))))))))))))))))))))))))))))), lg (ls rfl (ls rfl (ls rfl (ls rfl (ls rfl (ls rfl (ls rfl (ls rfl (ls rfl (ls rfl (ls rfl (ls rfl (ls rfl (ls rfl (ls rfl (ls rfl (ls rfl (ls rfl (ls rfl (ls rfl (ls rfl (ls rfl (ls rfl (ls rfl (ls rfl (ls rfl (ls rfl (ls rfl (ls rfl (ls rfl (ls rfl (ls rfl (ls rfl (ls rfl (os rfl (os rfl oz)))))))))))))))))))))))))))))))))))), lg (ls rfl (ls rfl (ls rfl (ls rfl (ls rfl (ls rfl (ls rfl (ls rfl (ls rfl (ls rfl (ls rfl (ls rfl (ls rfl (ls rfl (ls rfl (ls rfl (ls rfl (ls rfl (ls rfl (ls rfl (ls rfl (ls rfl (ls rfl (ls rfl (ls rfl (ls rfl (ls rfl (ls rfl (ls rfl (ls rfl (ls rfl (ls rfl (ls rfl (ls rfl (os rfl (os rfl (os rfl oz))))))))))))))))))))))))))))))))))))), lg (ls rfl (ls rfl (ls rfl (ls rfl (ls rfl (ls rfl (ls rfl (ls rfl (ls rfl (ls rfl (ls rfl (ls rfl (ls rfl (ls rfl (ls rfl (ls rfl (ls rfl (ls rfl (ls rfl (ls rfl (ls rfl (ls rfl (ls rfl (ls rfl (ls rfl (ls rfl (ls rfl (ls rfl (ls rfl (ls rfl (ls rfl (ls rfl (ls rfl (ls rfl (os rfl (os rfl (os rfl (os rfl oz)))))))))))))))))))))))))))))))))))))), lg (ls rfl (ls rfl (ls rfl (ls rfl (ls rfl (ls rfl (ls rfl (ls rfl (ls rfl (ls rfl (ls rfl (ls rfl (ls rfl (ls rfl (ls rfl (ls rfl (ls rfl (ls rfl (ls rfl (ls rfl (ls rfl (ls rfl (ls rfl (ls rfl (ls rfl (ls rfl (ls rfl (ls rfl (ls rfl (ls rfl (ls rfl (ls rfl (ls rfl (ls rfl (os rfl (os rfl (os rfl (os rfl (os rfl oz))))))))))))))))))))))))))))))))))))))), lg (ls rfl (ls rfl (ls rfl (ls rfl (ls rfl (ls rfl (ls rfl (ls rfl (ls rfl (ls rfl (ls rfl (ls rfl (ls rfl (ls rfl (ls rfl (ls rfl (ls rfl (ls rfl (ls rfl (ls rfl (ls rfl (ls rfl (ls rfl (ls rfl (ls rfl (ls rfl (ls rfl (ls rfl (ls rfl (ls rfl (ls rfl (ls rfl (ls rfl (ls rfl (os rfl (os rfl (os rfl (os rfl (os rfl (os rfl oz)))))))))))))))))))))))))))))))))))))))), lg (ls rfl (ls rfl (ls rfl (ls rfl (ls rfl (ls rfl (ls rfl (ls rfl (ls rfl (ls rfl (ls rfl (ls rfl (ls rfl (ls rfl (ls rfl (ls rfl (ls rfl (ls rfl (ls rfl (ls rfl (ls rfl (ls rfl (ls rfl (ls rfl (ls rfl (ls rfl (ls rfl (ls rfl (ls rfl (ls rfl (ls rfl (ls rfl (ls rfl (ls rfl (os rfl (os rfl (os rfl (os rfl (os rfl (os rfl (os rfl oz))))))))))))))))))))))))))))))))))))))))), lg (ls rfl (ls rfl (ls rfl (ls rfl (ls rfl (ls rfl (ls rfl (ls rfl (ls rfl (ls rfl (ls rfl (ls rfl (ls rfl (ls rfl (ls rfl (ls rfl (ls rfl (ls rfl (ls rfl (ls rfl (ls rfl (ls rfl (ls rfl (ls rfl (ls rfl (ls rfl (ls rfl (ls rfl (ls rfl (ls rfl (ls rfl (ls rfl (ls rfl (ls rfl (os rfl (os rfl (os rfl (os rfl (os rfl (os rfl (os rfl (os rfl oz)))))))))))))))))))))))))))))))))))))))))), lg (ls rfl (ls rfl (ls rfl (ls rfl (ls rfl (ls rfl (ls rfl (ls rfl (ls rfl (ls rfl (ls rfl (ls rfl (ls rfl (ls rfl (ls rfl (ls rfl (ls rfl (ls rfl (ls rfl (ls rfl (ls rfl (ls rfl (ls rfl (ls rfl (ls rfl (ls rfl (ls rfl (ls rfl (ls rfl (ls rfl (ls rfl (ls rfl (ls rfl (ls rfl (os rfl (os rfl (os rfl (os rfl (os rfl (os rfl (os rfl (os rfl (os rfl oz))))))))))))))))))))))))))))))))))))))))))), lg (ls rfl (ls rfl (ls rfl (ls rfl (ls rfl (ls rfl (ls rfl (ls rfl (ls rfl (ls rfl (ls rfl (ls rfl (ls rfl (ls rfl (ls rfl (ls rfl (ls rfl (ls rfl (ls rfl (ls rfl (ls rfl (ls rfl (ls rfl (ls rfl (ls rfl (ls rfl (ls rfl (ls rfl (ls rfl (ls rfl (ls rfl (ls rfl (ls rfl (ls rfl (os rfl (os rfl (os rfl (os rfl (os rfl (os rfl (os rfl (os rfl (os rfl (os rfl oz)))))))))))))))))))))))))))))))))))))))))))), lg (ls rfl (ls rfl (ls rfl (ls rfl (ls rfl (ls rfl (ls rfl (ls rfl (ls rfl (ls rfl (ls rfl (ls rfl (ls rfl (ls rfl (ls rfl (ls rfl (ls rfl (ls rfl (ls rfl (ls rfl (ls rfl (ls rfl (ls rfl (ls rfl (ls rfl (ls rfl (ls rfl (ls rfl (ls rfl (ls rfl (ls rfl (ls rfl (ls rfl (ls rfl (os rfl (os rfl (os rfl (os rfl (os rfl (os rfl (os rfl (os rfl (os rfl (os rfl (os rfl oz))))))))))))))))))))))))))))))))))))))))))))), trivial⟩ ?_
    refine aw_cond _ oz (fun hc => ?_) (fun hc => ?_)
    · skip
      exfalso; revert hc; simp only [Bool.or_eq_true, decide_eq_true_eq, List.drop_zero, Nat.zero_sub]; intro hc; simp at hc; omega
    · skip
      refine aw_skip ?_
      refine aw_keep [(80, _), (11, _), (10, _), (9, _), (8, _), (7, _), (6, _), (27, _), (5, _), (4, _), (2, _), (0, _), (1, _)] ⟨lg oz, lg (os rfl oz), lg (os rfl (os rfl oz)), lg (os rfl (os rfl (os rfl oz))), lg (os rfl (os rfl (os rfl (os rfl oz)))), lg (os rfl (os rfl (os rfl (os rfl (os rfl oz))))), lg (os rfl (os rfl (os rfl (os rfl (os rfl (os rfl oz)))))), lg (os rfl (os rfl (os rfl (os rfl (os rfl (os rfl (os rfl oz))))))), lg (os rfl (os rfl (os rfl (os rfl (os rfl (os rfl (os rfl (os rfl oz)))))))), lg (os rfl (os rfl (os rfl (os rfl (os rfl (os rfl (os rfl (os rfl (os rfl oz))))))))), lg (os rfl (os rfl (os rfl (os rfl (os rfl (os rfl (os rfl (os rfl (os rfl (os rfl oz)))))))))), lg (os rfl (os rfl (os rfl (os rfl (os rfl (os rfl (os rfl (os rfl (os rfl (os rfl (os rfl oz))))))))))), lg (os rfl (os rfl (os rfl (os rfl (os rfl (os rfl (os rfl (os rfl (os rfl (os rfl (os rfl (os rfl oz)))))))))))), trivial⟩ ?_
      refine aw_seq ?_
      refine aw_seq ?_
      refine aw_region (by decide) ?_
      refine rts _ rfl (opD_assign (ev_const _ _)) ?_
      refine .nil ?_
      refine aw_keep [(12, _), (80, _), (11, _), (10, _), (9, _), (8, _), (7, _), (6, _), (27, _), (5, _), (4, _), (2, _), (0, _), (1, _)] ⟨lg lz, lg (ls rfl oz), lg (ls rfl (os rfl oz)), lg (ls rfl (os rfl (os rfl oz))), lg (ls rfl (os rfl (os rfl (os rfl oz)))), lg (ls rfl (os rfl (os rfl (os rfl (os rfl oz))))), lg (ls rfl (os rfl (os rfl (os rfl (os rfl (os rfl oz)))))), lg (ls rfl (os rfl (os rfl (os rfl (os rfl (os rfl (os rfl oz))))))), lg (ls rfl (os rfl (os rfl (os rfl (os rfl (os rfl (os rfl (os rfl oz)))))))), lg (ls rfl (os rfl (os rfl (os rfl (os rfl (os rfl (os rfl (os rfl (os rfl oz))))))))), lg (ls rfl (os rfl (os rfl (os rfl (os rfl (os rfl (os rfl (os rfl (os rfl (os rfl oz)))))))))), lg (ls rfl (os rfl (os rfl (os rfl (os rfl (os rfl (os rfl (os rfl (os rfl (os rfl (os rfl oz))))))))))), lg (ls rfl (os rfl (os rfl (os rfl (os rfl (os rfl (os rfl (os rfl (os rfl (os rfl (os rfl (os rfl oz)))))))))))), lg (ls rfl (os rfl (os rfl (os rfl (os rfl (os rfl (os rfl (os rfl (os rfl (os rfl (os rfl (os rfl (os rfl oz))))))))))))), trivial⟩ ?_
      refine aw_block ?_
      refine aw_loop (fun n e st => ∃ (i : Nat), Holds e [(1, pl (.int .u64 (q : Int))), (5, ptr (s.boxes.length + 1) 0), (6, sl kL none none (l.drop (q - (d + 1)))), (8, sl kL none none (l.drop (q + 1 - (d + 1)))), (12, pl (.int .i64 (i : Int)))] ∧ st = s.ext [⟨70, [pl (.int .u64 (d : Int)), sl kL none none l]⟩, ⟨57, [pl (.int .u64 (d : Int)), sl kL none none l]⟩] [] ∧ n + i = (l.drop (q - (d + 1))).length) ((l.drop (q - (d + 1))).length) (⟨0, ⟨le_of_eq (eg (os rfl (os rfl (os rfl (os rfl (os rfl (os rfl (os rfl (os rfl (os rfl (os rfl (os rfl (os rfl (os rfl oz)))))))))))))), le_of_eq (eg (os rfl (os rfl (os rfl (os rfl (os rfl (os rfl (os rfl (os rfl (os rfl oz)))))))))), le_of_eq (eg (os rfl (os rfl (os rfl (os rfl (os rfl (os rfl (os rfl oz)))))))), le_of_eq (eg (os rfl (os rfl (os rfl (os rfl (os rfl oz)))))), le_of_eq (eg oz), trivial⟩, rfl, by omega⟩) ?_
      rintro n e st ⟨i, hH, rfl, hn0⟩
      refine aw_keep _ hH ?_
      refine aw_seq ?_
      refine aw_seq ?_
      refine aw_region (by decide) ?_
      refine rts _ rfl (opD_move (os rfl (os rfl (os rfl (os rfl oz))))) ?_
      refine rts _ rfl (opD_move (ls rfl (os rfl (os rfl oz)))) ?_
      refine rts _ rfl (opD_len_sl Go.Proofs.Tryd.underlying55 lz) ?_
      refine rts _ rfl (opD_lss (ls rfl (ls rfl lz)) lz) ?_
      refine .nil ?_
      refine aw_keep [(84, _), (1, _), (5, _), (6, _), (8, _), (12, _)] ⟨lg lz, lg (ls rfl (ls rfl (ls rfl (ls rfl oz)))), lg (ls rfl (ls rfl (ls rfl (ls rfl (os rfl oz))))), lg (ls rfl (ls rfl (ls rfl (ls rfl (os rfl (os rfl oz)))))), lg (ls rfl (ls rfl (ls rfl (ls rfl (os rfl (os rfl (os rfl oz))))))), lg (ls rfl (ls rfl (ls rfl (ls rfl (os rfl (os rfl (os rfl (os rfl oz)))))))), trivial⟩ ?_
      refine aw_cond _ oz (fun hc => ?_) (fun hc => ?_)
      · skip
        have hlt : i < (l.drop (q - (d + 1))).length := by have := of_decide_eq_true hc; omega
        obtain ⟨x, hai⟩ : ∃ x, (l.drop (q - (d + 1)))[i]? = some x := ⟨_, List.getElem?_eq_getElem hlt⟩
        have hxi : l[q - (d + 1) + i]? = some x := by rw [List.getElem?_drop] at hai; exact hai
        have hsq := (hok.2.2.2 _ _ hxi).2
        have hidx : q - (d + 1) + i < l.length := (List.getElem?_eq_some_iff.1 hxi).1
        refine aw_skip ?_
        refine aw_keep [(84, _), (1, _), (5, _), (6, _), (8, _), (12, _)] ⟨lg oz, lg (os rfl oz), lg (os rfl (os rfl oz)), lg (os rfl (os rfl (os rfl oz))), lg (os rfl (os rfl (os rfl (os rfl oz)))), lg (os rfl (os rfl (os rfl (os rfl (os rfl oz))))), trivial⟩ ?_
        refine aw_seq ?_
        refine aw_block ?_
        refine aw_seq ?_
        refine aw_flat mixed (by decide +kernel) ?_
        refine zts _ rfl (opD_move (os rfl (os rfl (os rfl oz)))) ?_
        refine zts _ rfl (opD_move (ls rfl (os rfl (os rfl (os rfl (os rfl (os rfl oz))))))) ?_
        refine zts _ rfl (opD_indexAddr_sl Go.Proofs.Tryd.underlying55 sz63 (ls rfl lz) lz (by first | rfl | simp | omega) (by first | assumption | omega)) ?_
        refine zts _ rfl (opD_load_el_aggX (qs := [_, _, _, _, _]) ag63 sz63 lz hai (by decide) rfl) ?_
        refine zts _ rfl ((by first | exact opD_fieldAddr fo57_1 (ls rfl (ls rfl (ls rfl (ls rfl (os rfl (os rfl oz)))))) | exact opD_fieldAddr_el fo57_1 (ls rfl (ls rfl (ls rfl (ls rfl (os rfl (os rfl oz)))))))) ?_
        refine zts _ rfl ((by first | exact opD_load_one ag55 lz (by first | exact loc_get rfl | exact old_get (by assumption)) rfl | exact opD_load_el_one ag55 lz (by first | assumption | simp) rfl)) ?_
        refine zts _ rfl ((by first | exact opD_fieldAddr fo57_1 (ls rfl (ls rfl (ls rfl (ls rfl (ls rfl (ls rfl (os rfl (os rfl oz)))))))) | exact opD_fieldAddr_el fo57_1 (ls rfl (ls rfl (ls rfl (ls rfl (ls rfl (ls rfl (os rfl (os rfl oz)))))))))) ?_
        refine zts _ rfl ((by first | exact opD_load_one ag55 lz (by first | exact loc_get rfl | exact old_get (by assumption)) rfl | exact opD_load_el_one ag55 lz (by first | assumption | simp) rfl)) ?_
        refine zts _ rfl (opD_len_sl Go.Proofs.Tryd.underlying55 lz) ?_
        refine zts _ rfl (opD_move (ls rfl (ls rfl (ls rfl (ls rfl (ls rfl (ls rfl (ls rfl (ls rfl (ls rfl (os rfl (os rfl (os rfl oz))))))))))))) ?_
        refine zts _ rfl (opD_len_sl Go.Proofs.Tryd.underlying55 lz) ?_
        refine zts _ rfl (opD_sub (ls rfl (ls rfl lz)) lz (by first | exact IntWalk.i64_in _ (by omega) | exact rfl)) ?_
        refine zts _ rfl (opD_move (ls rfl (ls rfl (ls rfl (ls rfl (ls rfl (ls rfl (ls rfl (ls rfl (ls rfl (ls rfl (ls rfl (ls rfl (os rfl (os rfl (os rfl (os rfl (os rfl oz)))))))))))))))))) ?_
        refine zts _ rfl (opD_add (ls rfl lz) lz (by first | exact IntWalk.i64_in _ (by omega) | exact rfl)) ?_
        refine zts _ rfl (opD_indexAddr_sl (i := q - (d + 1) + i) Go.Proofs.Tryd.underlying55 sz63 (ls rfl (ls rfl (ls rfl (ls rfl (ls rfl (ls rfl (ls rfl (ls rfl lz)))))))) lz (by omega) (by omega)) ?_
        refine zts _ rfl (opD_load_el_aggX (qs := [_, _, _, _, _]) ag63 sz63 lz hxi (by decide) rfl) ?_
        refine zts _ rfl (opD_binA (lnV x) (lnV x) (ls rfl (ls rfl (ls rfl (ls rfl (ls rfl (ls rfl (ls rfl (ls rfl (ls rfl (ls rfl (ls rfl (ls rfl lz)))))))))))) lz (fun w => ln_guard _ _ _ _ _ w) (fun w => (ln_cmp _ _ w).2)) ?_
        refine zts _ rfl (opD_move lz) ?_
        refine ztg _ rfl lz (fun hg12_18 => by
            have hg12_18' := hg12_18
            try simp only [beq_iff_eq, decide_eq_true_eq, decide_eq_false_iff_not, Bool.and_eq_true, Bool.or_eq_true, Bool.or_eq_false_iff, Bool.and_eq_false_iff] at hg12_18'
            exact opD_move (ls rfl (ls rfl (ls rfl (ls rfl (ls rfl (ls rfl (ls rfl (ls rfl (ls rfl (ls rfl (ls rfl (ls rfl (ls rfl (ls rfl (ls rfl (ls rfl (ls rfl (ls rfl (os rfl (os rfl (os rfl oz)))))))))))))))))))))) ?_
        refine ztg _ rfl (ls rfl lz) (fun hg12_19 => by
            have hg12_19' := hg12_19
            try simp only [beq_iff_eq, decide_eq_true_eq, decide_eq_false_iff_not, Bool.and_eq_true, Bool.or_eq_true, Bool.or_eq_false_iff, Bool.and_eq_false_iff] at hg12_19'
            exact opD_move (ls rfl (ls rfl (ls rfl (ls rfl (ls rfl (ls rfl (ls rfl (ls rfl (ls rfl (ls rfl (ls rfl (ls rfl (ls rfl (ls rfl (ls rfl (ls rfl (ls rfl (ls rfl (ls rfl (os rfl (os rfl (os rfl (os rfl (os rfl oz))))))))))))))))))))))))) ?_
        refine ztg _ rfl (ls rfl (ls rfl lz)) (fun hg12_20 => by
            have hg12_20' := hg12_20
            try simp only [beq_iff_eq, decide_eq_true_eq, decide_eq_false_iff_not, Bool.and_eq_true, Bool.or_eq_true, Bool.or_eq_false_iff, Bool.and_eq_false_iff] at hg12_20'
            exact opD_indexAddr_sl Go.Proofs.Tryd.underlying55 sz63 ((ls rfl lz).trans (pif_pos hg12_20)) (lz.trans (pif_pos hg12_20)) (by first | rfl | simp | omega) (by first | assumption | omega)) ?_
        refine ztg _ rfl (ls rfl (ls rfl (ls rfl lz))) (fun hg12_21 => by
            have hg12_21' := hg12_21
            try simp only [beq_iff_eq, decide_eq_true_eq, decide_eq_false_iff_not, Bool.and_eq_true, Bool.or_eq_true, Bool.or_eq_false_iff, Bool.and_eq_false_iff] at hg12_21'
            exact (by first | exact opD_fieldAddr fo63_0 (lz.trans (pif_pos hg12_21)) | exact opD_fieldAddr_el fo63_0 (lz.trans (pif_pos hg12_21)))) ?_
        refine ztg _ rfl (ls rfl (ls rfl (ls rfl (ls rfl lz)))) (fun hg12_22 => by
            have hg12_22' := hg12_22
            try simp only [beq_iff_eq, decide_eq_true_eq, decide_eq_false_iff_not, Bool.and_eq_true, Bool.or_eq_true, Bool.or_eq_false_iff, Bool.and_eq_false_iff] at hg12_22'
            exact opD_load_el_one ag22 (lz.trans (pif_pos hg12_22)) hai rfl) ?_
        refine ztg _ rfl (ls rfl (ls rfl (ls rfl (ls rfl (ls rfl lz))))) (fun hg12_23 => by
            have hg12_23' := hg12_23
            try simp only [beq_iff_eq, decide_eq_true_eq, decide_eq_false_iff_not, Bool.and_eq_true, Bool.or_eq_true, Bool.or_eq_false_iff, Bool.and_eq_false_iff] at hg12_23'
            exact opD_move (ls rfl (ls rfl (ls rfl (ls rfl (ls rfl (ls rfl (ls rfl (ls rfl (ls rfl (ls rfl (ls rfl (ls rfl (ls rfl (ls rfl (ls rfl (ls rfl (ls rfl (ls rfl (ls rfl (ls rfl (ls rfl (ls rfl (ls rfl (os rfl oz))))))))))))))))))))))))) ?_
        refine ztg _ rfl (ls rfl (ls rfl (ls rfl (ls rfl (ls rfl (ls rfl lz)))))) (fun hg12_24 => by
            have hg12_24' := hg12_24
            try simp only [beq_iff_eq, decide_eq_true_eq, decide_eq_false_iff_not, Bool.and_eq_true, Bool.or_eq_true, Bool.or_eq_false_iff, Bool.and_eq_false_iff] at hg12_24'
            exact opD_lss ((ls rfl lz).trans (pif_pos hg12_24)) (lz.trans (pif_pos hg12_24))) ?_
        refine zts _ rfl (opD_or (ls rfl (ls rfl (ls rfl (ls rfl (ls rfl (ls rfl (ls rfl lz))))))) lz) ?_
        refine .nil ?_
        refine aw_keep [(112, _), (84, _), (1, _), (5, _), (6, _), (8, _), (12, _)] ⟨lg lz, lg (ls rfl (ls rfl (ls rfl (ls rfl (ls rfl (ls rfl (ls rfl (ls rfl (ls rfl (ls rfl (ls rfl (ls rfl (ls rfl (ls rfl (ls rfl (ls rfl (ls rfl (ls rfl (ls rfl (ls rfl (ls rfl (ls rfl (ls rfl (ls rfl (ls rfl (ls rfl oz)))))))))))))))))))))))))), lg (ls rfl (ls rfl (ls rfl (ls rfl (ls rfl (ls rfl (ls rfl (ls rfl (ls rfl (ls rfl (ls rfl (ls rfl (ls rfl (ls rfl (ls rfl (ls rfl (ls rfl (ls rfl (ls rfl (ls rfl (ls rfl (ls rfl (ls rfl (ls rfl (ls rfl (ls rfl (os rfl oz))))))))))))))))))))))))))), lg (ls rfl (ls rfl (ls rfl (ls rfl (ls rfl (ls rfl (ls rfl (ls rfl (ls rfl (ls rfl (ls rfl (ls rfl (ls rfl (ls rfl (ls rfl (ls rfl (ls rfl (ls rfl (ls rfl (ls rfl (ls rfl (ls rfl (ls rfl (ls rfl (ls rfl (ls rfl (os rfl (os rfl oz)))))))))))))))))))))))))))), lg (ls rfl (ls rfl (ls rfl (ls rfl (ls rfl (ls rfl (ls rfl (ls rfl (ls rfl (ls rfl (ls rfl (ls rfl (ls rfl (ls rfl (ls rfl (ls rfl (ls rfl (ls rfl (ls rfl (ls rfl (ls rfl (ls rfl (ls rfl (ls rfl (ls rfl (ls rfl (os rfl (os rfl (os rfl oz))))))))))))))))))))))))))))), lg (ls rfl (ls rfl (ls rfl (ls rfl (ls rfl (ls rfl (ls rfl (ls rfl (ls rfl (ls rfl (ls rfl (ls rfl (ls rfl (ls rfl (ls rfl (ls rfl (ls rfl (ls rfl (ls rfl (ls rfl (ls rfl (ls rfl (ls rfl (ls rfl (ls rfl (ls rfl (os rfl (os rfl (os rfl (os rfl oz)))))))))))))))))))))))))))))), lg (ls rfl (ls rfl (ls rfl (ls rfl (ls rfl (ls rfl (ls rfl (ls rfl (ls rfl (ls rfl (ls rfl (ls rfl (ls rfl (ls rfl (ls rfl (ls rfl (ls rfl (ls rfl (ls rfl (ls rfl (ls rfl (ls rfl (ls rfl (ls rfl (ls rfl (ls rfl (os rfl (os rfl (os rfl (os rfl (os rfl oz))))))))))))))))))))))))))))))), trivial⟩ ?_
        refine aw_cond _ oz (fun hc => ?_) (fun hc => ?_)
        · skip
          exfalso; revert hc; simp only [Bool.or_eq_true, decide_eq_true_eq]; intro hc; simp at hc; omega
        · skip
          refine aw_skip ?_
          refine aw_keep [(112, _), (84, _), (1, _), (5, _), (6, _), (8, _), (12, _)] ⟨lg oz, lg (os rfl oz), lg (os rfl (os rfl oz)), lg (os rfl (os rfl (os rfl oz))), lg (os rfl (os rfl (os rfl (os rfl oz)))), lg (os rfl (os rfl (os rfl (os rfl (os rfl oz))))), lg (os rfl (os rfl (os rfl (os rfl (os rfl (os rfl oz)))))), trivial⟩ ?_
          refine aw_region (by decide) ?_
          refine rts _ rfl (opD_move (os rfl (os rfl (os rfl (os rfl (os rfl (os rfl oz))))))) ?_
          refine rts _ rfl (opD_add lz (ev_const _ _) (by first | exact IntWalk.i64_in _ (by omega) | exact rfl)) ?_
          refine rts _ rfl (opD_assign lz) ?_
          refine .nil ?_
          exact ⟨n - 1, by omega, i + 1, ⟨le_of_eq (eg (ls rfl (ls rfl (ls rfl (os rfl (os rfl oz)))))), le_of_eq (eg (ls rfl (ls rfl (ls rfl (os rfl (os rfl (os rfl oz))))))), le_of_eq (eg (ls rfl (ls rfl (ls rfl (os rfl (os rfl (os rfl (os rfl oz)))))))), le_of_eq (eg (ls rfl (ls rfl (ls rfl (os rfl (os rfl (os rfl (os rfl (os rfl oz))))))))), le_of_eq (eg lz), trivial⟩, rfl, by omega⟩
      · skip
        have hend : ¬ (l.drop (q - (d + 1))).length = (l.drop (q + 1 - (d + 1))).length → ((l.drop (q - (d + 1))).getD 0 ln0).seq = q := fun hne => by
          have hlt : q - (d + 1) < l.length := by omega
          have h1 := (hok.2.2.2 _ _ (List.getElem?_eq_getElem hlt)).2
          have h2 : (l.drop (q - (d + 1)))[0]? = some l[q - (d + 1)] := by rw [List.getElem?_drop, Nat.add_zero]; exact List.getElem?_eq_getElem hlt
          rw [gd h2, h1]; omega
        refine aw_exit ?_
        refine aw_keep [(84, _), (1, _), (5, _), (6, _), (8, _), (12, _)] ⟨lg oz, lg (os rfl oz), lg (os rfl (os rfl oz)), lg (os rfl (os rfl (os rfl oz))), lg (os rfl (os rfl (os rfl (os rfl oz)))), lg (os rfl (os rfl (os rfl (os rfl (os rfl oz))))), trivial⟩ ?_
        refine aw_seq ?_
        refine aw_region (by decide) ?_
        refine rts _ rfl (opD_move (os rfl (os rfl (os rfl oz)))) ?_
        refine rts _ rfl (opD_len_sl Go.Proofs.Tryd.underlying55 lz) ?_
        refine rts _ rfl (opD_move (ls rfl (ls rfl (os rfl (os rfl (os rfl (os rfl oz))))))) ?_
        refine rts _ rfl (opD_len_sl Go.Proofs.Tryd.underlying55 lz) ?_
        refine rts _ rfl (opD_eql (ls rfl (ls rfl lz)) lz) ?_
        refine rts _ rfl (opD_move lz) ?_
        refine rtg _ rfl lz (fun hg14_6 => by
            have hg14_6' := hg14_6
            try simp only [beq_iff_eq, decide_eq_true_eq, decide_eq_false_iff_not, Bool.and_eq_true, Bool.or_eq_true, Bool.or_eq_false_iff, Bool.and_eq_false_iff] at hg14_6'
            exact opD_move (ls rfl (ls rfl (ls rfl (ls rfl (ls rfl (ls rfl (os rfl (os rfl (os rfl oz)))))))))) ?_
        refine rtg _ rfl (ls rfl lz) (fun hg14_7 => by
            have hg14_7' := hg14_7
            try simp only [beq_iff_eq, decide_eq_true_eq, decide_eq_false_iff_not, Bool.and_eq_true, Bool.or_eq_true, Bool.or_eq_false_iff, Bool.and_eq_false_iff] at hg14_7'
            exact opD_indexAddr_sl (i := 0) Go.Proofs.Tryd.underlying55 sz63 (lz.trans (pif_pos hg14_7)) (ev_const _ _) rfl (by omega)) ?_
        refine rtg _ rfl (ls rfl (ls rfl lz)) (fun hg14_8 => by
            have hg14_8' := hg14_8
            try simp only [beq_iff_eq, decide_eq_true_eq, decide_eq_false_iff_not, Bool.and_eq_true, Bool.or_eq_true, Bool.or_eq_false_iff, Bool.and_eq_false_iff] at hg14_8'
            exact (by first | exact opD_fieldAddr fo63_0 (lz.trans (pif_pos hg14_8)) | exact opD_fieldAddr_el fo63_0 (lz.trans (pif_pos hg14_8)))) ?_
        refine rtg _ rfl (ls rfl (ls rfl (ls rfl lz))) (fun hg14_9 => by
            have hg14_9' := hg14_9
            try simp only [beq_iff_eq, decide_eq_true_eq, decide_eq_false_iff_not, Bool.and_eq_true, Bool.or_eq_true, Bool.or_eq_false_iff, Bool.and_eq_false_iff] at hg14_9'
            exact opD_load_el_one ag22 (lz.trans (pif_pos hg14_9)) (at_getD ln0 (by omega)) rfl) ?_
        refine rtg _ rfl (ls rfl (ls rfl (ls rfl (ls rfl lz)))) (fun hg14_10 => by
            have hg14_10' := hg14_10
            try simp only [beq_iff_eq, decide_eq_true_eq, decide_eq_false_iff_not, Bool.and_eq_true, Bool.or_eq_true, Bool.or_eq_false_iff, Bool.and_eq_false_iff] at hg14_10'
            exact opD_move (ls rfl (ls rfl (ls rfl (ls rfl (ls rfl (ls rfl (ls rfl (ls rfl (ls rfl (ls rfl (os rfl oz)))))))))))) ?_
        refine rtg _ rfl (ls rfl (ls rfl (ls rfl (ls rfl (ls rfl lz))))) (fun hg14_11 => by
            have hg14_11' := hg14_11
            try simp only [beq_iff_eq, decide_eq_true_eq, decide_eq_false_iff_not, Bool.and_eq_true, Bool.or_eq_true, Bool.or_eq_false_iff, Bool.and_eq_false_iff] at hg14_11'
            exact opD_eql ((ls rfl lz).trans (pif_pos hg14_11)) (lz.trans (pif_pos hg14_11))) ?_
        refine rts _ rfl (opD_or (ls rfl (ls rfl (ls rfl (ls rfl (ls rfl (ls rfl lz)))))) lz) ?_
        refine rts _ rfl (opD_move lz) ?_
        refine rtg _ rfl lz (fun hg14_14 => by
            have hg14_14' := hg14_14
            try simp only [beq_iff_eq, decide_eq_true_eq, decide_eq_false_iff_not, Bool.and_eq_true, Bool.or_eq_true, Bool.or_eq_false_iff, Bool.and_eq_false_iff] at hg14_14'
            exact opD_call ht39 (sure30 hst) trivial) ?_
        refine rts _ rfl (opD_and (ls rfl lz) lz) ?_
        refine rts _ rfl (opD_assign lz) ?_
        refine .nil ?_
        refine aw_keep [(4, _), (84, _), (1, _), (5, _), (6, _), (8, _), (12, _)] ⟨lg lz, lg (ls rfl (ls rfl (ls rfl (ls rfl (ls rfl (ls rfl (ls rfl (ls rfl (ls rfl (ls rfl (ls rfl (ls rfl (ls rfl (ls rfl (ls rfl (ls rfl (ls rfl oz))))))))))))))))), lg (ls rfl (ls rfl (ls rfl (ls rfl (ls rfl (ls rfl (ls rfl (ls rfl (ls rfl (ls rfl (ls rfl (ls rfl (ls rfl (ls rfl (ls rfl (ls rfl (ls rfl (os rfl oz)))))))))))))))))), lg (ls rfl (ls rfl (ls rfl (ls rfl (ls rfl (ls rfl (ls rfl (ls rfl (ls rfl (ls rfl (ls rfl (ls rfl (ls rfl (ls rfl (ls rfl (ls rfl (ls rfl (os rfl (os rfl oz))))))))))))))))))), lg (ls rfl (ls rfl (ls rfl (ls rfl (ls rfl (ls rfl (ls rfl (ls rfl (ls rfl (ls rfl (ls rfl (ls rfl (ls rfl (ls rfl (ls rfl (ls rfl (ls rfl (os rfl (os rfl (os rfl oz)))))))))))))))))))), lg (ls rfl (ls rfl (ls rfl (ls rfl (ls rfl (ls rfl (ls rfl (ls rfl (ls rfl (ls rfl (ls rfl (ls rfl (ls rfl (ls rfl (ls rfl (ls rfl (ls rfl (os rfl (os rfl (os rfl (os rfl oz))))))))))))))))))))), lg (ls rfl (ls rfl (ls rfl (ls rfl (ls rfl (ls rfl (ls rfl (ls rfl (ls rfl (ls rfl (ls rfl (ls rfl (ls rfl (ls rfl (ls rfl (ls rfl (ls rfl (os rfl (os rfl (os rfl (os rfl (os rfl oz)))))))))))))))))))))), trivial⟩ ?_
        refine aw_ret ?_
        exact done_ext (.inr rfl) ((res_1 rfl (eg oz)).le (le_of_eq (congrArg (fun b => pl (.bool b)) (by first | rfl | (by_cases hE : (l.drop (q - (d + 1))).length = (l.drop (q + 1 - (d + 1))).length <;> first | (simp [hE]; done) | (rw [hend hE]; simp; done)))))) (pl_bnd _ _ _)
end Go.Proofs.YtmnhfpcbfdgbcaaDoor.Eng.Lv

