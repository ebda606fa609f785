/- TLu: what the functions of one package do, walked; used by the laws of this seat. -/
import Derived.Test.YtmnhfpcbfdgbcaaDoorTLx
namespace Go.Proofs.YtmnhfpcbfdgbcaaDoor.Eng.Lu
set_option linter.unusedVariables false
set_option linter.unusedSimpArgs false
open Go.RowKit Go.Proofs.YtmnhfpcbfdgbcaaDoor.Plain Go.Proofs.YtmnhfpcbfdgbcaaDoor.Eng

theorem zt107 : zeroT Go.Proofs.Tryd.prog 107 = some [.int .i64 0] := by kernel_rfl
theorem cc168 : Go.Proofs.Tryd.prog.concrete 168 = true := by kernel_rfl
theorem ht90 : hasText Go.Proofs.Tryd.prog 90 = true := by kernel_rfl
theorem ag107 : aggT Go.Proofs.Tryd.prog 107 = some false := by kernel_rfl
theorem ag57 : aggT Go.Proofs.Tryd.prog 57 = some true := by kernel_rfl
theorem sz57 : sizeT Go.Proofs.Tryd.prog 57 = some 2 := by kernel_rfl
theorem zt57 : zeroT Go.Proofs.Tryd.prog 57 = some [.int .u64 0, .slice none 0 0] := by kernel_rfl
theorem ht47 : hasText Go.Proofs.Tryd.prog 47 = true := by kernel_rfl
theorem ag63 : aggT Go.Proofs.Tryd.prog 63 = some true := by kernel_rfl
theorem sz63 : sizeT Go.Proofs.Tryd.prog 63 = some 5 := by kernel_rfl
theorem ht92 : hasText Go.Proofs.Tryd.prog 92 = true := by kernel_rfl
theorem fo57_0 : fieldOff Go.Proofs.Tryd.prog 57 0 = some 0 := by kernel_rfl
theorem ag22 : aggT Go.Proofs.Tryd.prog 22 = some false := by kernel_rfl
theorem fo57_1 : fieldOff Go.Proofs.Tryd.prog 57 1 = some 1 := by kernel_rfl
theorem ag55 : aggT Go.Proofs.Tryd.prog 55 = some false := by kernel_rfl
theorem fo63_0 : fieldOff Go.Proofs.Tryd.prog 63 0 = some 0 := by kernel_rfl
theorem sz22 : sizeT Go.Proofs.Tryd.prog 22 = some 1 := by kernel_rfl
theorem ht93 : hasText Go.Proofs.Tryd.prog 93 = true := by kernel_rfl
theorem zt63 : zeroT Go.Proofs.Tryd.prog 63 = some [.int .u64 0, .int .u64 0, .int .u8 0, .int .u16 0, .string ⟨#[]⟩] := by kernel_rfl
theorem el63 : elT Go.Proofs.Tryd.prog 63 = some (5, 40) := by kernel_rfl
theorem pt57 : placesT Go.Proofs.Tryd.prog 57 2 = some [(0, 1), (1, 1)] := by kernel_rfl
theorem mixed : Go.Proofs.Tryd.prog.follows .mixedOrders = true := by kernel_rfl
theorem pt63 : placesT Go.Proofs.Tryd.prog 63 5 = some [(0, 1), (1, 1), (2, 1), (3, 1), (4, 1)] := by kernel_rfl
theorem ht35 : hasText Go.Proofs.Tryd.prog 35 = true := by kernel_rfl
theorem ht37 : hasText Go.Proofs.Tryd.prog 37 = true := by kernel_rfl
theorem ht38 : hasText Go.Proofs.Tryd.prog 38 = true := by kernel_rfl
theorem ht46 : hasText Go.Proofs.Tryd.prog 46 = true := by kernel_rfl

open Go.Proofs.YtmnhfpcbfdgbcaaDoor.Eng.Pk Go.Proofs.YtmnhfpcbfdgbcaaDoor.Eng.Rd Go.Proofs.YtmnhfpcbfdgbcaaDoor.Eng.Pb Go.Proofs.YtmnhfpcbfdgbcaaDoor.Eng.Er Go.Proofs.YtmnhfpcbfdgbcaaDoor.Eng.Rf06 Go.Proofs.YtmnhfpcbfdgbcaaDoor.Eng.Lg Go.Proofs.YtmnhfpcbfdgbcaaDoor.Eng.Lc Go.Proofs.YtmnhfpcbfdgbcaaDoor.Eng.Ls Go.Proofs.YtmnhfpcbfdgbcaaDoor.Eng.Lt Go.Proofs.YtmnhfpcbfdgbcaaDoor.Eng.Le Go.Proofs.YtmnhfpcbfdgbcaaDoor.Eng.Ld Go.Proofs.YtmnhfpcbfdgbcaaDoor.Eng.Lx
def lnAt (x : Ln) (q : Nat) : Ln := ⟨q, x.who, x.what, x.code, x.key⟩

set_option maxRecDepth 100000 in
set_option maxHeartbeats 1000000 in
theorem num30_none {s : St} : AC Go.Proofs.Tryd.prog 46 [pl .nilIface] s (pl (.int .i64 0)) s := by
  refine ac_of_aw s.boxes.length s.fr.length Go.Proofs.Tryd.func46 rfl (by simp [Go.Proofs.Tryd.ntmps46]) ?_
  refine aw_ext0 ?_
  refine aw_keep [(0, _)] ⟨lg ez, trivial⟩ ?_
  refine aw_seq ?_
  refine aw_region (by decide) ?_
  refine rts _ rfl (opD_assign (ev_const _ _)) ?_
  refine .nil ?_
  refine aw_keep [(2, _), (0, _)] ⟨lg lz, lg (ls rfl oz), trivial⟩ ?_
  refine aw_seq ?_
  refine aw_region (by decide) ?_
  refine rts _ rfl (opD_allocX zt107 (by first | exact List.length_nil | (simp only [List.length_cons, List.length_nil, Nat.zero_add, Nat.reduceAdd]; rfl)) (by simp only [List.nil_append, List.cons_append, List.map_cons, List.map_nil, List.set_cons_zero, List.set_cons_succ, List.take_succ_cons, List.take_zero, List.drop_succ_cons, List.drop_zero]; rfl)) ?_
  refine .nil ?_
  refine aw_keep [(3, _), (2, _), (0, _)] ⟨lg lz, lg (ls rfl oz), lg (ls rfl (os rfl oz)), trivial⟩ ?_
  refine aw_seq ?_
  refine aw_seq ?_
  refine aw_region (by decide) ?_
  refine rts _ rfl (opD_move (os rfl (os rfl oz))) ?_
  refine rts _ rfl (opD_bin (r := .bool true) lz (ev_const _ _) (fun w => by simp [go_sem]) (fun w => by simp [go_sem])) ?_
  refine .nil ?_
  refine aw_keep [(5, _), (3, _), (2, _), (0, _)] ⟨lg lz, lg (ls rfl (ls rfl oz)), lg (ls rfl (ls rfl (os rfl oz))), lg (ls rfl (ls rfl (os rfl (os rfl oz)))), trivial⟩ ?_
  refine aw_cond _ oz (fun hc => ?_) (fun hc => ?_)
  · skip
    refine aw_seq ?_
    refine aw_region (by decide) ?_
    refine rts _ rfl (opD_assign (ev_const _ _)) ?_
    refine .nil ?_
    refine aw_keep [(2, _), (5, _), (3, _), (0, _)] ⟨lg lz, lg (ls rfl oz), lg (ls rfl (os rfl oz)), lg (ls rfl (os rfl (os rfl (os rfl oz)))), trivial⟩ ?_
    refine aw_ret ?_
    exact done_ext (.inr rfl) (res_1 rfl (eg oz)) (pl_bnd _ _ _)
  · skip
    exfalso; revert hc; simp

set_option maxRecDepth 100000 in
set_option maxHeartbeats 1000000 in
theorem num30_some {s : St} {c : Int} (hst : StGV s) : AC Go.Proofs.Tryd.prog 46 [pl (.iface 107 (.int .i64 c))] s (pl (.int .i64 c)) s := by
  refine ac_of_aw s.boxes.length s.fr.length Go.Proofs.Tryd.func46 rfl (by simp [Go.Proofs.Tryd.ntmps46]) ?_
  refine aw_ext0 ?_
  refine aw_keep [(0, _)] ⟨lg ez, trivial⟩ ?_
  refine aw_seq ?_
  refine aw_region (by decide) ?_
  refine rts _ rfl (opD_assign (ev_const _ _)) ?_
  refine .nil ?_
  refine aw_keep [(2, _), (0, _)] ⟨lg lz, lg (ls rfl oz), trivial⟩ ?_
  refine aw_seq ?_
  refine aw_region (by decide) ?_
  refine rts _ rfl (opD_allocX zt107 (by first | exact List.length_nil | (simp only [List.length_cons, List.length_nil, Nat.zero_add, Nat.reduceAdd]; rfl)) (by simp only [List.nil_append, List.cons_append, List.map_cons, List.map_nil, List.set_cons_zero, List.set_cons_succ, List.take_succ_cons, List.take_zero, List.drop_succ_cons, List.drop_zero]; rfl)) ?_
  refine .nil ?_
  refine aw_keep [(3, _), (2, _), (0, _)] ⟨lg lz, lg (ls rfl oz), lg (ls rfl (os rfl oz)), trivial⟩ ?_
  refine aw_seq ?_
  refine aw_seq ?_
  refine aw_region (by decide) ?_
  refine rts _ rfl (opD_move (os rfl (os rfl oz))) ?_
  refine rts _ rfl (opD_bin (r := .bool false) lz (ev_const _ _) (fun w => by simp [go_sem]) (fun w => by simp [go_sem])) ?_
  refine .nil ?_
  refine aw_keep [(5, _), (3, _), (2, _), (0, _)] ⟨lg lz, lg (ls rfl (ls rfl oz)), lg (ls rfl (ls rfl (os rfl oz))), lg (ls rfl (ls rfl (os rfl (os rfl oz)))), trivial⟩ ?_
  refine aw_cond _ oz (fun hc => ?_) (fun hc => ?_)
  · skip
    exfalso; revert hc; simp
  · skip
    refine aw_skip ?_
    refine aw_keep [(5, _), (3, _), (2, _), (0, _)] ⟨lg oz, lg (os rfl oz), lg (os rfl (os rfl oz)), lg (os rfl (os rfl (os rfl oz))), trivial⟩ ?_
    refine aw_seq ?_
    refine aw_seq ?_
    refine aw_region (by decide) ?_
    refine rts _ rfl (opD_move (os rfl (os rfl (os rfl oz)))) ?_
    refine rts _ rfl (opD_makeInterface cc168 (ls rfl (os rfl oz))) ?_
    refine rts _ rfl (opD_callLx ht90 (as_box hst (loc_get rfl)) ⟨le_of_eq (ls rfl lz), le_of_eq lz, trivial⟩ (by simp only [List.nil_append, List.cons_append, List.map_cons, List.map_nil, List.set_cons_zero, List.set_cons_succ, List.take_succ_cons, List.take_zero, List.drop_succ_cons, List.drop_zero]; rfl)) ?_
    refine .nil ?_
    refine aw_keep [(8, _), (5, _), (3, _), (2, _), (0, _)] ⟨lg lz, lg (ls rfl (ls rfl (ls rfl oz))), lg (ls rfl (ls rfl (ls rfl (os rfl oz)))), lg (ls rfl (ls rfl (ls rfl (os rfl (os rfl oz))))), lg (ls rfl (ls rfl (ls rfl (os rfl (os rfl (os rfl oz)))))), trivial⟩ ?_
    refine aw_cond _ oz (fun hc => ?_) (fun hc => ?_)
    · skip
      refine aw_seq ?_
      refine aw_region (by decide) ?_
      refine rts _ rfl ((by first | exact opD_load_one ag107 (os rfl (os rfl oz)) (by first | exact loc_get rfl | exact old_get (by assumption)) rfl | exact opD_load_el_one ag107 (os rfl (os rfl oz)) (by first | assumption | simp) rfl)) ?_
      refine rts _ rfl (opD_assign lz) ?_
      refine .nil ?_
      refine aw_keep [(2, _), (8, _), (5, _), (3, _), (0, _)] ⟨lg lz, lg (ls rfl (ls rfl oz)), lg (ls rfl (ls rfl (os rfl oz))), lg (ls rfl (ls rfl (os rfl (os rfl oz)))), lg (ls rfl (ls rfl (os rfl (os rfl (os rfl (os rfl oz)))))), trivial⟩ ?_
      refine aw_ret ?_
      exact done_ext (.inr rfl) (res_1 rfl (eg oz)) (pl_bnd _ _ _)
    · skip
      exfalso; revert hc; simp

theorem num30 {s : St} {o : Option Int} (hst : StGV s) : AC Go.Proofs.Tryd.prog 46 [pl (errV o)] s (pl (.int .i64 (numV o))) s := by
  cases o with
  | none => exact num30_none
  | some c => exact num30_some hst

set_option maxRecDepth 100000 in
set_option maxHeartbeats 2000000 in
theorem lg_add_small {d : Nat} {l : List Ln} {x : Ln} (hok : LgOk d l) (hl : l.length < 32) (hx : ∀ y ∈ l, LnOk y) (hxo : LnOk x) (hm : mayB x = true) : Pure Go.Proofs.Tryd.prog 35 [lgP d l, lnP x] (tup [lgP d (l ++ [lnAt x (d + l.length + 1)]), pl .nilIface]) := by
  intro s
  unfold lgP lnP
  obtain rfl : d = 0 := hok.2.2.1 hl
  refine ac_of_aw s.boxes.length s.fr.length Go.Proofs.Tryd.func35 rfl (by simp [Go.Proofs.Tryd.ntmps35]) ?_
  refine aw_ext0 ?_
  refine aw_keep [(0, _), (1, _)] ⟨lg ez, lg (es ez), trivial⟩ ?_
  refine aw_seq ?_
  refine aw_region (by decide) ?_
  refine rts _ rfl (opD_boxA oz (by repeat (first | exact bnd_nil | refine bnd_cons (by first | exact pl_bnd _ _ _ | exact sl_bnd (kL_bnd _ _ _) | exact sl_bnd (kI_bnd _ _ _ _) | exact ptr_bnd _ (by omega) | exact any_bnd _ _ | exact sl_own_bnd (kL_bnd _ _ _) (by omega) | exact sl_own_bnd (kL_bnd _ _ _) (by simp only [List.length_append, List.length_cons, List.length_nil]; omega)) ?_)) (by first | exact List.length_nil | (simp only [List.length_cons, List.length_nil, Nat.zero_add, Nat.reduceAdd]; rfl)) (by simp only [List.nil_append, List.cons_append, List.map_cons, List.map_nil, List.set_cons_zero, List.set_cons_succ, List.take_succ_cons, List.take_zero, List.drop_succ_cons, List.drop_zero]; rfl)) ?_
  refine rts _ rfl (opD_boxA (ls rfl (os rfl oz)) (by repeat (first | exact bnd_nil | refine bnd_cons (by first | exact pl_bnd _ _ _ | exact sl_bnd (kL_bnd _ _ _) | exact sl_bnd (kI_bnd _ _ _ _) | exact ptr_bnd _ (by omega) | exact any_bnd _ _ | exact sl_own_bnd (kL_bnd _ _ _) (by omega) | exact sl_own_bnd (kL_bnd _ _ _) (by simp only [List.length_append, List.length_cons, List.length_nil]; omega)) ?_)) (by first | exact List.length_nil | (simp only [List.length_cons, List.length_nil, Nat.zero_add, Nat.reduceAdd]; rfl)) (by simp only [List.nil_append, List.cons_append, List.map_cons, List.map_nil, List.set_cons_zero, List.set_cons_succ, List.take_succ_cons, List.take_zero, List.drop_succ_cons, List.drop_zero]; rfl)) ?_
  refine rts _ rfl (opD_allocX zt57 (by first | exact List.length_nil | (simp only [List.length_cons, List.length_nil, Nat.zero_add, Nat.reduceAdd]; rfl)) (by simp only [List.nil_append, List.cons_append, List.map_cons, List.map_nil, List.set_cons_zero, List.set_cons_succ, List.take_succ_cons, List.take_zero, List.drop_succ_cons, List.drop_zero]; rfl)) ?_
  refine rts _ rfl (opD_assign (ev_const _ _)) ?_
  refine .nil ?_
  refine aw_keep [(5, _), (4, _), (3, _), (2, _), (0, _), (1, _)] ⟨lg lz, lg (ls rfl lz), lg (ls rfl (ls rfl lz)), lg (ls rfl (ls rfl (ls rfl lz))), lg (ls rfl (ls rfl (ls rfl (ls rfl oz)))), lg (ls rfl (ls rfl (ls rfl (ls rfl (os rfl oz))))), trivial⟩ ?_
  refine aw_seq ?_
  refine aw_seq ?_
  refine aw_region (by decide) ?_
  refine rts _ rfl ((by first | exact opD_load_aggX (qs := [_, _]) ag57 sz57 (os rfl (os rfl (os rfl oz))) (by first | exact loc_get rfl | exact old_get (by assumption)) (by simp) rfl | exact opD_load_el_aggX (qs := [_, _]) ag57 sz57 (os rfl (os rfl (os rfl oz))) (by first | assumption | simp) (by decide) rfl)) ?_
  refine rts _ rfl (opD_pure ht47 (lg_check (by omega) (by omega) hx) ⟨le_of_eq lz, trivial⟩) ?_
  refine rts _ rfl (opD_bin lz (ev_const _ _) (fun w => errV_guard _ w _) (fun w => errV_beq _ w)) ?_
  refine rts _ rfl (opD_move lz) ?_
  refine rtg _ rfl lz (fun hg1_4 => by
      have hg1_4' := hg1_4
      try simp only [beq_iff_eq, decide_eq_true_eq, decide_eq_false_iff_not, Bool.and_eq_true, Bool.or_eq_true, Bool.or_eq_false_iff, Bool.and_eq_false_iff] at hg1_4'
      exact (by first | exact opD_load_aggX (qs := [_, _, _, _, _]) ag63 sz63 (ls rfl (ls rfl (ls rfl (ls rfl (os rfl (os rfl oz)))))) (by first | exact loc_get rfl | exact old_get (by assumption) | exact hB) (by simp) rfl | exact opD_load_el_aggX (qs := [_, _, _, _, _]) ag63 sz63 (ls rfl (ls rfl (ls rfl (ls rfl (os rfl (os rfl oz)))))) (by first | assumption | simp) (by decide) rfl)) ?_
  refine rtg _ rfl (ls rfl lz) (fun hg1_5 => by
      have hg1_5' := hg1_5
      try simp only [beq_iff_eq, decide_eq_true_eq, decide_eq_false_iff_not, Bool.and_eq_true, Bool.or_eq_true, Bool.or_eq_false_iff, Bool.and_eq_false_iff] at hg1_5'
      exact opD_pure ht92 (ln_may hxo) ⟨le_of_eq (lz.trans (pif_pos hg1_5)), trivial⟩) ?_
  refine rtg _ rfl (ls rfl (ls rfl lz)) (fun hg1_6 => by
      have hg1_6' := hg1_6
      try simp only [beq_iff_eq, decide_eq_true_eq, decide_eq_false_iff_not, Bool.and_eq_true, Bool.or_eq_true, Bool.or_eq_false_iff, Bool.and_eq_false_iff] at hg1_6'
      exact opD_not (lz.trans (pif_pos hg1_6))) ?_
  refine rts _ rfl (opD_or (ls rfl (ls rfl (ls rfl lz))) lz) ?_
  refine .nil ?_
  refine aw_keep [(14, _), (5, _), (4, _), (3, _), (2, _), (0, _), (1, _)] ⟨lg lz, lg (ls rfl (ls rfl (ls rfl (ls rfl (ls rfl (ls rfl (ls rfl (ls rfl oz)))))))), lg (ls rfl (ls rfl (ls rfl (ls rfl (ls rfl (ls rfl (ls rfl (ls rfl (os rfl oz))))))))), lg (ls rfl (ls rfl (ls rfl (ls rfl (ls rfl (ls rfl (ls rfl (ls rfl (os rfl (os rfl oz)))))))))), lg (ls rfl (ls rfl (ls rfl (ls rfl (ls rfl (ls rfl (ls rfl (ls rfl (os rfl (os rfl (os rfl oz))))))))))), lg (ls rfl (ls rfl (ls rfl (ls rfl (ls rfl (ls rfl (ls rfl (ls rfl (os rfl (os rfl (os rfl (os rfl oz)))))))))))), lg (ls rfl (ls rfl (ls rfl (ls rfl (ls rfl (ls rfl (ls rfl (ls rfl (os rfl (os rfl (os rfl (os rfl (os rfl oz))))))))))))), trivial⟩ ?_
  refine aw_cond _ oz (fun hc => ?_) (fun hc => ?_)
  · skip
    exfalso; revert hc; rw [lgE_t hok, hm]; simp
  · skip
    refine aw_skip ?_
    refine aw_keep [(14, _), (5, _), (4, _), (3, _), (2, _), (0, _), (1, _)] ⟨lg oz, lg (os rfl oz), lg (os rfl (os rfl oz)), lg (os rfl (os rfl (os rfl oz))), lg (os rfl (os rfl (os rfl (os rfl oz)))), lg (os rfl (os rfl (os rfl (os rfl (os rfl oz))))), lg (os rfl (os rfl (os rfl (os rfl (os rfl (os rfl oz)))))), trivial⟩ ?_
    refine aw_seq ?_
    refine aw_seq ?_
    refine aw_region (by decide) ?_
    refine rts _ rfl ((by first | exact opD_fieldAddr fo57_0 (os rfl (os rfl (os rfl (os rfl oz)))) | exact opD_fieldAddr_el fo57_0 (os rfl (os rfl (os rfl (os rfl oz)))))) ?_
    refine rts _ rfl ((by first | exact opD_load_one ag22 lz (by first | exact loc_get rfl | exact old_get (by assumption)) rfl | exact opD_load_el_one ag22 lz (by first | assumption | simp) rfl)) ?_
    refine rts _ rfl (opD_eql lz (ev_const _ _)) ?_
    refine .nil ?_
    refine aw_keep [(19, _), (14, _), (5, _), (4, _), (3, _), (2, _), (0, _), (1, _)] ⟨lg lz, lg (ls rfl (ls rfl (ls rfl oz))), lg (ls rfl (ls rfl (ls rfl (os rfl oz)))), lg (ls rfl (ls rfl (ls rfl (os rfl (os rfl oz))))), lg (ls rfl (ls rfl (ls rfl (os rfl (os rfl (os rfl oz)))))), lg (ls rfl (ls rfl (ls rfl (os rfl (os rfl (os rfl (os rfl oz))))))), lg (ls rfl (ls rfl (ls rfl (os rfl (os rfl (os rfl (os rfl (os rfl oz)))))))), lg (ls rfl (ls rfl (ls rfl (os rfl (os rfl (os rfl (os rfl (os rfl (os rfl oz))))))))), trivial⟩ ?_
    refine aw_cond _ oz (fun hc => ?_) (fun hc => ?_)
    · skip
      exfalso; revert hc; simp
    · skip
      refine aw_skip ?_
      refine aw_keep [(19, _), (14, _), (5, _), (4, _), (3, _), (2, _), (0, _), (1, _)] ⟨lg oz, lg (os rfl oz), lg (os rfl (os rfl oz)), lg (os rfl (os rfl (os rfl oz))), lg (os rfl (os rfl (os rfl (os rfl oz)))), lg (os rfl (os rfl (os rfl (os rfl (os rfl oz))))), lg (os rfl (os rfl (os rfl (os rfl (os rfl (os rfl oz)))))), lg (os rfl (os rfl (os rfl (os rfl (os rfl (os rfl (os rfl oz))))))), trivial⟩ ?_
      refine aw_seq ?_
      refine aw_region (by decide) ?_
      refine rts _ rfl ((by first | exact opD_fieldAddr fo57_0 (os rfl (os rfl (os rfl (os rfl (os rfl oz))))) | exact opD_fieldAddr_el fo57_0 (os rfl (os rfl (os rfl (os rfl (os rfl oz))))))) ?_
      refine rts _ rfl ((by first | exact opD_load_one ag22 lz (by first | exact loc_get rfl | exact old_get (by assumption)) rfl | exact opD_load_el_one ag22 lz (by first | assumption | simp) rfl)) ?_
      refine rts _ rfl ((by first | exact opD_fieldAddr fo57_1 (ls rfl (ls rfl (os rfl (os rfl (os rfl (os rfl (os rfl oz))))))) | exact opD_fieldAddr_el fo57_1 (ls rfl (ls rfl (os rfl (os rfl (os rfl (os rfl (os rfl oz))))))))) ?_
      refine rts _ rfl ((by first | exact opD_load_one ag55 lz (by first | exact loc_get rfl | exact old_get (by assumption)) rfl | exact opD_load_el_one ag55 lz (by first | assumption | simp) rfl)) ?_
      refine rts _ rfl (opD_len_sl Go.Proofs.Tryd.underlying55 lz) ?_
      refine rts _ rfl (opD_conv_int Go.Proofs.Tryd.underlying3 Go.Proofs.Tryd.underlying22 lz (by first | exact IntWalk.u64_in _ (by omega) | exact rfl)) ?_
      refine rts _ rfl (opD_add (r := ((0 + l.length : Nat) : Int)) (ls rfl (ls rfl (ls rfl (ls rfl lz)))) lz ((IntWalk.u64_in _ (by omega)).trans (by omega))) ?_
      refine rts _ rfl (opD_add (r := ((0 + l.length + 1 : Nat) : Int)) lz (ev_const _ _) ((IntWalk.u64_in _ (by omega)).trans (by omega))) ?_
      refine rts _ rfl ((by first | exact opD_fieldAddr fo63_0 (ls rfl (ls rfl (ls rfl (ls rfl (ls rfl (ls rfl (ls rfl (ls rfl (os rfl (os rfl (os rfl (os rfl oz)))))))))))) | exact opD_fieldAddr_el fo63_0 (ls rfl (ls rfl (ls rfl (ls rfl (ls rfl (ls rfl (ls rfl (ls rfl (os rfl (os rfl (os rfl (os rfl oz)))))))))))))) ?_
      refine rts _ rfl ((by first | exact opD_storeO sz22 lz (le_of_eq (ls rfl lz)) (by first | exact one_pl rfl | exact one_sl _ _ _ _ | exact one_ptr _ _) rfl (by simp) (by first | exact pl_bnd _ _ _ | exact sl_bnd (kL_bnd _ _ _) | exact sl_bnd (kI_bnd _ _ _ _) | exact ptr_bnd _ (by omega) | exact any_bnd _ _ | exact sl_own_bnd (kL_bnd _ _ _) (by omega) | exact sl_own_bnd (kL_bnd _ _ _) (by simp only [List.length_append, List.length_cons, List.length_nil]; omega)) (by simp only [List.nil_append, List.cons_append, List.map_cons, List.map_nil, List.set_cons_zero, List.set_cons_succ, List.take_succ_cons, List.take_zero, List.drop_succ_cons, List.drop_zero]; rfl) (by simp only [List.nil_append, List.cons_append, List.map_cons, List.map_nil, List.set_cons_zero, List.set_cons_succ, List.take_succ_cons, List.take_zero, List.drop_succ_cons, List.drop_zero]; rfl) | exact opD_storeG sz22 lz (le_of_eq (ls rfl lz)) (by first | exact one_pl rfl | exact one_sl _ _ _ _ | exact one_ptr _ _) hG (by simp) (by first | exact pl_bnd _ _ _ | exact sl_bnd (kL_bnd _ _ _) | exact sl_bnd (kI_bnd _ _ _ _) | exact ptr_bnd _ (by omega) | exact any_bnd _ _ | exact sl_own_bnd (kL_bnd _ _ _) (by omega) | exact sl_own_bnd (kL_bnd _ _ _) (by simp only [List.length_append, List.length_cons, List.length_nil]; omega)) (by simp only [List.nil_append, List.cons_append, List.map_cons, List.map_nil, List.set_cons_zero, List.set_cons_succ, List.take_succ_cons, List.take_zero, List.drop_succ_cons, List.drop_zero]; rfl))) ?_
      refine .nil ?_
      refine aw_keep [(19, _), (14, _), (5, _), (4, _), (3, _), (2, _), (0, _), (1, _)] ⟨lg (lx (ls rfl (ls rfl (ls rfl (ls rfl (ls rfl (ls rfl (ls rfl (ls rfl (ls rfl oz)))))))))), lg (lx (ls rfl (ls rfl (ls rfl (ls rfl (ls rfl (ls rfl (ls rfl (ls rfl (ls rfl (os rfl oz))))))))))), lg (lx (ls rfl (ls rfl (ls rfl (ls rfl (ls rfl (ls rfl (ls rfl (ls rfl (ls rfl (os rfl (os rfl oz)))))))))))), lg (lx (ls rfl (ls rfl (ls rfl (ls rfl (ls rfl (ls rfl (ls rfl (ls rfl (ls rfl (os rfl (os rfl (os rfl oz))))))))))))), lg (lx (ls rfl (ls rfl (ls rfl (ls rfl (ls rfl (ls rfl (ls rfl (ls rfl (ls rfl (os rfl (os rfl (os rfl (os rfl oz)))))))))))))), lg (lx (ls rfl (ls rfl (ls rfl (ls rfl (ls rfl (ls rfl (ls rfl (ls rfl (ls rfl (os rfl (os rfl (os rfl (os rfl (os rfl oz))))))))))))))), lg (lx (ls rfl (ls rfl (ls rfl (ls rfl (ls rfl (ls rfl (ls rfl (ls rfl (ls rfl (os rfl (os rfl (os rfl (os rfl (os rfl (os rfl oz)))))))))))))))), lg (lx (ls rfl (ls rfl (ls rfl (ls rfl (ls rfl (ls rfl (ls rfl (ls rfl (ls rfl (os rfl (os rfl (os rfl (os rfl (os rfl (os rfl (os rfl oz))))))))))))))))), trivial⟩ ?_
      refine aw_seq ?_
      refine aw_drawn2X ⟨57, [pl (.int .u64 0), pl (.slice none 0 0)]⟩ [false, false, false, false, true, false, false, true, false, false, true] [[0, 1, 2], [0, 1, 2], [0], [0], [0, 1], [0, 1], [0, 1], [1, 2], [2], [0, 1, 2], [2, 3]] [(true, true), (true, true), (true, true), (true, true), (true, true), (true, true), (true, true), (true, true), (true, true), (true, true), (false, true)] 9 [0, 1, 2] (ptr (s.boxes.length + 3) 0) _ rfl mixed (by decide +kernel) (by simp only [List.nil_append, List.cons_append, List.map_cons, List.map_nil, List.set_cons_zero, List.set_cons_succ, List.take_succ_cons, List.take_zero, List.drop_succ_cons, List.drop_zero]; rfl) ?_
      refine d2p _ rfl rfl (fun s => (by first | exact opD_fieldAddr fo57_0 (os rfl (os rfl (os rfl (os rfl (os rfl oz))))) | exact opD_fieldAddr_el fo57_0 (os rfl (os rfl (os rfl (os rfl (os rfl oz))))))) ?_
      refine d2l1 rfl ag22 lz (loc_get rfl) rfl rfl ?_
      refine d2p _ rfl rfl (fun s => (by first | exact opD_fieldAddr fo57_1 (ls rfl (ls rfl (os rfl (os rfl (os rfl (os rfl (os rfl oz))))))) | exact opD_fieldAddr_el fo57_1 (ls rfl (ls rfl (os rfl (os rfl (os rfl (os rfl (os rfl oz))))))))) ?_
      refine d2l1 rfl ag55 lz (loc_get rfl) rfl rfl ?_
      refine d2b _ rfl rfl rfl (opD_own1 ht93 (clone_l (by omega) (by omega)) ⟨le_sl lz, trivial⟩ (by first | exact List.length_nil | (simp only [List.length_cons, List.length_nil, Nat.zero_add, Nat.reduceAdd]; rfl)) (by simp only [List.nil_append, List.cons_append, List.map_cons, List.map_nil, List.set_cons_zero, List.set_cons_succ, List.take_succ_cons, List.take_zero, List.drop_succ_cons, List.drop_zero]; rfl)) (opD_own1 ht93 (clone_l (by omega) (by omega)) ⟨le_sl lz, trivial⟩ (by first | exact List.length_nil | (simp only [List.length_cons, List.length_nil, Nat.zero_add, Nat.reduceAdd]; rfl)) (by simp only [List.nil_append, List.cons_append, List.map_cons, List.map_nil, List.set_cons_zero, List.set_cons_succ, List.take_succ_cons, List.take_zero, List.drop_succ_cons, List.drop_zero]; rfl)) ?_
      refine d2lA (qs := [_, _, _, _, _]) rfl ag63 sz63 (ls rfl (ls rfl (ls rfl (ls rfl (ls rfl (os rfl (os rfl (os rfl (os rfl oz))))))))) (loc_get rfl) (Nat.le_of_ble_eq_true rfl) rfl rfl ?_
      refine d2p _ rfl rfl (fun s => opD_buildSlice (k := kL) [(lnAt x (0 + l.length + 1))] Go.Proofs.Tryd.underlying55 sz63 zt63 (by decide) rfl (parts_cons (cellsA lz) parts_nil) rfl rfl) ?_
      refine d2b _ rfl rfl rfl ((by first | exact opD_appendX Go.Proofs.Tryd.underlying55 el63 (ls rfl (ls rfl lz)) lz rfl (by first | omega | (simp only [List.length_cons, List.length_nil, List.length_append]; omega)) (by first | omega | (simp only [List.length_cons, List.length_nil, List.length_append]; omega)) (by first | (with_reducible exact List.nil_append _) | exact rfl) (by simp only [List.nil_append, List.cons_append, List.map_cons, List.map_nil, List.set_cons_zero, List.set_cons_succ, List.take_succ_cons, List.take_zero, List.drop_succ_cons, List.drop_zero]; rfl) | exact opD_appendN (k := kL) Go.Proofs.Tryd.underlying55 el63 (ls rfl (ls rfl lz)) lz (by first | omega | (simp only [List.length_cons, List.length_nil, List.length_append]; omega)) (by first | omega | (simp only [List.length_cons, List.length_nil, List.length_append]; omega)) (by first | exact List.length_nil | (simp only [List.length_cons, List.length_nil, Nat.zero_add, Nat.reduceAdd]; rfl)) (by simp only [List.nil_append, List.cons_append, List.map_cons, List.map_nil, List.set_cons_zero, List.set_cons_succ, List.take_succ_cons, List.take_zero, List.drop_succ_cons, List.drop_zero]; rfl))) ((by first | exact opD_appendX Go.Proofs.Tryd.underlying55 el63 (ls rfl (ls rfl lz)) lz rfl (by first | omega | (simp only [List.length_cons, List.length_nil, List.length_append]; omega)) (by first | omega | (simp only [List.length_cons, List.length_nil, List.length_append]; omega)) (by first | (with_reducible exact List.nil_append _) | exact rfl) (by simp only [List.nil_append, List.cons_append, List.map_cons, List.map_nil, List.set_cons_zero, List.set_cons_succ, List.take_succ_cons, List.take_zero, List.drop_succ_cons, List.drop_zero]; rfl) | exact opD_appendN (k := kL) Go.Proofs.Tryd.underlying55 el63 (ls rfl (ls rfl lz)) lz (by first | omega | (simp only [List.length_cons, List.length_nil, List.length_append]; omega)) (by first | omega | (simp only [List.length_cons, List.length_nil, List.length_append]; omega)) (by first | exact List.length_nil | (simp only [List.length_cons, List.length_nil, Nat.zero_add, Nat.reduceAdd]; rfl)) (by simp only [List.nil_append, List.cons_append, List.map_cons, List.map_nil, List.set_cons_zero, List.set_cons_succ, List.take_succ_cons, List.take_zero, List.drop_succ_cons, List.drop_zero]; rfl))) ?_
      refine d2p _ rfl rfl (fun s => opD_build_struct (rs := [_, _]) Go.Proofs.Tryd.underlying57 pt57 zt57 (parts_cons (cells1 (ls rfl (ls rfl (ls rfl (ls rfl (ls rfl (ls rfl lz)))))) (by first | exact one_pl rfl | exact one_sl _ _ _ _ | exact one_ptr _ _ | exact one_ifc _ _)) (parts_cons (cells1 lz (by first | exact one_pl rfl | exact one_sl _ _ _ _ | exact one_ptr _ _ | exact one_ifc _ _)) parts_nil)) rfl) ?_
      refine d2f (ptr (s.boxes.length + 3) 0) rfl ?_
      refine d2y _ rfl rfl rfl (opD_storeA sz57 lz (ls rfl lz) (by repeat (first | exact ones_nil | refine ones_cons (by first | exact one_pl rfl | exact one_sl _ _ _ _ | exact one_ptr _ _) ?_)) rfl rfl (Nat.le_of_ble_eq_true rfl) (List.cons_ne_nil _ _) (by repeat (first | exact bnd_nil | refine bnd_cons (by first | exact pl_bnd _ _ _ | exact sl_bnd (kL_bnd _ _ _) | exact sl_bnd (kI_bnd _ _ _ _) | exact ptr_bnd _ (by omega) | exact any_bnd _ _ | exact sl_own_bnd (kL_bnd _ _ _) (by omega) | exact sl_own_bnd (kL_bnd _ _ _) (by simp only [List.length_append, List.length_cons, List.length_nil]; omega)) ?_)) (by simp only [List.nil_append, List.cons_append, List.map_cons, List.map_nil, List.set_cons_zero, List.set_cons_succ, List.take_succ_cons, List.take_zero, List.drop_succ_cons, List.drop_zero]; rfl) (by simp only [List.nil_append, List.cons_append, List.map_cons, List.map_nil, List.set_cons_zero, List.set_cons_succ, List.take_succ_cons, List.take_zero, List.drop_succ_cons, List.drop_zero]; rfl)) ?_
      refine .nil ?_
      dsimp only [List.nil_append, List.cons_append]
      refine ⟨rfl, ⟨trivial, ⟨(by first | exact loc_get rfl | exact old_get (by assumption)), (by first | exact loc_get rfl | exact old_get (by assumption)), (by first | exact loc_get rfl | exact old_get (by assumption)), trivial⟩, trivial, ⟨(by first | exact loc_get rfl | exact old_get (by assumption)), trivial⟩, trivial, ⟨(by first | exact loc_get rfl | exact old_get (by assumption)), (by first | exact loc_get rfl | exact old_get (by assumption)), trivial⟩, trivial, trivial, trivial, trivial, trivial, trivial⟩, ⟨trivial, ⟨(by first | exact loc_get rfl | exact old_get (by assumption)), (by first | exact loc_get rfl | exact old_get (by assumption)), (by first | exact loc_get rfl | exact old_get (by assumption)), trivial⟩, trivial, ⟨(by first | exact loc_get rfl | exact old_get (by assumption)), trivial⟩, trivial, ⟨(by first | exact loc_get rfl | exact old_get (by assumption)), (by first | exact loc_get rfl | exact old_get (by assumption)), trivial⟩, trivial, trivial, trivial, trivial, trivial, trivial⟩, ⟨rfl, ⟨(fun e => opD_allocX zt57 rfl rfl), (fun e => opD_allocX zt57 rfl rfl), (fun e => opD_allocX zt57 rfl rfl), trivial⟩⟩, ?_⟩
      refine aw_keep [(6, _), (19, _), (14, _), (5, _), (4, _), (3, _), (2, _), (0, _), (1, _)] ⟨lg (lx lz), lg (lx (ls rfl (ls rfl (ls rfl (ls rfl (ls rfl (ls rfl (ls rfl (ls rfl (ls rfl (ls rfl oz))))))))))), lg (lx (ls rfl (ls rfl (ls rfl (ls rfl (ls rfl (ls rfl (ls rfl (ls rfl (ls rfl (ls rfl (os rfl oz)))))))))))), lg (lx (ls rfl (ls rfl (ls rfl (ls rfl (ls rfl (ls rfl (ls rfl (ls rfl (ls rfl (ls rfl (os rfl (os rfl oz))))))))))))), lg (lx (ls rfl (ls rfl (ls rfl (ls rfl (ls rfl (ls rfl (ls rfl (ls rfl (ls rfl (ls rfl (os rfl (os rfl (os rfl oz)))))))))))))), lg (lx (ls rfl (ls rfl (ls rfl (ls rfl (ls rfl (ls rfl (ls rfl (ls rfl (ls rfl (ls rfl (os rfl (os rfl (os rfl (os rfl oz))))))))))))))), lg (lx (ls rfl (ls rfl (ls rfl (ls rfl (ls rfl (ls rfl (ls rfl (ls rfl (ls rfl (ls rfl (os rfl (os rfl (os rfl (os rfl (os rfl oz)))))))))))))))), lg (lx (ls rfl (ls rfl (ls rfl (ls rfl (ls rfl (ls rfl (ls rfl (ls rfl (ls rfl (ls rfl (os rfl (os rfl (os rfl (os rfl (os rfl (os rfl oz))))))))))))))))), lg (lx (ls rfl (ls rfl (ls rfl (ls rfl (ls rfl (ls rfl (ls rfl (ls rfl (ls rfl (ls rfl (os rfl (os rfl (os rfl (os rfl (os rfl (os rfl (os rfl oz)))))))))))))))))), trivial⟩ ?_
      refine aw_seq ?_
      refine aw_seq ?_
      refine aw_region (by decide) ?_
      refine rts _ rfl ((by first | exact opD_fieldAddr fo57_1 oz | exact opD_fieldAddr_el fo57_1 oz)) ?_
      refine rts _ rfl ((by first | exact opD_load_one ag55 lz (by first | exact loc_get rfl | exact old_get (by assumption)) rfl | exact opD_load_el_one ag55 lz (by first | assumption | simp) rfl)) ?_
      refine rts _ rfl (opD_len_sl Go.Proofs.Tryd.underlying55 lz) ?_
      refine rts _ rfl (opD_gtr lz (ev_const _ _)) ?_
      refine .nil ?_
      refine aw_keep [(43, _), (6, _), (19, _), (14, _), (5, _), (4, _), (3, _), (2, _), (0, _), (1, _)] ⟨lg lz, lg (ls rfl (ls rfl (ls rfl (ls rfl oz)))), lg (ls rfl (ls rfl (ls rfl (ls rfl (os rfl oz))))), lg (ls rfl (ls rfl (ls rfl (ls rfl (os rfl (os rfl oz)))))), lg (ls rfl (ls rfl (ls rfl (ls rfl (os rfl (os rfl (os rfl oz))))))), lg (ls rfl (ls rfl (ls rfl (ls rfl (os rfl (os rfl (os rfl (os rfl oz)))))))), lg (ls rfl (ls rfl (ls rfl (ls rfl (os rfl (os rfl (os rfl (os rfl (os rfl oz))))))))), lg (ls rfl (ls rfl (ls rfl (ls rfl (os rfl (os rfl (os rfl (os rfl (os rfl (os rfl oz)))))))))), lg (ls rfl (ls rfl (ls rfl (ls rfl (os rfl (os rfl (os rfl (os rfl (os rfl (os rfl (os rfl oz))))))))))), lg (ls rfl (ls rfl (ls rfl (ls rfl (os rfl (os rfl (os rfl (os rfl (os rfl (os rfl (os rfl (os rfl oz)))))))))))), trivial⟩ ?_
      refine aw_cond _ oz (fun hc => ?_) (fun hc => ?_)
      · skip
        exfalso; have := of_decide_eq_true hc; simp at this; omega
      · skip
        refine aw_skip ?_
        refine aw_keep [(43, _), (6, _), (19, _), (14, _), (5, _), (4, _), (3, _), (2, _), (0, _), (1, _)] ⟨lg oz, lg (os rfl oz), lg (os rfl (os rfl oz)), lg (os rfl (os rfl (os rfl oz))), lg (os rfl (os rfl (os rfl (os rfl oz)))), lg (os rfl (os rfl (os rfl (os rfl (os rfl oz))))), lg (os rfl (os rfl (os rfl (os rfl (os rfl (os rfl oz)))))), lg (os rfl (os rfl (os rfl (os rfl (os rfl (os rfl (os rfl oz))))))), lg (os rfl (os rfl (os rfl (os rfl (os rfl (os rfl (os rfl (os rfl oz)))))))), lg (os rfl (os rfl (os rfl (os rfl (os rfl (os rfl (os rfl (os rfl (os rfl oz))))))))), trivial⟩ ?_
        refine aw_seq ?_
        refine aw_region (by decide) ?_
        refine rts _ rfl ((by first | exact opD_load_aggX (qs := [_, _]) ag57 sz57 (os rfl oz) (by first | exact loc_get rfl | exact old_get (by assumption)) (by simp) rfl | exact opD_load_el_aggX (qs := [_, _]) ag57 sz57 (os rfl oz) (by first | assumption | simp) (by decide) rfl)) ?_
        refine rts _ rfl (opD_storeA sz57 (ls rfl (os rfl (os rfl (os rfl (os rfl (os rfl oz)))))) lz (by repeat (first | exact ones_nil | refine ones_cons (by first | exact one_pl rfl | exact one_sl _ _ _ _ | exact one_ptr _ _) ?_)) rfl rfl (Nat.le_of_ble_eq_true rfl) (List.cons_ne_nil _ _) (by repeat (first | exact bnd_nil | refine bnd_cons (by first | exact pl_bnd _ _ _ | exact sl_bnd (kL_bnd _ _ _) | exact sl_bnd (kI_bnd _ _ _ _) | exact ptr_bnd _ (by omega) | exact any_bnd _ _ | exact sl_own_bnd (kL_bnd _ _ _) (by omega) | exact sl_own_bnd (kL_bnd _ _ _) (by simp only [List.length_append, List.length_cons, List.length_nil]; omega)) ?_)) (by simp only [List.nil_append, List.cons_append, List.map_cons, List.map_nil, List.set_cons_zero, List.set_cons_succ, List.take_succ_cons, List.take_zero, List.drop_succ_cons, List.drop_zero]; rfl) (by simp only [List.nil_append, List.cons_append, List.map_cons, List.map_nil, List.set_cons_zero, List.set_cons_succ, List.take_succ_cons, List.take_zero, List.drop_succ_cons, List.drop_zero]; rfl)) ?_
        refine rts _ rfl (opD_assign (ev_const _ _)) ?_
        refine .nil ?_
        refine aw_keep [(5, _), (43, _), (6, _), (19, _), (14, _), (4, _), (3, _), (2, _), (0, _), (1, _)] ⟨lg lz, lg (ls rfl (lx (ls rfl oz))), lg (ls rfl (lx (ls rfl (os rfl oz)))), lg (ls rfl (lx (ls rfl (os rfl (os rfl oz))))), lg (ls rfl (lx (ls rfl (os rfl (os rfl (os rfl oz)))))), lg (ls rfl (lx (ls rfl (os rfl (os rfl (os rfl (os rfl (os rfl oz)))))))), lg (ls rfl (lx (ls rfl (os rfl (os rfl (os rfl (os rfl (os rfl (os rfl oz))))))))), lg (ls rfl (lx (ls rfl (os rfl (os rfl (os rfl (os rfl (os rfl (os rfl (os rfl oz)))))))))), lg (ls rfl (lx (ls rfl (os rfl (os rfl (os rfl (os rfl (os rfl (os rfl (os rfl (os rfl oz))))))))))), lg (ls rfl (lx (ls rfl (os rfl (os rfl (os rfl (os rfl (os rfl (os rfl (os rfl (os rfl (os rfl oz)))))))))))), trivial⟩ ?_
        refine aw_ret ?_
        exact done_ext (.inr rfl) ((res_c1 (B := ⟨57, [_, _]⟩) rfl ag57 sz57 (eg (os rfl (os rfl (os rfl (os rfl (os rfl oz)))))) (loc_get (i := 2) rfl) rfl (eg oz)).le (tup_le ⟨agg_le (ps := [_, _]) (qs := [_, _]) ⟨Pd.le_refl _, sl_le _ _ _ _, trivial⟩, Pd.le_refl _, trivial⟩)) (tup_bnd (bnd_cons (lgP_bnd _ _ _ _) (bnd_cons (pl_bnd _ _ _) bnd_nil)))


def x1 : Ln := ⟨1, 7, 2, 12, ⟨#[97]⟩⟩
theorem x1_ok : LnOk x1 := ⟨by decide, by decide, ⟨by decide, by decide⟩, by decide, by decide⟩
theorem x1_lg : LgOk 0 [x1] := ⟨by decide, by decide, fun _ => rfl, fun i x hi => by
  cases i with
  | zero => simp at hi; subst hi; exact ⟨by decide, rfl⟩
  | succ i => simp at hi⟩
theorem nil_lg : LgOk 0 [] := ⟨by decide, by decide, fun _ => rfl, fun i x hi => by simp at hi⟩
theorem enc1 : encE 0 [x1] = [0, 1, 7, 2, 12, 1, 97] := by
  rw [encE_t x1_lg]
  simp only [encL, lnB, List.flatMap_cons, List.flatMap_nil, List.length_cons, List.length_nil]
  rw [vb_small (n := 0) (by decide), vb_small (n := 0 + 1) (by decide), vb_small (n := x1.who) (by decide), vb_small (n := x1.code) (by decide), vb_small (n := x1.key.size) (by decide)]
  decide
theorem dec1 : decR [0, 1, 7, 2, 12, 1, 97] = some (0, [x1]) := by
  have h1 : rdNum 4611686018427387904 [0, 1, 7, 2, 12, 1, 97] false = (0, [1, 7, 2, 12, 1, 97], false) := by decide +kernel
  have h2 : rdNum 32 [1, 7, 2, 12, 1, 97] false = (1, [7, 2, 12, 1, 97], false) := by decide +kernel
  have h3 : decGo 0 1 0 [] [7, 2, 12, 1, 97] false = ([x1], [], false) := by decide +kernel
  simp only [decR, h1, h2, h3]
  rw [if_pos]
  exact ⟨rfl, lgOk_t x1_lg⟩
theorem dec0 : decR [] = none := by
  have h1 : rdNum 4611686018427387904 [] false = (0, [], true) := by decide +kernel
  have h2 : rdNum 32 [] true = (0, [], true) := by decide +kernel
  simp only [decR, h1, h2]
  rw [if_neg]
  rintro ⟨h3, _⟩
  simp [decGo, rdDone] at h3
theorem s_add : Pure Go.Proofs.Tryd.prog 35 [lgP 0 [], lnP ⟨0, 7, 2, 12, ⟨#[97]⟩⟩] (tup [lgP 0 [x1], pl .nilIface]) := lg_add_small (x := ⟨0, 7, 2, 12, ⟨#[97]⟩⟩) nil_lg (by decide) (fun y hy => nomatch hy) ⟨by decide, by decide, ⟨by decide, by decide⟩, by decide, by decide⟩ (by decide)
theorem s_enc : Pure Go.Proofs.Tryd.prog 37 [lgP 0 [x1]] (tup [sl (kI .u8) none none [0, 1, 7, 2, 12, 1, 97], pl .nilIface]) := by
  have h := lg_encode (d := 0) (l := [x1]) (by decide) (by decide) (fun y hy => by rw [List.mem_singleton.1 hy]; exact x1_ok)
  rw [enc1, lgE_t x1_lg] at h
  exact h
theorem s_dec : Pure Go.Proofs.Tryd.prog 38 [sl (kI .u8) none none [0, 1, 7, 2, 12, 1, 97]] (tup [lgP 0 [x1], pl .nilIface]) := by
  have h := lg_decode (l := [0, 1, 7, 2, 12, 1, 97]) (by unfold Bts; decide) (by decide)
  unfold decLg decE at h
  rw [dec1] at h
  exact h
theorem s_dec0 : Pure Go.Proofs.Tryd.prog 38 [sl (kI .u8) none none []] (tup [lgP 0 [], pl (errV (some 3))]) := by
  have h := lg_decode (l := []) (by unfold Bts; decide) (by decide)
  unfold decLg decE at h
  rw [dec0] at h
  exact h

set_option maxRecDepth 100000 in
set_option maxHeartbeats 1000000 in
theorem sure30 {s : St} (hst : StGV s) : AC Go.Proofs.Tryd.prog 39 [] s (pl (.bool true)) s := by
  refine ac_of_aw s.boxes.length s.fr.length Go.Proofs.Tryd.func39 rfl (by simp [Go.Proofs.Tryd.ntmps39]) ?_
  refine aw_ext0 ?_
  refine aw_keep [] trivial ?_
  refine aw_seq ?_
  refine aw_region (by decide) ?_
  refine rts _ rfl (opD_assign (ev_const _ _)) ?_
  refine .nil ?_
  refine aw_keep [(0, _)] ⟨lg lz, trivial⟩ ?_
  refine aw_seq ?_
  refine aw_region (by decide) ?_
  refine rts _ rfl (opD_build_struct (rs := [_, _]) Go.Proofs.Tryd.underlying57 pt57 zt57 parts_nil rfl) ?_
  refine rts _ rfl (opD_build_struct (rs := [_, _, _, _, _]) Go.Proofs.Tryd.underlying63 pt63 zt63 (parts_cons (cells1 (ev_const _ _) (by first | exact one_pl rfl | exact one_sl _ _ _ _ | exact one_ptr _ _ | exact one_ifc _ _)) (parts_cons (cells1 (ev_const _ _) (by first | exact one_pl rfl | exact one_sl _ _ _ _ | exact one_ptr _ _ | exact one_ifc _ _)) (parts_cons (cells1 (ev_const _ _) (by first | exact one_pl rfl | exact one_sl _ _ _ _ | exact one_ptr _ _ | exact one_ifc _ _)) (parts_cons (cells1 (ev_const _ _) (by first | exact one_pl rfl | exact one_sl _ _ _ _ | exact one_ptr _ _ | exact one_ifc _ _)) parts_nil)))) rfl) ?_
  refine rts _ rfl (opD_pure ht35 (s_add) ⟨(le_of_eq (ls rfl lz)).trans (agg_le (ps := [_, _]) (qs := [_, _]) ⟨le_of_eq rfl, le_nil rfl, trivial⟩), le_of_eq lz, trivial⟩) ?_
  refine rts _ rfl (opD_move lz) ?_
  refine rts _ rfl (opD_extract lz rfl) ?_
  refine rts _ rfl (opD_extract (ls rfl lz) rfl) ?_
  refine rts _ rfl (opD_allocX zt57 (by first | exact List.length_nil | (simp only [List.length_cons, List.length_nil, Nat.zero_add, Nat.reduceAdd]; rfl)) (by simp only [List.nil_append, List.cons_append, List.map_cons, List.map_nil, List.set_cons_zero, List.set_cons_succ, List.take_succ_cons, List.take_zero, List.drop_succ_cons, List.drop_zero]; rfl)) ?_
  refine rts _ rfl (opD_storeA sz57 lz (ls rfl (ls rfl lz)) (by repeat (first | exact ones_nil | refine ones_cons (by first | exact one_pl rfl | exact one_sl _ _ _ _ | exact one_ptr _ _) ?_)) rfl rfl (Nat.le_of_ble_eq_true rfl) (List.cons_ne_nil _ _) (by repeat (first | exact bnd_nil | refine bnd_cons (by first | exact pl_bnd _ _ _ | exact sl_bnd (kL_bnd _ _ _) | exact sl_bnd (kI_bnd _ _ _ _) | exact ptr_bnd _ (by omega) | exact any_bnd _ _ | exact sl_own_bnd (kL_bnd _ _ _) (by omega) | exact sl_own_bnd (kL_bnd _ _ _) (by simp only [List.length_append, List.length_cons, List.length_nil]; omega)) ?_)) (by simp only [List.nil_append, List.cons_append, List.map_cons, List.map_nil, List.set_cons_zero, List.set_cons_succ, List.take_succ_cons, List.take_zero, List.drop_succ_cons, List.drop_zero]; rfl) (by simp only [List.nil_append, List.cons_append, List.map_cons, List.map_nil, List.set_cons_zero, List.set_cons_succ, List.take_succ_cons, List.take_zero, List.drop_succ_cons, List.drop_zero]; rfl)) ?_
  refine rts _ rfl (opD_assign (lx (ls rfl lz))) ?_
  refine .nil ?_
  refine aw_keep [(2, _), (1, _), (0, _)] ⟨lg lz, lg (ls rfl (lx lz)), lg (ls rfl (lx (ls rfl (ls rfl (ls rfl (ls rfl (ls rfl (ls rfl (ls rfl oz))))))))), trivial⟩ ?_
  refine aw_seq ?_
  refine aw_region (by decide) ?_
  refine rts _ rfl ((by first | exact opD_load_aggX (qs := [_, _]) ag57 sz57 (os rfl oz) (by first | exact loc_get rfl | exact old_get (by assumption)) (by simp) rfl | exact opD_load_el_aggX (qs := [_, _]) ag57 sz57 (os rfl oz) (by first | assumption | simp) (by decide) rfl)) ?_
  refine rts _ rfl (opD_pure ht37 (s_enc) ⟨le_of_eq lz, trivial⟩) ?_
  refine rts _ rfl (opD_move lz) ?_
  refine rts _ rfl (opD_extract lz rfl) ?_
  refine rts _ rfl (opD_extract (ls rfl lz) rfl) ?_
  refine rts _ rfl (opD_assign (ls rfl lz)) ?_
  refine rts _ rfl (opD_assign (ls rfl lz)) ?_
  refine .nil ?_
  refine aw_keep [(4, _), (3, _), (2, _), (1, _), (0, _)] ⟨lg lz, lg (ls rfl lz), lg (ls rfl (ls rfl (ls rfl (ls rfl (ls rfl (ls rfl (ls rfl oz))))))), lg (ls rfl (ls rfl (ls rfl (ls rfl (ls rfl (ls rfl (ls rfl (os rfl oz)))))))), lg (ls rfl (ls rfl (ls rfl (ls rfl (ls rfl (ls rfl (ls rfl (os rfl (os rfl oz))))))))), trivial⟩ ?_
  refine aw_seq ?_
  refine aw_region (by decide) ?_
  refine rts _ rfl (opD_move (os rfl oz)) ?_
  refine rts _ rfl (opD_pure ht38 (s_dec) ⟨le_sl lz, trivial⟩) ?_
  refine rts _ rfl (opD_move lz) ?_
  refine rts _ rfl (opD_extract lz rfl) ?_
  refine rts _ rfl (opD_extract (ls rfl lz) rfl) ?_
  refine rts _ rfl (opD_allocX zt57 (by first | exact List.length_nil | (simp only [List.length_cons, List.length_nil, Nat.zero_add, Nat.reduceAdd]; rfl)) (by simp only [List.nil_append, List.cons_append, List.map_cons, List.map_nil, List.set_cons_zero, List.set_cons_succ, List.take_succ_cons, List.take_zero, List.drop_succ_cons, List.drop_zero]; rfl)) ?_
  refine rts _ rfl (opD_storeA sz57 lz (ls rfl (ls rfl lz)) (by repeat (first | exact ones_nil | refine ones_cons (by first | exact one_pl rfl | exact one_sl _ _ _ _ | exact one_ptr _ _) ?_)) rfl rfl (Nat.le_of_ble_eq_true rfl) (List.cons_ne_nil _ _) (by repeat (first | exact bnd_nil | refine bnd_cons (by first | exact pl_bnd _ _ _ | exact sl_bnd (kL_bnd _ _ _) | exact sl_bnd (kI_bnd _ _ _ _) | exact ptr_bnd _ (by omega) | exact any_bnd _ _ | exact sl_own_bnd (kL_bnd _ _ _) (by omega) | exact sl_own_bnd (kL_bnd _ _ _) (by simp only [List.length_append, List.length_cons, List.length_nil]; omega)) ?_)) (by simp only [List.nil_append, List.cons_append, List.map_cons, List.map_nil, List.set_cons_zero, List.set_cons_succ, List.take_succ_cons, List.take_zero, List.drop_succ_cons, List.drop_zero]; rfl) (by simp only [List.nil_append, List.cons_append, List.map_cons, List.map_nil, List.set_cons_zero, List.set_cons_succ, List.take_succ_cons, List.take_zero, List.drop_succ_cons, List.drop_zero]; rfl)) ?_
  refine rts _ rfl (opD_assign (lx (ls rfl lz))) ?_
  refine .nil ?_
  refine aw_keep [(6, _), (5, _), (4, _), (3, _), (2, _), (1, _), (0, _)] ⟨lg lz, lg (ls rfl (lx lz)), lg (ls rfl (lx (ls rfl (ls rfl (ls rfl (ls rfl (ls rfl (ls rfl oz)))))))), lg (ls rfl (lx (ls rfl (ls rfl (ls rfl (ls rfl (ls rfl (ls rfl (os rfl oz))))))))), lg (ls rfl (lx (ls rfl (ls rfl (ls rfl (ls rfl (ls rfl (ls rfl (os rfl (os rfl oz)))))))))), lg (ls rfl (lx (ls rfl (ls rfl (ls rfl (ls rfl (ls rfl (ls rfl (os rfl (os rfl (os rfl oz))))))))))), lg (ls rfl (lx (ls rfl (ls rfl (ls rfl (ls rfl (ls rfl (ls rfl (os rfl (os rfl (os rfl (os rfl oz)))))))))))), trivial⟩ ?_
  refine aw_seq ?_
  refine aw_region (by decide) ?_
  refine rts _ rfl (opD_pure ht38 (s_dec0) ⟨le_nil (ev_const _ _), trivial⟩) ?_
  refine rts _ rfl (opD_move lz) ?_
  refine rts _ rfl (opD_extract lz rfl) ?_
  refine rts _ rfl (opD_extract (ls rfl lz) rfl) ?_
  refine rts _ rfl (opD_allocX zt57 (by first | exact List.length_nil | (simp only [List.length_cons, List.length_nil, Nat.zero_add, Nat.reduceAdd]; rfl)) (by simp only [List.nil_append, List.cons_append, List.map_cons, List.map_nil, List.set_cons_zero, List.set_cons_succ, List.take_succ_cons, List.take_zero, List.drop_succ_cons, List.drop_zero]; rfl)) ?_
  refine rts _ rfl (opD_storeA sz57 lz (ls rfl (ls rfl lz)) (by repeat (first | exact ones_nil | refine ones_cons (by first | exact one_pl rfl | exact one_sl _ _ _ _ | exact one_ptr _ _) ?_)) rfl rfl (Nat.le_of_ble_eq_true rfl) (List.cons_ne_nil _ _) (by repeat (first | exact bnd_nil | refine bnd_cons (by first | exact pl_bnd _ _ _ | exact sl_bnd (kL_bnd _ _ _) | exact sl_bnd (kI_bnd _ _ _ _) | exact ptr_bnd _ (by omega) | exact any_bnd _ _ | exact sl_own_bnd (kL_bnd _ _ _) (by omega) | exact sl_own_bnd (kL_bnd _ _ _) (by simp only [List.length_append, List.length_cons, List.length_nil]; omega)) ?_)) (by simp only [List.nil_append, List.cons_append, List.map_cons, List.map_nil, List.set_cons_zero, List.set_cons_succ, List.take_succ_cons, List.take_zero, List.drop_succ_cons, List.drop_zero]; rfl) (by simp only [List.nil_append, List.cons_append, List.map_cons, List.map_nil, List.set_cons_zero, List.set_cons_succ, List.take_succ_cons, List.take_zero, List.drop_succ_cons, List.drop_zero]; rfl)) ?_
  refine rts _ rfl (opD_assign (lx (ls rfl lz))) ?_
  refine .nil ?_
  refine aw_keep [(8, _), (6, _), (5, _), (4, _), (3, _), (2, _), (1, _), (0, _)] ⟨lg lz, lg (ls rfl (lx (ls rfl (ls rfl (ls rfl (ls rfl (ls rfl oz))))))), lg (ls rfl (lx (ls rfl (ls rfl (ls rfl (ls rfl (ls rfl (os rfl oz)))))))), lg (ls rfl (lx (ls rfl (ls rfl (ls rfl (ls rfl (ls rfl (os rfl (os rfl oz))))))))), lg (ls rfl (lx (ls rfl (ls rfl (ls rfl (ls rfl (ls rfl (os rfl (os rfl (os rfl oz)))))))))), lg (ls rfl (lx (ls rfl (ls rfl (ls rfl (ls rfl (ls rfl (os rfl (os rfl (os rfl (os rfl oz))))))))))), lg (ls rfl (lx (ls rfl (ls rfl (ls rfl (ls rfl (ls rfl (os rfl (os rfl (os rfl (os rfl (os rfl oz)))))))))))), lg (ls rfl (lx (ls rfl (ls rfl (ls rfl (ls rfl (ls rfl (os rfl (os rfl (os rfl (os rfl (os rfl (os rfl oz))))))))))))), trivial⟩ ?_
  refine aw_seq ?_
  refine aw_region (by decide) ?_
  refine rts _ rfl (opD_move (os rfl (os rfl (os rfl (os rfl (os rfl oz)))))) ?_
  refine rts _ rfl (opD_bin (r := .bool true) lz (ev_const _ _) (fun w => by simp [go_sem]) (fun w => by simp [go_sem])) ?_
  refine rts _ rfl (opD_move lz) ?_
  refine rtg _ rfl lz (fun hg5_3 => by
      have hg5_3' := hg5_3
      try simp only [beq_iff_eq, decide_eq_true_eq, decide_eq_false_iff_not, Bool.and_eq_true, Bool.or_eq_true, Bool.or_eq_false_iff, Bool.and_eq_false_iff] at hg5_3'
      exact opD_move (ls rfl (ls rfl (ls rfl (os rfl (os rfl (os rfl oz))))))) ?_
  refine rtg _ rfl (ls rfl lz) (fun hg5_4 => by
      have hg5_4' := hg5_4
      try simp only [beq_iff_eq, decide_eq_true_eq, decide_eq_false_iff_not, Bool.and_eq_true, Bool.or_eq_true, Bool.or_eq_false_iff, Bool.and_eq_false_iff] at hg5_4'
      exact opD_bin (r := .bool true) (lz.trans (pif_pos hg5_4)) (ev_const _ _) (fun w => by simp [go_sem]) (fun w => by simp [go_sem])) ?_
  refine rts _ rfl (opD_and (ls rfl (ls rfl lz)) lz) ?_
  refine rts _ rfl (opD_move lz) ?_
  refine rtg _ rfl lz (fun hg5_7 => by
      have hg5_7' := hg5_7
      try simp only [beq_iff_eq, decide_eq_true_eq, decide_eq_false_iff_not, Bool.and_eq_true, Bool.or_eq_true, Bool.or_eq_false_iff, Bool.and_eq_false_iff] at hg5_7'
      exact opD_move (ls rfl (ls rfl (ls rfl (ls rfl (ls rfl (ls rfl (ls rfl (os rfl oz))))))))) ?_
  refine rtg _ rfl (ls rfl lz) (fun hg5_8 => by
      have hg5_8' := hg5_8
      try simp only [beq_iff_eq, decide_eq_true_eq, decide_eq_false_iff_not, Bool.and_eq_true, Bool.or_eq_true, Bool.or_eq_false_iff, Bool.and_eq_false_iff] at hg5_8'
      exact opD_bin (r := .bool true) (lz.trans (pif_pos hg5_8)) (ev_const _ _) (fun w => by simp [go_sem]) (fun w => by simp [go_sem])) ?_
  refine rts _ rfl (opD_and (ls rfl (ls rfl lz)) lz) ?_
  refine rts _ rfl (opD_move lz) ?_
  refine rtg _ rfl lz (fun hg5_11 => by
      have hg5_11' := hg5_11
      try simp only [beq_iff_eq, decide_eq_true_eq, decide_eq_false_iff_not, Bool.and_eq_true, Bool.or_eq_true, Bool.or_eq_false_iff, Bool.and_eq_false_iff] at hg5_11'
      exact (by first | exact opD_fieldAddr fo57_1 (ls rfl (ls rfl (ls rfl (ls rfl (ls rfl (ls rfl (ls rfl (ls rfl (ls rfl (ls rfl (ls rfl (os rfl (os rfl oz))))))))))))) | exact opD_fieldAddr_el fo57_1 (ls rfl (ls rfl (ls rfl (ls rfl (ls rfl (ls rfl (ls rfl (ls rfl (ls rfl (ls rfl (ls rfl (os rfl (os rfl oz))))))))))))))) ?_
  refine rtg _ rfl (ls rfl lz) (fun hg5_12 => by
      have hg5_12' := hg5_12
      try simp only [beq_iff_eq, decide_eq_true_eq, decide_eq_false_iff_not, Bool.and_eq_true, Bool.or_eq_true, Bool.or_eq_false_iff, Bool.and_eq_false_iff] at hg5_12'
      exact (by first | exact opD_load_one ag55 (lz.trans (pif_pos hg5_12)) (by first | exact loc_get rfl | exact old_get (by assumption) | exact hB) rfl | exact opD_load_el_one ag55 (lz.trans (pif_pos hg5_12)) (by first | assumption | simp) rfl)) ?_
  refine rtg _ rfl (ls rfl (ls rfl lz)) (fun hg5_13 => by
      have hg5_13' := hg5_13
      try simp only [beq_iff_eq, decide_eq_true_eq, decide_eq_false_iff_not, Bool.and_eq_true, Bool.or_eq_true, Bool.or_eq_false_iff, Bool.and_eq_false_iff] at hg5_13'
      exact opD_len_sl Go.Proofs.Tryd.underlying55 (lz.trans (pif_pos hg5_13))) ?_
  refine rtg _ rfl (ls rfl (ls rfl (ls rfl lz))) (fun hg5_14 => by
      have hg5_14' := hg5_14
      try simp only [beq_iff_eq, decide_eq_true_eq, decide_eq_false_iff_not, Bool.and_eq_true, Bool.or_eq_true, Bool.or_eq_false_iff, Bool.and_eq_false_iff] at hg5_14'
      exact opD_eql (lz.trans (pif_pos hg5_14)) (ev_const _ _)) ?_
  refine rts _ rfl (opD_and (ls rfl (ls rfl (ls rfl (ls rfl lz)))) lz) ?_
  refine rts _ rfl (opD_move lz) ?_
  refine rtg _ rfl lz (fun hg5_17 => by
      have hg5_17' := hg5_17
      try simp only [beq_iff_eq, decide_eq_true_eq, decide_eq_false_iff_not, Bool.and_eq_true, Bool.or_eq_true, Bool.or_eq_false_iff, Bool.and_eq_false_iff] at hg5_17'
      exact (by first | exact opD_fieldAddr fo57_1 (ls rfl (ls rfl (ls rfl (ls rfl (ls rfl (ls rfl (ls rfl (ls rfl (ls rfl (ls rfl (ls rfl (ls rfl (ls rfl (ls rfl (ls rfl (ls rfl (ls rfl (os rfl (os rfl oz))))))))))))))))))) | exact opD_fieldAddr_el fo57_1 (ls rfl (ls rfl (ls rfl (ls rfl (ls rfl (ls rfl (ls rfl (ls rfl (ls rfl (ls rfl (ls rfl (ls rfl (ls rfl (ls rfl (ls rfl (ls rfl (ls rfl (os rfl (os rfl oz))))))))))))))))))))) ?_
  refine rtg _ rfl (ls rfl lz) (fun hg5_18 => by
      have hg5_18' := hg5_18
      try simp only [beq_iff_eq, decide_eq_true_eq, decide_eq_false_iff_not, Bool.and_eq_true, Bool.or_eq_true, Bool.or_eq_false_iff, Bool.and_eq_false_iff] at hg5_18'
      exact (by first | exact opD_load_one ag55 (lz.trans (pif_pos hg5_18)) (by first | exact loc_get rfl | exact old_get (by assumption) | exact hB) rfl | exact opD_load_el_one ag55 (lz.trans (pif_pos hg5_18)) (by first | assumption | simp) rfl)) ?_
  refine rtg _ rfl (ls rfl (ls rfl lz)) (fun hg5_19 => by
      have hg5_19' := hg5_19
      try simp only [beq_iff_eq, decide_eq_true_eq, decide_eq_false_iff_not, Bool.and_eq_true, Bool.or_eq_true, Bool.or_eq_false_iff, Bool.and_eq_false_iff] at hg5_19'
      exact opD_indexAddr_sl (i := 0) Go.Proofs.Tryd.underlying55 sz63 (lz.trans (pif_pos hg5_19)) (ev_const _ _) rfl (by decide)) ?_
  refine rtg _ rfl (ls rfl (ls rfl (ls rfl lz))) (fun hg5_20 => by
      have hg5_20' := hg5_20
      try simp only [beq_iff_eq, decide_eq_true_eq, decide_eq_false_iff_not, Bool.and_eq_true, Bool.or_eq_true, Bool.or_eq_false_iff, Bool.and_eq_false_iff] at hg5_20'
      exact opD_load_el_aggX (qs := [_, _, _, _, _]) ag63 sz63 (lz.trans (pif_pos hg5_20)) (List.getElem?_cons_zero) (by decide) rfl) ?_
  refine rtg _ rfl (ls rfl (ls rfl (ls rfl (ls rfl lz)))) (fun hg5_21 => by
      have hg5_21' := hg5_21
      try simp only [beq_iff_eq, decide_eq_true_eq, decide_eq_false_iff_not, Bool.and_eq_true, Bool.or_eq_true, Bool.or_eq_false_iff, Bool.and_eq_false_iff] at hg5_21'
      exact opD_build_struct (rs := [_, _, _, _, _]) Go.Proofs.Tryd.underlying63 pt63 zt63 (parts_cons (cells1 (ev_const _ _) (by first | exact one_pl rfl | exact one_sl _ _ _ _ | exact one_ptr _ _ | exact one_ifc _ _)) (parts_cons (cells1 (ev_const _ _) (by first | exact one_pl rfl | exact one_sl _ _ _ _ | exact one_ptr _ _ | exact one_ifc _ _)) (parts_cons (cells1 (ev_const _ _) (by first | exact one_pl rfl | exact one_sl _ _ _ _ | exact one_ptr _ _ | exact one_ifc _ _)) (parts_cons (cells1 (ev_const _ _) (by first | exact one_pl rfl | exact one_sl _ _ _ _ | exact one_ptr _ _ | exact one_ifc _ _)) (parts_cons (cells1 (ev_const _ _) (by first | exact one_pl rfl | exact one_sl _ _ _ _ | exact one_ptr _ _ | exact one_ifc _ _)) parts_nil))))) rfl) ?_
  refine rtg _ rfl (ls rfl (ls rfl (ls rfl (ls rfl (ls rfl lz))))) (fun hg5_22 => by
      have hg5_22' := hg5_22
      try simp only [beq_iff_eq, decide_eq_true_eq, decide_eq_false_iff_not, Bool.and_eq_true, Bool.or_eq_true, Bool.or_eq_false_iff, Bool.and_eq_false_iff] at hg5_22'
      exact opD_binA (lnV x1) (lnV x1) ((ls rfl lz).trans (pif_pos hg5_22)) (lz.trans (pif_pos hg5_22)) (fun w => ln_guard _ _ _ _ _ w) (fun w => (ln_cmp _ _ w).1)) ?_
  refine rts _ rfl (opD_and (ls rfl (ls rfl (ls rfl (ls rfl (ls rfl (ls rfl lz)))))) lz) ?_
  refine rts _ rfl (opD_move lz) ?_
  refine rtg _ rfl lz (fun hg5_25 => by
      have hg5_25' := hg5_25
      try simp only [beq_iff_eq, decide_eq_true_eq, decide_eq_false_iff_not, Bool.and_eq_true, Bool.or_eq_true, Bool.or_eq_false_iff, Bool.and_eq_false_iff] at hg5_25'
      exact opD_move (ls rfl (ls rfl (ls rfl (ls rfl (ls rfl (ls rfl (ls rfl (ls rfl (ls rfl (ls rfl (ls rfl (ls rfl (ls rfl (ls rfl (ls rfl (ls rfl (ls rfl (ls rfl (ls rfl (ls rfl (ls rfl (ls rfl (ls rfl (ls rfl (ls rfl oz)))))))))))))))))))))))))) ?_
  refine rtg _ rfl (ls rfl lz) (fun hg5_26 => by
      have hg5_26' := hg5_26
      try simp only [beq_iff_eq, decide_eq_true_eq, decide_eq_false_iff_not, Bool.and_eq_true, Bool.or_eq_true, Bool.or_eq_false_iff, Bool.and_eq_false_iff] at hg5_26'
      exact opD_call ht46 (num30 (o := some 3) hst) ⟨le_of_eq (lz.trans (pif_pos hg5_26)), trivial⟩) ?_
  refine rtg _ rfl (ls rfl (ls rfl lz)) (fun hg5_27 => by
      have hg5_27' := hg5_27
      try simp only [beq_iff_eq, decide_eq_true_eq, decide_eq_false_iff_not, Bool.and_eq_true, Bool.or_eq_true, Bool.or_eq_false_iff, Bool.and_eq_false_iff] at hg5_27'
      exact opD_eql (lz.trans (pif_pos hg5_27)) (ev_const _ _)) ?_
  refine rts _ rfl (opD_and (ls rfl (ls rfl (ls rfl lz))) lz) ?_
  refine rts _ rfl (opD_move lz) ?_
  refine rtg _ rfl lz (fun hg5_30 => by
      have hg5_30' := hg5_30
      try simp only [beq_iff_eq, decide_eq_true_eq, decide_eq_false_iff_not, Bool.and_eq_true, Bool.or_eq_true, Bool.or_eq_false_iff, Bool.and_eq_false_iff] at hg5_30'
      exact opD_move (ls rfl (ls rfl (ls rfl (ls rfl (ls rfl (ls rfl (ls rfl (ls rfl (ls rfl (ls rfl (ls rfl (ls rfl (ls rfl (ls rfl (ls rfl (ls rfl (ls rfl (ls rfl (ls rfl (ls rfl (ls rfl (ls rfl (ls rfl (ls rfl (ls rfl (ls rfl (ls rfl (ls rfl (ls rfl (ls rfl (os rfl (os rfl (os rfl (os rfl oz))))))))))))))))))))))))))))))))))) ?_
  refine rtg _ rfl (ls rfl lz) (fun hg5_31 => by
      have hg5_31' := hg5_31
      try simp only [beq_iff_eq, decide_eq_true_eq, decide_eq_false_iff_not, Bool.and_eq_true, Bool.or_eq_true, Bool.or_eq_false_iff, Bool.and_eq_false_iff] at hg5_31'
      exact opD_len_sl Go.Proofs.Tryd.underlying23 (lz.trans (pif_pos hg5_31))) ?_
  refine rtg _ rfl (ls rfl (ls rfl lz)) (fun hg5_32 => by
      have hg5_32' := hg5_32
      try simp only [beq_iff_eq, decide_eq_true_eq, decide_eq_false_iff_not, Bool.and_eq_true, Bool.or_eq_true, Bool.or_eq_false_iff, Bool.and_eq_false_iff] at hg5_32'
      exact opD_eql (lz.trans (pif_pos hg5_32)) (ev_const _ _)) ?_
  refine rts _ rfl (opD_and (ls rfl (ls rfl (ls rfl lz))) lz) ?_
  refine rts _ rfl (opD_assign lz) ?_
  refine .nil ?_
  refine aw_keep [(0, _), (8, _), (6, _), (5, _), (4, _), (3, _), (2, _), (1, _)] ⟨lg lz, lg (ls rfl (ls rfl (ls rfl (ls rfl (ls rfl (ls rfl (ls rfl (ls rfl (ls rfl (ls rfl (ls rfl (ls rfl (ls rfl (ls rfl (ls rfl (ls rfl (ls rfl (ls rfl (ls rfl (ls rfl (ls rfl (ls rfl (ls rfl (ls rfl (ls rfl (ls rfl (ls rfl (ls rfl (ls rfl (ls rfl (ls rfl (ls rfl (ls rfl (ls rfl (ls rfl oz))))))))))))))))))))))))))))))))))), lg (ls rfl (ls rfl (ls rfl (ls rfl (ls rfl (ls rfl (ls rfl (ls rfl (ls rfl (ls rfl (ls rfl (ls rfl (ls rfl (ls rfl (ls rfl (ls rfl (ls rfl (ls rfl (ls rfl (ls rfl (ls rfl (ls rfl (ls rfl (ls rfl (ls rfl (ls rfl (ls rfl (ls rfl (ls rfl (ls rfl (ls rfl (ls rfl (ls rfl (ls rfl (ls rfl (os rfl oz)))))))))))))))))))))))))))))))))))), lg (ls rfl (ls rfl (ls rfl (ls rfl (ls rfl (ls rfl (ls rfl (ls rfl (ls rfl (ls rfl (ls rfl (ls rfl (ls rfl (ls rfl (ls rfl (ls rfl (ls rfl (ls rfl (ls rfl (ls rfl (ls rfl (ls rfl (ls rfl (ls rfl (ls rfl (ls rfl (ls rfl (ls rfl (ls rfl (ls rfl (ls rfl (ls rfl (ls rfl (ls rfl (ls rfl (os rfl (os rfl oz))))))))))))))))))))))))))))))))))))), lg (ls rfl (ls rfl (ls rfl (ls rfl (ls rfl (ls rfl (ls rfl (ls rfl (ls rfl (ls rfl (ls rfl (ls rfl (ls rfl (ls rfl (ls rfl (ls rfl (ls rfl (ls rfl (ls rfl (ls rfl (ls rfl (ls rfl (ls rfl (ls rfl (ls rfl (ls rfl (ls rfl (ls rfl (ls rfl (ls rfl (ls rfl (ls rfl (ls rfl (ls rfl (ls rfl (os rfl (os rfl (os rfl oz)))))))))))))))))))))))))))))))))))))), lg (ls rfl (ls rfl (ls rfl (ls rfl (ls rfl (ls rfl (ls rfl (ls rfl (ls rfl (ls rfl (ls rfl (ls rfl (ls rfl (ls rfl (ls rfl (ls rfl (ls rfl (ls rfl (ls rfl (ls rfl (ls rfl (ls rfl (ls rfl (ls rfl (ls rfl (ls rfl (ls rfl (ls rfl (ls rfl (ls rfl (ls rfl (ls rfl (ls rfl (ls rfl (ls rfl (os rfl (os rfl (os rfl (os rfl oz))))))))))))))))))))))))))))))))))))))), lg (ls rfl (ls rfl (ls rfl (ls rfl (ls rfl (ls rfl (ls rfl (ls rfl (ls rfl (ls rfl (ls rfl (ls rfl (ls rfl (ls rfl (ls rfl (ls rfl (ls rfl (ls rfl (ls rfl (ls rfl (ls rfl (ls rfl (ls rfl (ls rfl (ls rfl (ls rfl (ls rfl (ls rfl (ls rfl (ls rfl (ls rfl (ls rfl (ls rfl (ls rfl (ls rfl (os rfl (os rfl (os rfl (os rfl (os rfl oz)))))))))))))))))))))))))))))))))))))))), lg (ls rfl (ls rfl (ls rfl (ls rfl (ls rfl (ls rfl (ls rfl (ls rfl (ls rfl (ls rfl (ls rfl (ls rfl (ls rfl (ls rfl (ls rfl (ls rfl (ls rfl (ls rfl (ls rfl (ls rfl (ls rfl (ls rfl (ls rfl (ls rfl (ls rfl (ls rfl (ls rfl (ls rfl (ls rfl (ls rfl (ls rfl (ls rfl (ls rfl (ls rfl (ls rfl (os rfl (os rfl (os rfl (os rfl (os rfl (os rfl oz))))))))))))))))))))))))))))))))))))))))), trivial⟩ ?_
  refine aw_ret ?_
  exact done_ext (.inr rfl) ((res_1 rfl (eg oz)).le (le_of_eq (congrArg (fun b => pl (.bool b)) (by simp [numV])))) (pl_bnd _ _ _)
end Go.Proofs.YtmnhfpcbfdgbcaaDoor.Eng.Lu

