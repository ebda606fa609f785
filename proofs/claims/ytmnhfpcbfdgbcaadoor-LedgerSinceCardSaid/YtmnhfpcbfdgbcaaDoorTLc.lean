/- TLc: what the functions of one package do, walked; used by the laws of this seat. -/
import Derived.Test.YtmnhfpcbfdgbcaaDoorTLg
namespace Go.Proofs.YtmnhfpcbfdgbcaaDoor.Eng.Lc
set_option linter.unusedVariables false
set_option linter.unusedSimpArgs false
open Go.RowKit Go.Proofs.YtmnhfpcbfdgbcaaDoor.Plain Go.Proofs.YtmnhfpcbfdgbcaaDoor.Eng

theorem fo57_1 : fieldOff Go.Proofs.Tryd.prog 57 1 = some 1 := by kernel_rfl
theorem ag55 : aggT Go.Proofs.Tryd.prog 55 = some false := by kernel_rfl
theorem fo57_0 : fieldOff Go.Proofs.Tryd.prog 57 0 = some 0 := by kernel_rfl
theorem ag22 : aggT Go.Proofs.Tryd.prog 22 = some false := by kernel_rfl
theorem cc107 : Go.Proofs.Tryd.prog.concrete 107 = true := by kernel_rfl
theorem sz63 : sizeT Go.Proofs.Tryd.prog 63 = some 5 := by kernel_rfl
theorem ag63 : aggT Go.Proofs.Tryd.prog 63 = some true := by kernel_rfl
theorem zt63 : zeroT Go.Proofs.Tryd.prog 63 = some [.int .u64 0, .int .u64 0, .int .u8 0, .int .u16 0, .string ⟨#[]⟩] := by kernel_rfl
theorem ht92 : hasText Go.Proofs.Tryd.prog 92 = true := by kernel_rfl
theorem fo63_0 : fieldOff Go.Proofs.Tryd.prog 63 0 = some 0 := by kernel_rfl
theorem fo70_1 : fieldOff Go.Proofs.Tryd.prog 70 1 = some 1 := by kernel_rfl
theorem ag54 : aggT Go.Proofs.Tryd.prog 54 = some false := by kernel_rfl
theorem mixed : Go.Proofs.Tryd.prog.follows .mixedOrders = true := by kernel_rfl
theorem sz60 : sizeT Go.Proofs.Tryd.prog 60 = some 5 := by kernel_rfl
theorem ag60 : aggT Go.Proofs.Tryd.prog 60 = some true := by kernel_rfl
theorem ht95 : hasText Go.Proofs.Tryd.prog 95 = true := by kernel_rfl
theorem fo60_0 : fieldOff Go.Proofs.Tryd.prog 60 0 = some 0 := by kernel_rfl
theorem fo70_0 : fieldOff Go.Proofs.Tryd.prog 70 0 = some 0 := by kernel_rfl

open Go.Proofs.YtmnhfpcbfdgbcaaDoor.Eng.Pk Go.Proofs.YtmnhfpcbfdgbcaaDoor.Eng.Rd Go.Proofs.YtmnhfpcbfdgbcaaDoor.Eng.Pb Go.Proofs.YtmnhfpcbfdgbcaaDoor.Eng.Er Go.Proofs.YtmnhfpcbfdgbcaaDoor.Eng.Rf06 Go.Proofs.YtmnhfpcbfdgbcaaDoor.Eng.Lg
theorem may_seq {d i q : Nat} (hd : d ≤ 4611686018427387904) (hi : i < 9223372036854775808) (hq : q < 18446744073709551616) (h : IntKind.u64.wrap ((q : Int) - (i : Int)) = IntKind.u64.wrap ((d : Int) + 1)) : q = d + i + 1 := by
  simp only [IntKind.wrap, IntKind.bits, IntKind.signed] at h
  simp at h
  omega
theorem may_end {d : Nat} {l : List Ln} (h : ∀ (j : Nat) (x : Ln), j < l.length → l[j]? = some x → mayB x = true ∧ (d ≤ 4611686018427387904 → x.seq = d + j + 1)) :
    (decide ((d : Int) ≤ 4611686018427387904) && (decide ((l.length : Int) = 32) || (decide ((l.length : Int) < 32) && decide ((d : Int) = 0)))) = lgOk d l := by
  rw [Bool.eq_iff_iff, lgOk_iff]
  simp only [Bool.and_eq_true, Bool.or_eq_true, decide_eq_true_eq]
  constructor
  · rintro ⟨h1, h2⟩
    exact ⟨by omega, by omega, by omega, fun i x hi => by
      have := h i x (List.getElem?_eq_some_iff.1 hi).1 hi
      exact ⟨this.1, this.2 (by omega)⟩⟩
  · rintro ⟨h1, h2, h3, _⟩
    refine ⟨by omega, ?_⟩
    by_cases h32 : l.length < 32
    · have := h3 h32; omega
    · omega

set_option maxRecDepth 100000 in
set_option maxHeartbeats 1000000 in
theorem lg_check {d : Nat} {l : List Ln} (hd : d < 18446744073709551616) (hl : l.length ≤ 9223372036854775807) (hx : ∀ x ∈ l, LnOk x) : Pure Go.Proofs.Tryd.prog 47 [lgP d l] (pl (errV (lgE d l))) := by
  intro s
  unfold lgP
  refine ac_of_aw s.boxes.length s.fr.length Go.Proofs.Tryd.func47 rfl (by simp [Go.Proofs.Tryd.ntmps47]) ?_
  refine aw_ext0 ?_
  refine aw_keep [(0, _)] ⟨lg ez, trivial⟩ ?_
  refine aw_seq ?_
  refine aw_region (by decide) ?_
  refine rts _ rfl (opD_boxA oz (by repeat (first | exact bnd_nil | refine bnd_cons (by first | exact pl_bnd _ _ _ | exact sl_bnd (kL_bnd _ _ _) | exact sl_bnd (kI_bnd _ _ _ _) | exact ptr_bnd _ (by omega) | exact any_bnd _ _) ?_)) (by first | exact List.length_nil | (simp only [List.length_cons, List.length_nil, Nat.zero_add, Nat.reduceAdd]; rfl)) (by simp only [List.nil_append, List.cons_append, List.map_cons, List.map_nil, List.set_cons_zero, List.set_cons_succ, List.take_succ_cons, List.take_zero, List.drop_succ_cons, List.drop_zero]; rfl)) ?_
  refine rts _ rfl (opD_assign (ev_const _ _)) ?_
  refine .nil ?_
  refine aw_keep [(2, _), (1, _), (0, _)] ⟨lg lz, lg (ls rfl lz), lg (ls rfl (ls rfl oz)), trivial⟩ ?_
  refine aw_seq ?_
  refine aw_region (by decide) ?_
  refine rts _ rfl ((by first | exact opD_fieldAddr fo57_1 (os rfl oz) | exact opD_fieldAddr_el fo57_1 (os rfl oz))) ?_
  refine rts _ rfl ((by first | exact opD_load_one ag55 lz (by first | exact loc_get rfl | exact old_get (by assumption)) rfl | exact opD_load_el_one ag55 lz (by first | assumption | simp) rfl)) ?_
  refine rts _ rfl (opD_len_sl Go.Proofs.Tryd.underlying55 lz) ?_
  refine rts _ rfl (opD_assign lz) ?_
  refine .nil ?_
  refine aw_keep [(3, _), (2, _), (1, _), (0, _)] ⟨lg lz, lg (ls rfl (ls rfl (ls rfl (ls rfl oz)))), lg (ls rfl (ls rfl (ls rfl (ls rfl (os rfl oz))))), lg (ls rfl (ls rfl (ls rfl (ls rfl (os rfl (os rfl oz)))))), trivial⟩ ?_
  refine aw_seq ?_
  refine aw_seq ?_
  refine aw_region (by decide) ?_
  refine rts _ rfl ((by first | exact opD_fieldAddr fo57_0 (os rfl (os rfl oz)) | exact opD_fieldAddr_el fo57_0 (os rfl (os rfl oz)))) ?_
  refine rts _ rfl ((by first | exact opD_load_one ag22 lz (by first | exact loc_get rfl | exact old_get (by assumption)) rfl | exact opD_load_el_one ag22 lz (by first | assumption | simp) rfl)) ?_
  refine rts _ rfl (opD_gtr lz (ev_const _ _)) ?_
  refine rts _ rfl (opD_move lz) ?_
  refine rtg _ rfl lz (fun hg2_4 => by
      have hg2_4' := hg2_4
      try simp only [beq_iff_eq, decide_eq_true_eq, decide_eq_false_iff_not, Bool.and_eq_true, Bool.or_eq_true, Bool.or_eq_false_iff, Bool.and_eq_false_iff] at hg2_4'
      exact opD_move (ls rfl (ls rfl (ls rfl (ls rfl oz))))) ?_
  refine rtg _ rfl (ls rfl lz) (fun hg2_5 => by
      have hg2_5' := hg2_5
      try simp only [beq_iff_eq, decide_eq_true_eq, decide_eq_false_iff_not, Bool.and_eq_true, Bool.or_eq_true, Bool.or_eq_false_iff, Bool.and_eq_false_iff] at hg2_5'
      exact opD_gtr (lz.trans (pif_pos hg2_5)) (ev_const _ _)) ?_
  refine rts _ rfl (opD_or (ls rfl (ls rfl lz)) lz) ?_
  refine rts _ rfl (opD_move lz) ?_
  refine rtg _ rfl lz (fun hg2_8 => by
      have hg2_8' := hg2_8
      try simp only [beq_iff_eq, decide_eq_true_eq, decide_eq_false_iff_not, Bool.and_eq_true, Bool.or_eq_true, Bool.or_eq_false_iff, Bool.and_eq_false_iff] at hg2_8'
      exact opD_move (ls rfl (ls rfl (ls rfl (ls rfl (ls rfl (ls rfl (ls rfl (ls rfl oz))))))))) ?_
  refine rtg _ rfl (ls rfl lz) (fun hg2_9 => by
      have hg2_9' := hg2_9
      try simp only [beq_iff_eq, decide_eq_true_eq, decide_eq_false_iff_not, Bool.and_eq_true, Bool.or_eq_true, Bool.or_eq_false_iff, Bool.and_eq_false_iff] at hg2_9'
      exact opD_lss (lz.trans (pif_pos hg2_9)) (ev_const _ _)) ?_
  refine rtg _ rfl (ls rfl (ls rfl lz)) (fun hg2_10 => by
      have hg2_10' := hg2_10
      try simp only [beq_iff_eq, decide_eq_true_eq, decide_eq_false_iff_not, Bool.and_eq_true, Bool.or_eq_true, Bool.or_eq_false_iff, Bool.and_eq_false_iff] at hg2_10'
      exact opD_move (lz.trans (pif_pos hg2_10))) ?_
  refine rtg2 _ rfl lz (fun hg2_11 => by
      have hg2_11' := hg2_11
      try simp only [beq_iff_eq, decide_eq_true_eq, decide_eq_false_iff_not, Bool.and_eq_true, Bool.or_eq_true, Bool.or_eq_false_iff, Bool.and_eq_false_iff] at hg2_11'
      exact (by first | exact opD_fieldAddr fo57_0 (ls rfl (ls rfl (ls rfl (ls rfl (ls rfl (ls rfl (ls rfl (ls rfl (ls rfl (ls rfl (ls rfl (os rfl (os rfl oz))))))))))))) | exact opD_fieldAddr_el fo57_0 (ls rfl (ls rfl (ls rfl (ls rfl (ls rfl (ls rfl (ls rfl (ls rfl (ls rfl (ls rfl (ls rfl (os rfl (os rfl oz))))))))))))))) ?_
  refine rtg2 _ rfl (ls rfl lz) (fun hg2_12 => by
      have hg2_12' := hg2_12
      try simp only [beq_iff_eq, decide_eq_true_eq, decide_eq_false_iff_not, Bool.and_eq_true, Bool.or_eq_true, Bool.or_eq_false_iff, Bool.and_eq_false_iff] at hg2_12'
      exact (by first | exact opD_load_one ag22 (lz.trans (pif_pos hg2_12)) (by first | exact loc_get rfl | exact old_get (by assumption) | exact hB) rfl | exact opD_load_el_one ag22 (lz.trans (pif_pos hg2_12)) (by first | assumption | simp) rfl)) ?_
  refine rtg2 _ rfl (ls rfl (ls rfl lz)) (fun hg2_13 => by
      have hg2_13' := hg2_13
      try simp only [beq_iff_eq, decide_eq_true_eq, decide_eq_false_iff_not, Bool.and_eq_true, Bool.or_eq_true, Bool.or_eq_false_iff, Bool.and_eq_false_iff] at hg2_13'
      exact opD_gtr (lz.trans (pif_pos hg2_13)) (ev_const _ _)) ?_
  refine rtg _ rfl (ls rfl (ls rfl (ls rfl (ls rfl (ls rfl (ls rfl lz)))))) (fun hg2_14 => by
      have hg2_14' := hg2_14
      try simp only [beq_iff_eq, decide_eq_true_eq, decide_eq_false_iff_not, Bool.and_eq_true, Bool.or_eq_true, Bool.or_eq_false_iff, Bool.and_eq_false_iff] at hg2_14'
      exact opD_and ((ls rfl (ls rfl (ls rfl lz))).trans (pif_pos hg2_14)) (lz.trans (pif_and hg2_14))) ?_
  refine rts _ rfl (opD_or (ls rfl (ls rfl (ls rfl (ls rfl (ls rfl (ls rfl (ls rfl lz))))))) lz) ?_
  refine .nil ?_
  refine aw_keep [(24, _), (3, _), (2, _), (1, _), (0, _)] ⟨lg lz, lg (ls rfl (ls rfl (ls rfl (ls rfl (ls rfl (ls rfl (ls rfl (ls rfl (ls rfl (ls rfl (ls rfl (ls rfl (ls rfl (ls rfl (ls rfl (ls rfl oz)))))))))))))))), lg (ls rfl (ls rfl (ls rfl (ls rfl (ls rfl (ls rfl (ls rfl (ls rfl (ls rfl (ls rfl (ls rfl (ls rfl (ls rfl (ls rfl (ls rfl (ls rfl (os rfl oz))))))))))))))))), lg (ls rfl (ls rfl (ls rfl (ls rfl (ls rfl (ls rfl (ls rfl (ls rfl (ls rfl (ls rfl (ls rfl (ls rfl (ls rfl (ls rfl (ls rfl (ls rfl (os rfl (os rfl oz)))))))))))))))))), lg (ls rfl (ls rfl (ls rfl (ls rfl (ls rfl (ls rfl (ls rfl (ls rfl (ls rfl (ls rfl (ls rfl (ls rfl (ls rfl (ls rfl (ls rfl (ls rfl (os rfl (os rfl (os rfl oz))))))))))))))))))), trivial⟩ ?_
  refine aw_cond _ oz (fun hc => ?_) (fun hc => ?_)
  · skip
    have hn : ¬ LgOk d l := by
      simp only [Bool.or_eq_true, Bool.and_eq_true, decide_eq_true_eq] at hc
      rintro ⟨h1, h2, h3, _⟩
      omega
    refine aw_seq ?_
    refine aw_region (by decide) ?_
    refine rts _ rfl ((by first | exact opD_makeInterface_pl cc107 (ev_const _ _) | exact opD_makeInterface cc107 (ev_const _ _))) ?_
    refine rts _ rfl (opD_assign lz) ?_
    refine .nil ?_
    refine aw_keep [(2, _), (24, _), (3, _), (1, _), (0, _)] ⟨lg lz, lg (ls rfl (ls rfl oz)), lg (ls rfl (ls rfl (os rfl oz))), lg (ls rfl (ls rfl (os rfl (os rfl (os rfl oz))))), lg (ls rfl (ls rfl (os rfl (os rfl (os rfl (os rfl oz)))))), trivial⟩ ?_
    refine aw_ret ?_
    exact done_ext (.inr rfl) ((res_1 rfl (eg oz)).le (le_of_eq (by first | (rw [lgE_f hn]; rfl) | (rw [lgE_t hok2]; rfl)))) (pl_bnd _ _ _)
  · skip
    simp only [Bool.or_eq_false_iff, Bool.and_eq_false_iff, decide_eq_false_iff_not] at hc
    obtain ⟨⟨hd2, hl2⟩, hz⟩ := hc
    refine aw_skip ?_
    refine aw_keep [(24, _), (3, _), (2, _), (1, _), (0, _)] ⟨lg oz, lg (os rfl oz), lg (os rfl (os rfl oz)), lg (os rfl (os rfl (os rfl oz))), lg (os rfl (os rfl (os rfl (os rfl oz)))), trivial⟩ ?_
    refine aw_seq ?_
    refine aw_seq ?_
    refine aw_region (by decide) ?_
    refine rts _ rfl ((by first | exact opD_fieldAddr fo57_1 (os rfl (os rfl (os rfl oz))) | exact opD_fieldAddr_el fo57_1 (os rfl (os rfl (os rfl oz))))) ?_
    refine rts _ rfl ((by first | exact opD_load_one ag55 lz (by first | exact loc_get rfl | exact old_get (by assumption)) rfl | exact opD_load_el_one ag55 lz (by first | assumption | simp) rfl)) ?_
    refine rts _ rfl (opD_len_sl Go.Proofs.Tryd.underlying55 lz) ?_
    refine rts _ rfl (opD_move (ev_const _ _)) ?_
    refine .nil ?_
    refine aw_keep [(29, _), (28, _), (27, _), (24, _), (3, _), (2, _), (1, _), (0, _)] ⟨lg lz, lg (ls rfl lz), lg (ls rfl (ls rfl lz)), lg (ls rfl (ls rfl (ls rfl (ls rfl oz)))), lg (ls rfl (ls rfl (ls rfl (ls rfl (os rfl oz))))), lg (ls rfl (ls rfl (ls rfl (ls rfl (os rfl (os rfl oz)))))), lg (ls rfl (ls rfl (ls rfl (ls rfl (os rfl (os rfl (os rfl oz))))))), lg (ls rfl (ls rfl (ls rfl (ls rfl (os rfl (os rfl (os rfl (os rfl oz)))))))), trivial⟩ ?_
    refine aw_block ?_
    refine aw_loop (fun n e st => ∃ i : Nat, Holds e [(1, ptr (s.boxes.length + 0) 0), (27, sl kL none none l), (28, pl (.int .i64 (l.length : Int))), (29, pl (.int .i64 (i : Int)))] ∧ st = s.ext [⟨57, [pl (.int .u64 (d : Int)), sl kL none none l]⟩] [] ∧ n + i = l.length ∧ ∀ (j : Nat) (x : Ln), j < i → l[j]? = some x → mayB x = true ∧ x.seq = d + j + 1) (l.length) (⟨0, ⟨le_of_eq (eg (os rfl (os rfl (os rfl (os rfl (os rfl (os rfl oz))))))), le_of_eq (eg (os rfl (os rfl oz))), le_of_eq (eg (os rfl oz)), le_of_eq (eg oz), trivial⟩, rfl, by omega, fun j x hj => by omega⟩) ?_
    rintro n e st ⟨i, hH, rfl, hn0, hall⟩
    refine aw_keep _ hH ?_
    refine aw_cut (s.boxes.length + 1) (s.fr.length + 0) (by rw [ext_boxes_length]; exact Nat.le_refl _) (by rw [ext_fr_length]; exact Nat.le_refl _) ?_
    refine aw_seq ?_
    refine aw_region (by decide) ?_
    refine rts _ rfl (opD_lss (os rfl (os rfl (os rfl oz))) (os rfl (os rfl oz))) ?_
    refine .nil ?_
    refine aw_keep [(30, _), (1, _), (27, _), (28, _), (29, _)] ⟨lg lz, lg (ls rfl oz), lg (ls rfl (os rfl oz)), lg (ls rfl (os rfl (os rfl oz))), lg (ls rfl (os rfl (os rfl (os rfl oz)))), trivial⟩ ?_
    refine aw_seq ?_
    refine aw_cond _ oz (fun hc => ?_) (fun hc => ?_)
    · skip
      have hlt : i < l.length := by have := of_decide_eq_true hc; omega
      obtain ⟨x, hxi, hok⟩ := ln_at hx hlt
      have hok' := hok
      obtain ⟨q1, q2, q3, q4, q5⟩ := hok'
      refine aw_skip ?_
      refine aw_keep [(30, _), (1, _), (27, _), (28, _), (29, _)] ⟨lg oz, lg (os rfl oz), lg (os rfl (os rfl oz)), lg (os rfl (os rfl (os rfl oz))), lg (os rfl (os rfl (os rfl (os rfl oz)))), trivial⟩ ?_
      refine aw_seq ?_
      refine aw_block ?_
      refine aw_seq ?_
      refine aw_region (by decide) ?_
      refine rts _ rfl (opD_move (os rfl (os rfl (os rfl (os rfl oz))))) ?_
      refine rts _ rfl (opD_indexAddr_sl Go.Proofs.Tryd.underlying55 sz63 (ls rfl (os rfl (os rfl oz))) (ls rfl (os rfl (os rfl (os rfl (os rfl oz))))) (by first | rfl | simp | omega) (by first | assumption | omega)) ?_
      refine rts _ rfl ((by first | exact opD_load_aggX (qs := [_, _, _, _, _]) ag63 sz63 lz (by first | exact loc_get rfl | exact old_get (by assumption)) (by simp) rfl | exact opD_load_el_aggX (qs := [_, _, _, _, _]) ag63 sz63 lz (by first | assumption | simp) (by decide) rfl)) ?_
      refine rts _ rfl (opD_allocX zt63 (by first | exact List.length_nil | (simp only [List.length_cons, List.length_nil, Nat.zero_add, Nat.reduceAdd]; rfl)) (by simp only [List.nil_append, List.cons_append, List.map_cons, List.map_nil, List.set_cons_zero, List.set_cons_succ, List.take_succ_cons, List.take_zero, List.drop_succ_cons, List.drop_zero]; rfl)) ?_
      refine rts _ rfl (opD_assign (ls rfl (ls rfl (ls rfl lz)))) ?_
      refine rts _ rfl (opD_storeA sz63 (ls rfl lz) (ls rfl (ls rfl lz)) (by repeat (first | exact ones_nil | refine ones_cons (by first | exact one_pl rfl | exact one_sl _ _ _ _ | exact one_ptr _ _) ?_)) rfl rfl (Nat.le_of_ble_eq_true rfl) (List.cons_ne_nil _ _) (by repeat (first | exact bnd_nil | refine bnd_cons (by first | exact pl_bnd _ _ _ | exact sl_bnd (kL_bnd _ _ _) | exact sl_bnd (kI_bnd _ _ _ _) | exact ptr_bnd _ (by omega) | exact any_bnd _ _) ?_)) (by simp only [List.nil_append, List.cons_append, List.map_cons, List.map_nil, List.set_cons_zero, List.set_cons_succ, List.take_succ_cons, List.take_zero, List.drop_succ_cons, List.drop_zero]; rfl) (by simp only [List.nil_append, List.cons_append, List.map_cons, List.map_nil, List.set_cons_zero, List.set_cons_succ, List.take_succ_cons, List.take_zero, List.drop_succ_cons, List.drop_zero]; rfl)) ?_
      refine .nil ?_
      refine aw_keep [(4, _), (5, _), (30, _), (1, _), (27, _), (28, _), (29, _)] ⟨lg (lx lz), lg (lx (ls rfl lz)), lg (lx (ls rfl (ls rfl (ls rfl (ls rfl (ls rfl oz)))))), lg (lx (ls rfl (ls rfl (ls rfl (ls rfl (ls rfl (os rfl oz))))))), lg (lx (ls rfl (ls rfl (ls rfl (ls rfl (ls rfl (os rfl (os rfl oz)))))))), lg (lx (ls rfl (ls rfl (ls rfl (ls rfl (ls rfl (os rfl (os rfl (os rfl oz))))))))), lg (lx (ls rfl (ls rfl (ls rfl (ls rfl (ls rfl (os rfl (os rfl (os rfl (os rfl oz)))))))))), trivial⟩ ?_
      refine aw_seq ?_
      refine aw_region (by decide) ?_
      refine rts _ rfl ((by first | exact opD_load_aggX (qs := [_, _, _, _, _]) ag63 sz63 (os rfl oz) (by first | exact loc_get rfl | exact old_get (by assumption)) (by simp) rfl | exact opD_load_el_aggX (qs := [_, _, _, _, _]) ag63 sz63 (os rfl oz) (by first | assumption | simp) (by decide) rfl)) ?_
      refine rts _ rfl (opD_pure ht92 (ln_may hok) ⟨le_of_eq lz, trivial⟩) ?_
      refine rts _ rfl (opD_not lz) ?_
      refine rts _ rfl (opD_move lz) ?_
      refine rtg _ rfl lz (fun hg7_4 => by
          have hg7_4' := hg7_4
          try simp only [beq_iff_eq, decide_eq_true_eq, decide_eq_false_iff_not, Bool.and_eq_true, Bool.or_eq_true, Bool.or_eq_false_iff, Bool.and_eq_false_iff] at hg7_4'
          exact (by first | exact opD_fieldAddr fo63_0 (ls rfl (ls rfl (ls rfl (ls rfl (os rfl oz))))) | exact opD_fieldAddr_el fo63_0 (ls rfl (ls rfl (ls rfl (ls rfl (os rfl oz))))))) ?_
      refine rtg _ rfl (ls rfl lz) (fun hg7_5 => by
          have hg7_5' := hg7_5
          try simp only [beq_iff_eq, decide_eq_true_eq, decide_eq_false_iff_not, Bool.and_eq_true, Bool.or_eq_true, Bool.or_eq_false_iff, Bool.and_eq_false_iff] at hg7_5'
          exact (by first | exact opD_load_one ag22 (lz.trans (pif_pos hg7_5)) (by first | exact loc_get rfl | exact old_get (by assumption) | exact hB) rfl | exact opD_load_el_one ag22 (lz.trans (pif_pos hg7_5)) (by first | assumption | simp) rfl)) ?_
      refine rtg _ rfl (ls rfl (ls rfl lz)) (fun hg7_6 => by
          have hg7_6' := hg7_6
          try simp only [beq_iff_eq, decide_eq_true_eq, decide_eq_false_iff_not, Bool.and_eq_true, Bool.or_eq_true, Bool.or_eq_false_iff, Bool.and_eq_false_iff] at hg7_6'
          exact (by first | exact opD_fieldAddr fo57_0 (ls rfl (ls rfl (ls rfl (ls rfl (ls rfl (ls rfl (os rfl (os rfl (os rfl oz))))))))) | exact opD_fieldAddr_el fo57_0 (ls rfl (ls rfl (ls rfl (ls rfl (ls rfl (ls rfl (os rfl (os rfl (os rfl oz))))))))))) ?_
      refine rtg _ rfl (ls rfl (ls rfl (ls rfl lz))) (fun hg7_7 => by
          have hg7_7' := hg7_7
          try simp only [beq_iff_eq, decide_eq_true_eq, decide_eq_false_iff_not, Bool.and_eq_true, Bool.or_eq_true, Bool.or_eq_false_iff, Bool.and_eq_false_iff] at hg7_7'
          exact (by first | exact opD_load_one ag22 (lz.trans (pif_pos hg7_7)) (by first | exact loc_get rfl | exact old_get (by assumption) | exact hB) rfl | exact opD_load_el_one ag22 (lz.trans (pif_pos hg7_7)) (by first | assumption | simp) rfl)) ?_
      refine rtg _ rfl (ls rfl (ls rfl (ls rfl (ls rfl lz)))) (fun hg7_8 => by
          have hg7_8' := hg7_8
          try simp only [beq_iff_eq, decide_eq_true_eq, decide_eq_false_iff_not, Bool.and_eq_true, Bool.or_eq_true, Bool.or_eq_false_iff, Bool.and_eq_false_iff] at hg7_8'
          exact opD_move (ls rfl (ls rfl (ls rfl (ls rfl (ls rfl (ls rfl (ls rfl (ls rfl oz))))))))) ?_
      refine rtg _ rfl (ls rfl (ls rfl (ls rfl (ls rfl (ls rfl lz))))) (fun hg7_9 => by
          have hg7_9' := hg7_9
          try simp only [beq_iff_eq, decide_eq_true_eq, decide_eq_false_iff_not, Bool.and_eq_true, Bool.or_eq_true, Bool.or_eq_false_iff, Bool.and_eq_false_iff] at hg7_9'
          exact opD_conv_int Go.Proofs.Tryd.underlying3 Go.Proofs.Tryd.underlying22 (lz.trans (pif_pos hg7_9)) (by first | exact IntWalk.u64_in _ (by omega) | exact rfl)) ?_
      refine rtg _ rfl (ls rfl (ls rfl (ls rfl (ls rfl (ls rfl (ls rfl lz)))))) (fun hg7_10 => by
          have hg7_10' := hg7_10
          try simp only [beq_iff_eq, decide_eq_true_eq, decide_eq_false_iff_not, Bool.and_eq_true, Bool.or_eq_true, Bool.or_eq_false_iff, Bool.and_eq_false_iff] at hg7_10'
          exact opD_add ((ls rfl (ls rfl lz)).trans (pif_pos hg7_10)) (lz.trans (pif_pos hg7_10)) (by first | exact IntWalk.u64_in _ (by omega) | exact rfl)) ?_
      refine rtg _ rfl (ls rfl (ls rfl (ls rfl (ls rfl (ls rfl (ls rfl (ls rfl lz))))))) (fun hg7_11 => by
          have hg7_11' := hg7_11
          try simp only [beq_iff_eq, decide_eq_true_eq, decide_eq_false_iff_not, Bool.and_eq_true, Bool.or_eq_true, Bool.or_eq_false_iff, Bool.and_eq_false_iff] at hg7_11'
          exact opD_add (lz.trans (pif_pos hg7_11)) (ev_const _ _) (by first | exact IntWalk.u64_in _ (by omega) | exact rfl)) ?_
      refine rtg _ rfl (ls rfl (ls rfl (ls rfl (ls rfl (ls rfl (ls rfl (ls rfl (ls rfl lz)))))))) (fun hg7_12 => by
          have hg7_12' := hg7_12
          try simp only [beq_iff_eq, decide_eq_true_eq, decide_eq_false_iff_not, Bool.and_eq_true, Bool.or_eq_true, Bool.or_eq_false_iff, Bool.and_eq_false_iff] at hg7_12'
          exact opD_neq ((ls rfl (ls rfl (ls rfl (ls rfl (ls rfl (ls rfl lz)))))).trans (pif_pos hg7_12)) (lz.trans (pif_pos hg7_12))) ?_
      refine rts _ rfl (opD_or (ls rfl (ls rfl (ls rfl (ls rfl (ls rfl (ls rfl (ls rfl (ls rfl (ls rfl lz))))))))) lz) ?_
      refine .nil ?_
      refine aw_keep [(47, _), (4, _), (5, _), (30, _), (1, _), (27, _), (28, _), (29, _)] ⟨lg lz, lg (ls rfl (ls rfl (ls rfl (ls rfl (ls rfl (ls rfl (ls rfl (ls rfl (ls rfl (ls rfl (ls rfl (ls rfl (ls rfl (ls rfl oz)))))))))))))), lg (ls rfl (ls rfl (ls rfl (ls rfl (ls rfl (ls rfl (ls rfl (ls rfl (ls rfl (ls rfl (ls rfl (ls rfl (ls rfl (ls rfl (os rfl oz))))))))))))))), lg (ls rfl (ls rfl (ls rfl (ls rfl (ls rfl (ls rfl (ls rfl (ls rfl (ls rfl (ls rfl (ls rfl (ls rfl (ls rfl (ls rfl (os rfl (os rfl oz)))))))))))))))), lg (ls rfl (ls rfl (ls rfl (ls rfl (ls rfl (ls rfl (ls rfl (ls rfl (ls rfl (ls rfl (ls rfl (ls rfl (ls rfl (ls rfl (os rfl (os rfl (os rfl oz))))))))))))))))), lg (ls rfl (ls rfl (ls rfl (ls rfl (ls rfl (ls rfl (ls rfl (ls rfl (ls rfl (ls rfl (ls rfl (ls rfl (ls rfl (ls rfl (os rfl (os rfl (os rfl (os rfl oz)))))))))))))))))), lg (ls rfl (ls rfl (ls rfl (ls rfl (ls rfl (ls rfl (ls rfl (ls rfl (ls rfl (ls rfl (ls rfl (ls rfl (ls rfl (ls rfl (os rfl (os rfl (os rfl (os rfl (os rfl oz))))))))))))))))))), lg (ls rfl (ls rfl (ls rfl (ls rfl (ls rfl (ls rfl (ls rfl (ls rfl (ls rfl (ls rfl (ls rfl (ls rfl (ls rfl (ls rfl (os rfl (os rfl (os rfl (os rfl (os rfl (os rfl oz)))))))))))))))))))), trivial⟩ ?_
      refine aw_cond _ oz (fun hc => ?_) (fun hc => ?_)
      · skip
        have hn : ¬ LgOk d l := by
          simp only [Bool.or_eq_true, Bool.not_eq_true', decide_eq_true_eq] at hc
          rintro ⟨_, _, _, h4⟩
          have h5 := h4 i x hxi
          rcases hc with hc | hc
          · rw [h5.1] at hc; cases hc
          · omega
        refine aw_seq ?_
        refine aw_region (by decide) ?_
        refine rts _ rfl ((by first | exact opD_makeInterface_pl cc107 (ev_const _ _) | exact opD_makeInterface cc107 (ev_const _ _))) ?_
        refine rts _ rfl (opD_assign lz) ?_
        refine .nil ?_
        refine aw_keep [(2, _), (47, _), (4, _), (5, _), (30, _), (1, _), (27, _), (28, _), (29, _)] ⟨lg lz, lg (ls rfl (ls rfl oz)), lg (ls rfl (ls rfl (os rfl oz))), lg (ls rfl (ls rfl (os rfl (os rfl oz)))), lg (ls rfl (ls rfl (os rfl (os rfl (os rfl oz))))), lg (ls rfl (ls rfl (os rfl (os rfl (os rfl (os rfl oz)))))), lg (ls rfl (ls rfl (os rfl (os rfl (os rfl (os rfl (os rfl oz))))))), lg (ls rfl (ls rfl (os rfl (os rfl (os rfl (os rfl (os rfl (os rfl oz)))))))), lg (ls rfl (ls rfl (os rfl (os rfl (os rfl (os rfl (os rfl (os rfl (os rfl oz))))))))), trivial⟩ ?_
        refine aw_ret ?_
        refine cut_no ?_
        exact done_ext (.inr rfl) ((res_1 rfl (eg oz)).le (le_of_eq (by first | (rw [lgE_f hn]; rfl) | (rw [lgE_t hok2]; rfl)))) (pl_bnd _ _ _)
      · skip
        simp only [Bool.or_eq_false_iff, Bool.not_eq_false', decide_eq_false_iff_not, Decidable.not_not, ne_eq] at hc
        refine aw_skip ?_
        refine aw_keep [(47, _), (4, _), (5, _), (30, _), (1, _), (27, _), (28, _), (29, _)] ⟨lg oz, lg (os rfl oz), lg (os rfl (os rfl oz)), lg (os rfl (os rfl (os rfl oz))), lg (os rfl (os rfl (os rfl (os rfl oz)))), lg (os rfl (os rfl (os rfl (os rfl (os rfl oz))))), lg (os rfl (os rfl (os rfl (os rfl (os rfl (os rfl oz)))))), lg (os rfl (os rfl (os rfl (os rfl (os rfl (os rfl (os rfl oz))))))), trivial⟩ ?_
        refine aw_region (by decide) ?_
        refine rts _ rfl (opD_add (os rfl (os rfl (os rfl (os rfl (os rfl (os rfl (os rfl oz))))))) (ev_const _ _) (by first | exact IntWalk.i64_in _ (by omega) | exact rfl)) ?_
        refine rts _ rfl (opD_move lz) ?_
        refine .nil ?_
        refine cut_yes (l := [(1, _), (27, _), (28, _), (29, _)]) ⟨lg (ls rfl (ls rfl (os rfl (os rfl (os rfl (os rfl oz)))))), lg (ls rfl (ls rfl (os rfl (os rfl (os rfl (os rfl (os rfl oz))))))), lg (ls rfl (ls rfl (os rfl (os rfl (os rfl (os rfl (os rfl (os rfl oz)))))))), lg lz, trivial⟩ (by repeat (first | exact bnd_nil | refine bnd_cons (by first | exact pl_bnd _ _ _ | exact sl_bnd (kL_bnd _ _ _) | exact sl_bnd (kI_bnd _ _ _ _) | exact ptr_bnd _ (by omega) | exact any_bnd _ _) ?_)) (Nat.le_of_ble_eq_true rfl) (Nat.le_of_ble_eq_true rfl) (by simp only [List.nil_append, List.cons_append, List.map_cons, List.map_nil, List.set_cons_zero, List.set_cons_succ, List.take_succ_cons, List.take_zero, List.drop_succ_cons, List.drop_zero]; rfl) (by simp only [List.nil_append, List.cons_append, List.map_cons, List.map_nil, List.set_cons_zero, List.set_cons_succ, List.take_succ_cons, List.take_zero, List.drop_succ_cons, List.drop_zero]; rfl) (by repeat (first | exact bl_nil | refine bl_cons (by repeat (first | exact bnd_nil | refine bnd_cons (by first | exact pl_bnd _ _ _ | exact sl_bnd (kL_bnd _ _ _) | exact sl_bnd (kI_bnd _ _ _ _) | exact ptr_bnd _ (by omega) | exact any_bnd _ _) ?_)) ?_)) ?_
        refine ⟨n - 1, by omega, i + 1, ⟨le_of_eq (eg oz), le_of_eq (eg (os rfl oz)), le_of_eq (eg (os rfl (os rfl oz))), le_of_eq (eg (os rfl (os rfl (os rfl oz)))), trivial⟩, rfl, by omega, fun j y hj hy => ?_⟩
        by_cases hji : j = i
        · subst hji; rw [hxi] at hy; cases hy; exact ⟨hc.1, by omega⟩
        · exact hall j y (by omega) hy
    · skip
      have hge : ¬ i < l.length := by have := of_decide_eq_false hc; omega
      have hok2 : LgOk d l := ⟨by omega, by omega, by omega, fun j x hj => hall j x (by have := (List.getElem?_eq_some_iff.1 hj).1; omega) hj⟩
      refine aw_exit ?_
      refine cut_no ?_
      refine aw_keep [(30, _), (1, _), (27, _), (28, _), (29, _)] ⟨lg oz, lg (os rfl oz), lg (os rfl (os rfl oz)), lg (os rfl (os rfl (os rfl oz))), lg (os rfl (os rfl (os rfl (os rfl oz)))), trivial⟩ ?_
      refine aw_seq ?_
      refine aw_region (by decide) ?_
      refine rts _ rfl (opD_assign (ev_const _ _)) ?_
      refine .nil ?_
      refine aw_keep [(2, _), (30, _), (1, _), (27, _), (28, _), (29, _)] ⟨lg lz, lg (ls rfl oz), lg (ls rfl (os rfl oz)), lg (ls rfl (os rfl (os rfl oz))), lg (ls rfl (os rfl (os rfl (os rfl oz)))), lg (ls rfl (os rfl (os rfl (os rfl (os rfl oz))))), trivial⟩ ?_
      refine aw_ret ?_
      exact done_ext (.inr rfl) ((res_1 rfl (eg oz)).le (le_of_eq (by first | (rw [lgE_f hn]; rfl) | (rw [lgE_t hok2]; rfl)))) (pl_bnd _ _ _)

set_option maxRecDepth 100000 in
set_option maxHeartbeats 1000000 in
theorem lg_May {d : Nat} {l : List Ln} (hd : d < 18446744073709551616) (hl : l.length ≤ 9223372036854775807) (hx : ∀ x ∈ l, LnOk x) : Pure Go.Proofs.Tryd.prog 48 [lgP d l] (pl (.bool (lgOk d l))) := by
  intro s
  unfold lgP
  refine ac_of_aw s.boxes.length s.fr.length Go.Proofs.Tryd.func48 rfl (by simp [Go.Proofs.Tryd.ntmps48]) ?_
  refine aw_ext0 ?_
  refine aw_keep [(0, _)] ⟨lg ez, trivial⟩ ?_
  refine aw_seq ?_
  refine aw_region (by decide) ?_
  refine rts _ rfl (opD_boxA oz (by repeat (first | exact bnd_nil | refine bnd_cons (by first | exact pl_bnd _ _ _ | exact sl_bnd (kL_bnd _ _ _) | exact sl_bnd (kI_bnd _ _ _ _) | exact ptr_bnd _ (by omega) | exact any_bnd _ _) ?_)) (by first | exact List.length_nil | (simp only [List.length_cons, List.length_nil, Nat.zero_add, Nat.reduceAdd]; rfl)) (by simp only [List.nil_append, List.cons_append, List.map_cons, List.map_nil, List.set_cons_zero, List.set_cons_succ, List.take_succ_cons, List.take_zero, List.drop_succ_cons, List.drop_zero]; rfl)) ?_
  refine rts _ rfl (opD_assign (ev_const _ _)) ?_
  refine .nil ?_
  refine aw_keep [(2, _), (1, _), (0, _)] ⟨lg lz, lg (ls rfl lz), lg (ls rfl (ls rfl oz)), trivial⟩ ?_
  refine aw_seq ?_
  refine aw_seq ?_
  refine aw_region (by decide) ?_
  refine rts _ rfl (opD_assign (ev_const _ _)) ?_
  refine .nil ?_
  refine aw_keep [(3, _), (2, _), (1, _), (0, _)] ⟨lg lz, lg (ls rfl oz), lg (ls rfl (os rfl oz)), lg (ls rfl (os rfl (os rfl oz))), trivial⟩ ?_
  refine aw_block ?_
  refine aw_loop (fun n e st => ∃ i : Nat, Holds e [(1, ptr (s.boxes.length + 0) 0), (3, pl (.int .i64 (i : Int)))] ∧ st = s.ext [⟨70, [pl (.int .u64 (d : Int)), sl kL none none l]⟩] [] ∧ n + i = l.length ∧ ∀ (j : Nat) (x : Ln), j < i → l[j]? = some x → mayB x = true ∧ (d ≤ 4611686018427387904 → x.seq = d + j + 1)) (l.length) (⟨0, ⟨le_of_eq (eg (os rfl (os rfl oz))), le_of_eq (eg oz), trivial⟩, rfl, by omega, fun j x hj => by omega⟩) ?_
  rintro n e st ⟨i, hH, rfl, hn0, hall⟩
  refine aw_keep _ hH ?_
  refine aw_seq ?_
  refine aw_seq ?_
  refine aw_region (by decide) ?_
  refine rts _ rfl (opD_move (os rfl oz)) ?_
  refine rts _ rfl ((by first | exact opD_fieldAddr fo70_1 (ls rfl oz) | exact opD_fieldAddr_el fo70_1 (ls rfl oz))) ?_
  refine rts _ rfl ((by first | exact opD_load_one ag54 lz (by first | exact loc_get rfl | exact old_get (by assumption)) rfl | exact opD_load_el_one ag54 lz (by first | assumption | simp) rfl)) ?_
  refine rts _ rfl (opD_len_sl Go.Proofs.Tryd.underlying54 lz) ?_
  refine rts _ rfl (opD_lss (ls rfl (ls rfl (ls rfl lz))) lz) ?_
  refine .nil ?_
  refine aw_keep [(8, _), (1, _), (3, _)] ⟨lg lz, lg (ls rfl (ls rfl (ls rfl (ls rfl (ls rfl oz))))), lg (ls rfl (ls rfl (ls rfl (ls rfl (ls rfl (os rfl oz)))))), trivial⟩ ?_
  refine aw_cond _ oz (fun hc => ?_) (fun hc => ?_)
  · skip
    have hlt : i < l.length := by have := of_decide_eq_true hc; omega
    obtain ⟨x, hxi, hok⟩ := ln_at hx hlt
    have hok' := hok
    obtain ⟨q1, q2, q3, q4, q5⟩ := hok'
    refine aw_skip ?_
    refine aw_keep [(8, _), (1, _), (3, _)] ⟨lg oz, lg (os rfl oz), lg (os rfl (os rfl oz)), trivial⟩ ?_
    refine aw_seq ?_
    refine aw_block ?_
    refine aw_seq ?_
    refine aw_flat mixed (by decide +kernel) ?_
    refine zts _ rfl ((by first | exact opD_fieldAddr fo70_1 (os rfl oz) | exact opD_fieldAddr_el fo70_1 (os rfl oz))) ?_
    refine zts _ rfl ((by first | exact opD_load_one ag54 lz (by first | exact loc_get rfl | exact old_get (by assumption)) rfl | exact opD_load_el_one ag54 lz (by first | assumption | simp) rfl)) ?_
    refine zts _ rfl (opD_move (ls rfl (ls rfl (os rfl (os rfl oz))))) ?_
    refine zts _ rfl (opD_indexAddr_sl Go.Proofs.Tryd.underlying54 sz60 (ls rfl lz) lz (by first | rfl | simp | omega) (by first | assumption | omega)) ?_
    refine zts _ rfl ((by first | exact opD_load_aggX (qs := [_, _, _, _, _]) ag60 sz60 lz (by first | exact loc_get rfl | exact old_get (by assumption)) (by simp) rfl | exact opD_load_el_aggX (qs := [_, _, _, _, _]) ag60 sz60 lz (by first | assumption | simp) (by decide) rfl)) ?_
    refine zts _ rfl (opD_pure ht95 (ln_one hok) ⟨le_of_eq lz, trivial⟩) ?_
    refine zts _ rfl (opD_not lz) ?_
    refine zts _ rfl (opD_move lz) ?_
    refine ztg _ rfl lz (fun hg4_8 => by
        have hg4_8' := hg4_8
        try simp only [beq_iff_eq, decide_eq_true_eq, decide_eq_false_iff_not, Bool.and_eq_true, Bool.or_eq_true, Bool.or_eq_false_iff, Bool.and_eq_false_iff] at hg4_8'
        exact (by first | exact opD_fieldAddr fo70_1 (ls rfl (ls rfl (ls rfl (ls rfl (ls rfl (ls rfl (ls rfl (ls rfl (os rfl oz))))))))) | exact opD_fieldAddr_el fo70_1 (ls rfl (ls rfl (ls rfl (ls rfl (ls rfl (ls rfl (ls rfl (ls rfl (os rfl oz))))))))))) ?_
    refine ztg _ rfl (ls rfl lz) (fun hg4_9 => by
        have hg4_9' := hg4_9
        try simp only [beq_iff_eq, decide_eq_true_eq, decide_eq_false_iff_not, Bool.and_eq_true, Bool.or_eq_true, Bool.or_eq_false_iff, Bool.and_eq_false_iff] at hg4_9'
        exact (by first | exact opD_load_one ag54 (lz.trans (pif_pos hg4_9)) (by first | exact loc_get rfl | exact old_get (by assumption) | exact hB) rfl | exact opD_load_el_one ag54 (lz.trans (pif_pos hg4_9)) (by first | assumption | simp) rfl)) ?_
    refine ztg _ rfl (ls rfl (ls rfl lz)) (fun hg4_10 => by
        have hg4_10' := hg4_10
        try simp only [beq_iff_eq, decide_eq_true_eq, decide_eq_false_iff_not, Bool.and_eq_true, Bool.or_eq_true, Bool.or_eq_false_iff, Bool.and_eq_false_iff] at hg4_10'
        exact opD_move (ls rfl (ls rfl (ls rfl (ls rfl (ls rfl (ls rfl (ls rfl (ls rfl (ls rfl (ls rfl (os rfl (os rfl oz))))))))))))) ?_
    refine ztg _ rfl (ls rfl (ls rfl (ls rfl lz))) (fun hg4_11 => by
        have hg4_11' := hg4_11
        try simp only [beq_iff_eq, decide_eq_true_eq, decide_eq_false_iff_not, Bool.and_eq_true, Bool.or_eq_true, Bool.or_eq_false_iff, Bool.and_eq_false_iff] at hg4_11'
        exact opD_indexAddr_sl Go.Proofs.Tryd.underlying54 sz60 ((ls rfl lz).trans (pif_pos hg4_11)) (lz.trans (pif_pos hg4_11)) (by first | rfl | simp | omega) (by first | assumption | omega)) ?_
    refine ztg _ rfl (ls rfl (ls rfl (ls rfl (ls rfl lz)))) (fun hg4_12 => by
        have hg4_12' := hg4_12
        try simp only [beq_iff_eq, decide_eq_true_eq, decide_eq_false_iff_not, Bool.and_eq_true, Bool.or_eq_true, Bool.or_eq_false_iff, Bool.and_eq_false_iff] at hg4_12'
        exact (by first | exact opD_fieldAddr fo60_0 (lz.trans (pif_pos hg4_12)) | exact opD_fieldAddr_el fo60_0 (lz.trans (pif_pos hg4_12)))) ?_
    refine ztg _ rfl (ls rfl (ls rfl (ls rfl (ls rfl (ls rfl lz))))) (fun hg4_13 => by
        have hg4_13' := hg4_13
        try simp only [beq_iff_eq, decide_eq_true_eq, decide_eq_false_iff_not, Bool.and_eq_true, Bool.or_eq_true, Bool.or_eq_false_iff, Bool.and_eq_false_iff] at hg4_13'
        exact (by first | exact opD_load_one ag22 (lz.trans (pif_pos hg4_13)) (by first | exact loc_get rfl | exact old_get (by assumption) | exact hB) rfl | exact opD_load_el_one ag22 (lz.trans (pif_pos hg4_13)) (by first | assumption | simp) rfl)) ?_
    refine ztg _ rfl (ls rfl (ls rfl (ls rfl (ls rfl (ls rfl (ls rfl lz)))))) (fun hg4_14 => by
        have hg4_14' := hg4_14
        try simp only [beq_iff_eq, decide_eq_true_eq, decide_eq_false_iff_not, Bool.and_eq_true, Bool.or_eq_true, Bool.or_eq_false_iff, Bool.and_eq_false_iff] at hg4_14'
        exact opD_move (ls rfl (ls rfl (ls rfl (ls rfl (ls rfl (ls rfl (ls rfl (ls rfl (ls rfl (ls rfl (ls rfl (ls rfl (ls rfl (ls rfl (os rfl (os rfl oz))))))))))))))))) ?_
    refine ztg _ rfl (ls rfl (ls rfl (ls rfl (ls rfl (ls rfl (ls rfl (ls rfl lz))))))) (fun hg4_15 => by
        have hg4_15' := hg4_15
        try simp only [beq_iff_eq, decide_eq_true_eq, decide_eq_false_iff_not, Bool.and_eq_true, Bool.or_eq_true, Bool.or_eq_false_iff, Bool.and_eq_false_iff] at hg4_15'
        exact opD_conv_int Go.Proofs.Tryd.underlying3 Go.Proofs.Tryd.underlying22 (lz.trans (pif_pos hg4_15)) (by first | exact IntWalk.u64_in _ (by omega) | exact rfl)) ?_
    refine ztg _ rfl (ls rfl (ls rfl (ls rfl (ls rfl (ls rfl (ls rfl (ls rfl (ls rfl lz)))))))) (fun hg4_16 => by
        have hg4_16' := hg4_16
        try simp only [beq_iff_eq, decide_eq_true_eq, decide_eq_false_iff_not, Bool.and_eq_true, Bool.or_eq_true, Bool.or_eq_false_iff, Bool.and_eq_false_iff] at hg4_16'
        exact opD_sub ((ls rfl (ls rfl lz)).trans (pif_pos hg4_16)) (lz.trans (pif_pos hg4_16)) (by first | exact IntWalk.u64_in _ (by omega) | exact rfl)) ?_
    refine ztg _ rfl (ls rfl (ls rfl (ls rfl (ls rfl (ls rfl (ls rfl (ls rfl (ls rfl (ls rfl lz))))))))) (fun hg4_17 => by
        have hg4_17' := hg4_17
        try simp only [beq_iff_eq, decide_eq_true_eq, decide_eq_false_iff_not, Bool.and_eq_true, Bool.or_eq_true, Bool.or_eq_false_iff, Bool.and_eq_false_iff] at hg4_17'
        exact (by first | exact opD_fieldAddr fo70_0 (ls rfl (ls rfl (ls rfl (ls rfl (ls rfl (ls rfl (ls rfl (ls rfl (ls rfl (ls rfl (ls rfl (ls rfl (ls rfl (ls rfl (ls rfl (ls rfl (ls rfl (os rfl oz)))))))))))))))))) | exact opD_fieldAddr_el fo70_0 (ls rfl (ls rfl (ls rfl (ls rfl (ls rfl (ls rfl (ls rfl (ls rfl (ls rfl (ls rfl (ls rfl (ls rfl (ls rfl (ls rfl (ls rfl (ls rfl (ls rfl (os rfl oz)))))))))))))))))))) ?_
    refine ztg _ rfl (ls rfl (ls rfl (ls rfl (ls rfl (ls rfl (ls rfl (ls rfl (ls rfl (ls rfl (ls rfl lz)))))))))) (fun hg4_18 => by
        have hg4_18' := hg4_18
        try simp only [beq_iff_eq, decide_eq_true_eq, decide_eq_false_iff_not, Bool.and_eq_true, Bool.or_eq_true, Bool.or_eq_false_iff, Bool.and_eq_false_iff] at hg4_18'
        exact (by first | exact opD_load_one ag22 (lz.trans (pif_pos hg4_18)) (by first | exact loc_get rfl | exact old_get (by assumption) | exact hB) rfl | exact opD_load_el_one ag22 (lz.trans (pif_pos hg4_18)) (by first | assumption | simp) rfl)) ?_
    refine ztg _ rfl (ls rfl (ls rfl (ls rfl (ls rfl (ls rfl (ls rfl (ls rfl (ls rfl (ls rfl (ls rfl (ls rfl lz))))))))))) (fun hg4_19 => by
        have hg4_19' := hg4_19
        try simp only [beq_iff_eq, decide_eq_true_eq, decide_eq_false_iff_not, Bool.and_eq_true, Bool.or_eq_true, Bool.or_eq_false_iff, Bool.and_eq_false_iff] at hg4_19'
        exact opD_add (lz.trans (pif_pos hg4_19)) (ev_const _ _) (by first | exact IntWalk.u64_in _ (by omega) | exact rfl)) ?_
    refine ztg _ rfl (ls rfl (ls rfl (ls rfl (ls rfl (ls rfl (ls rfl (ls rfl (ls rfl (ls rfl (ls rfl (ls rfl (ls rfl lz)))))))))))) (fun hg4_20 => by
        have hg4_20' := hg4_20
        try simp only [beq_iff_eq, decide_eq_true_eq, decide_eq_false_iff_not, Bool.and_eq_true, Bool.or_eq_true, Bool.or_eq_false_iff, Bool.and_eq_false_iff] at hg4_20'
        exact opD_neq ((ls rfl (ls rfl (ls rfl lz))).trans (pif_pos hg4_20)) (lz.trans (pif_pos hg4_20))) ?_
    refine zts _ rfl (opD_or (ls rfl (ls rfl (ls rfl (ls rfl (ls rfl (ls rfl (ls rfl (ls rfl (ls rfl (ls rfl (ls rfl (ls rfl (ls rfl lz))))))))))))) lz) ?_
    refine .nil ?_
    refine aw_keep [(32, _), (8, _), (1, _), (3, _)] ⟨lg lz, lg (ls rfl (ls rfl (ls rfl (ls rfl (ls rfl (ls rfl (ls rfl (ls rfl (ls rfl (ls rfl (ls rfl (ls rfl (ls rfl (ls rfl (ls rfl (ls rfl (ls rfl (ls rfl (ls rfl (ls rfl (ls rfl (ls rfl oz)))))))))))))))))))))), lg (ls rfl (ls rfl (ls rfl (ls rfl (ls rfl (ls rfl (ls rfl (ls rfl (ls rfl (ls rfl (ls rfl (ls rfl (ls rfl (ls rfl (ls rfl (ls rfl (ls rfl (ls rfl (ls rfl (ls rfl (ls rfl (ls rfl (os rfl oz))))))))))))))))))))))), lg (ls rfl (ls rfl (ls rfl (ls rfl (ls rfl (ls rfl (ls rfl (ls rfl (ls rfl (ls rfl (ls rfl (ls rfl (ls rfl (ls rfl (ls rfl (ls rfl (ls rfl (ls rfl (ls rfl (ls rfl (ls rfl (ls rfl (os rfl (os rfl oz)))))))))))))))))))))))), trivial⟩ ?_
    refine aw_cond _ oz (fun hc => ?_) (fun hc => ?_)
    · skip
      have hn : ¬ LgOk d l := by
        simp only [Bool.or_eq_true, Bool.not_eq_true', decide_eq_true_eq] at hc
        rintro ⟨h1, _, _, h4⟩
        have h5 := h4 i x hxi
        rcases hc with hc | hc
        · rw [h5.1] at hc; cases hc
        · exact hc (congrArg _ (by omega))
      refine aw_seq ?_
      refine aw_region (by decide) ?_
      refine rts _ rfl (opD_assign (ev_const _ _)) ?_
      refine .nil ?_
      refine aw_keep [(2, _), (32, _), (8, _), (1, _), (3, _)] ⟨lg lz, lg (ls rfl oz), lg (ls rfl (os rfl oz)), lg (ls rfl (os rfl (os rfl oz))), lg (ls rfl (os rfl (os rfl (os rfl oz)))), trivial⟩ ?_
      refine aw_ret ?_
      exact done_ext (.inr rfl) ((res_1 rfl (eg oz)).le (le_of_eq (congrArg (fun b => pl (.bool b)) (by first | exact (lgOk_f hn).symm | exact hfin)))) (pl_bnd _ _ _)
    · skip
      simp only [Bool.or_eq_false_iff, Bool.not_eq_false', decide_eq_false_iff_not, Decidable.not_not, ne_eq] at hc
      refine aw_skip ?_
      refine aw_keep [(32, _), (8, _), (1, _), (3, _)] ⟨lg oz, lg (os rfl oz), lg (os rfl (os rfl oz)), lg (os rfl (os rfl (os rfl oz))), trivial⟩ ?_
      refine aw_region (by decide) ?_
      refine rts _ rfl (opD_move (os rfl (os rfl (os rfl oz)))) ?_
      refine rts _ rfl (opD_add lz (ev_const _ _) (by first | exact IntWalk.i64_in _ (by omega) | exact rfl)) ?_
      refine rts _ rfl (opD_assign lz) ?_
      refine .nil ?_
      refine ⟨n - 1, by omega, i + 1, ⟨le_of_eq (eg (ls rfl (ls rfl (ls rfl (os rfl (os rfl oz)))))), le_of_eq (eg lz), trivial⟩, rfl, by omega, fun j y hj hy => ?_⟩
      by_cases hji : j = i
      · subst hji; rw [hxi] at hy; cases hy; exact ⟨hc.1, fun h => may_seq h (by omega) q1 hc.2⟩
      · exact hall j y (by omega) hy
  · skip
    have hge : ¬ i < l.length := by have := of_decide_eq_false hc; omega
    have hfin := may_end (fun j x hj hjx => hall j x (by omega) hjx)
    refine aw_exit ?_
    refine aw_keep [(8, _), (1, _), (3, _)] ⟨lg oz, lg (os rfl oz), lg (os rfl (os rfl oz)), trivial⟩ ?_
    refine aw_seq ?_
    refine aw_region (by decide) ?_
    refine rts _ rfl ((by first | exact opD_fieldAddr fo70_0 (os rfl oz) | exact opD_fieldAddr_el fo70_0 (os rfl oz))) ?_
    refine rts _ rfl ((by first | exact opD_load_one ag22 lz (by first | exact loc_get rfl | exact old_get (by assumption)) rfl | exact opD_load_el_one ag22 lz (by first | assumption | simp) rfl)) ?_
    refine rts _ rfl (opD_leq lz (ev_const _ _)) ?_
    refine rts _ rfl (opD_move lz) ?_
    refine rtg _ rfl lz (fun hg6_4 => by
        have hg6_4' := hg6_4
        try simp only [beq_iff_eq, decide_eq_true_eq, decide_eq_false_iff_not, Bool.and_eq_true, Bool.or_eq_true, Bool.or_eq_false_iff, Bool.and_eq_false_iff] at hg6_4'
        exact (by first | exact opD_fieldAddr fo70_1 (ls rfl (ls rfl (ls rfl (ls rfl (os rfl oz))))) | exact opD_fieldAddr_el fo70_1 (ls rfl (ls rfl (ls rfl (ls rfl (os rfl oz))))))) ?_
    refine rtg _ rfl (ls rfl lz) (fun hg6_5 => by
        have hg6_5' := hg6_5
        try simp only [beq_iff_eq, decide_eq_true_eq, decide_eq_false_iff_not, Bool.and_eq_true, Bool.or_eq_true, Bool.or_eq_false_iff, Bool.and_eq_false_iff] at hg6_5'
        exact (by first | exact opD_load_one ag54 (lz.trans (pif_pos hg6_5)) (by first | exact loc_get rfl | exact old_get (by assumption) | exact hB) rfl | exact opD_load_el_one ag54 (lz.trans (pif_pos hg6_5)) (by first | assumption | simp) rfl)) ?_
    refine rtg _ rfl (ls rfl (ls rfl lz)) (fun hg6_6 => by
        have hg6_6' := hg6_6
        try simp only [beq_iff_eq, decide_eq_true_eq, decide_eq_false_iff_not, Bool.and_eq_true, Bool.or_eq_true, Bool.or_eq_false_iff, Bool.and_eq_false_iff] at hg6_6'
        exact opD_len_sl Go.Proofs.Tryd.underlying54 (lz.trans (pif_pos hg6_6))) ?_
    refine rtg _ rfl (ls rfl (ls rfl (ls rfl lz))) (fun hg6_7 => by
        have hg6_7' := hg6_7
        try simp only [beq_iff_eq, decide_eq_true_eq, decide_eq_false_iff_not, Bool.and_eq_true, Bool.or_eq_true, Bool.or_eq_false_iff, Bool.and_eq_false_iff] at hg6_7'
        exact opD_eql (lz.trans (pif_pos hg6_7)) (ev_const _ _)) ?_
    refine rtg _ rfl (ls rfl (ls rfl (ls rfl (ls rfl lz)))) (fun hg6_8 => by
        have hg6_8' := hg6_8
        try simp only [beq_iff_eq, decide_eq_true_eq, decide_eq_false_iff_not, Bool.and_eq_true, Bool.or_eq_true, Bool.or_eq_false_iff, Bool.and_eq_false_iff] at hg6_8'
        exact opD_move (lz.trans (pif_pos hg6_8))) ?_
    refine rtg2 _ rfl lz (fun hg6_9 => by
        have hg6_9' := hg6_9
        try simp only [beq_iff_eq, decide_eq_true_eq, decide_eq_false_iff_not, Bool.and_eq_true, Bool.or_eq_true, Bool.or_eq_false_iff, Bool.and_eq_false_iff] at hg6_9'
        exact (by first | exact opD_fieldAddr fo70_1 (ls rfl (ls rfl (ls rfl (ls rfl (ls rfl (ls rfl (ls rfl (ls rfl (ls rfl (os rfl oz)))))))))) | exact opD_fieldAddr_el fo70_1 (ls rfl (ls rfl (ls rfl (ls rfl (ls rfl (ls rfl (ls rfl (ls rfl (ls rfl (os rfl oz)))))))))))) ?_
    refine rtg2 _ rfl (ls rfl lz) (fun hg6_10 => by
        have hg6_10' := hg6_10
        try simp only [beq_iff_eq, decide_eq_true_eq, decide_eq_false_iff_not, Bool.and_eq_true, Bool.or_eq_true, Bool.or_eq_false_iff, Bool.and_eq_false_iff] at hg6_10'
        exact (by first | exact opD_load_one ag54 (lz.trans (pif_pos hg6_10)) (by first | exact loc_get rfl | exact old_get (by assumption) | exact hB) rfl | exact opD_load_el_one ag54 (lz.trans (pif_pos hg6_10)) (by first | assumption | simp) rfl)) ?_
    refine rtg2 _ rfl (ls rfl (ls rfl lz)) (fun hg6_11 => by
        have hg6_11' := hg6_11
        try simp only [beq_iff_eq, decide_eq_true_eq, decide_eq_false_iff_not, Bool.and_eq_true, Bool.or_eq_true, Bool.or_eq_false_iff, Bool.and_eq_false_iff] at hg6_11'
        exact opD_len_sl Go.Proofs.Tryd.underlying54 (lz.trans (pif_pos hg6_11))) ?_
    refine rtg2 _ rfl (ls rfl (ls rfl (ls rfl lz))) (fun hg6_12 => by
        have hg6_12' := hg6_12
        try simp only [beq_iff_eq, decide_eq_true_eq, decide_eq_false_iff_not, Bool.and_eq_true, Bool.or_eq_true, Bool.or_eq_false_iff, Bool.and_eq_false_iff] at hg6_12'
        exact opD_lss (lz.trans (pif_pos hg6_12)) (ev_const _ _)) ?_
    refine rtg2 _ rfl (ls rfl (ls rfl (ls rfl (ls rfl lz)))) (fun hg6_13 => by
        have hg6_13' := hg6_13
        try simp only [beq_iff_eq, decide_eq_true_eq, decide_eq_false_iff_not, Bool.and_eq_true, Bool.or_eq_true, Bool.or_eq_false_iff, Bool.and_eq_false_iff] at hg6_13'
        exact opD_move (lz.trans (pif_pos hg6_13))) ?_
    refine rtg2 _ rfl lz (fun hg6_14 => by
        have hg6_14' := hg6_14
        try simp only [beq_iff_eq, decide_eq_true_eq, decide_eq_false_iff_not, Bool.and_eq_true, Bool.or_eq_true, Bool.or_eq_false_iff, Bool.and_eq_false_iff] at hg6_14'
        exact (by first | exact opD_fieldAddr fo70_0 (ls rfl (ls rfl (ls rfl (ls rfl (ls rfl (ls rfl (ls rfl (ls rfl (ls rfl (ls rfl (ls rfl (ls rfl (ls rfl (ls rfl (os rfl oz))))))))))))))) | exact opD_fieldAddr_el fo70_0 (ls rfl (ls rfl (ls rfl (ls rfl (ls rfl (ls rfl (ls rfl (ls rfl (ls rfl (ls rfl (ls rfl (ls rfl (ls rfl (ls rfl (os rfl oz))))))))))))))))) ?_
    refine rtg2 _ rfl (ls rfl lz) (fun hg6_15 => by
        have hg6_15' := hg6_15
        try simp only [beq_iff_eq, decide_eq_true_eq, decide_eq_false_iff_not, Bool.and_eq_true, Bool.or_eq_true, Bool.or_eq_false_iff, Bool.and_eq_false_iff] at hg6_15'
        exact (by first | exact opD_load_one ag22 (lz.trans (pif_pos hg6_15)) (by first | exact loc_get rfl | exact old_get (by assumption) | exact hB) rfl | exact opD_load_el_one ag22 (lz.trans (pif_pos hg6_15)) (by first | assumption | simp) rfl)) ?_
    refine rtg2 _ rfl (ls rfl (ls rfl lz)) (fun hg6_16 => by
        have hg6_16' := hg6_16
        try simp only [beq_iff_eq, decide_eq_true_eq, decide_eq_false_iff_not, Bool.and_eq_true, Bool.or_eq_true, Bool.or_eq_false_iff, Bool.and_eq_false_iff] at hg6_16'
        exact opD_eql (lz.trans (pif_pos hg6_16)) (ev_const _ _)) ?_
    refine rtg2 _ rfl (ls rfl (ls rfl (ls rfl (ls rfl (ls rfl (ls rfl (ls rfl (ls rfl lz)))))))) (fun hg6_17 => by
        have hg6_17' := hg6_17
        try simp only [beq_iff_eq, decide_eq_true_eq, decide_eq_false_iff_not, Bool.and_eq_true, Bool.or_eq_true, Bool.or_eq_false_iff, Bool.and_eq_false_iff] at hg6_17'
        exact opD_and ((ls rfl (ls rfl (ls rfl lz))).trans (pif_pos hg6_17)) (lz.trans (pif_and hg6_17))) ?_
    refine rtg _ rfl (ls rfl (ls rfl (ls rfl (ls rfl (ls rfl (ls rfl (ls rfl (ls rfl (ls rfl (ls rfl (ls rfl (ls rfl (ls rfl (ls rfl lz)))))))))))))) (fun hg6_18 => by
        have hg6_18' := hg6_18
        try simp only [beq_iff_eq, decide_eq_true_eq, decide_eq_false_iff_not, Bool.and_eq_true, Bool.or_eq_true, Bool.or_eq_false_iff, Bool.and_eq_false_iff] at hg6_18'
        exact opD_or ((ls rfl (ls rfl (ls rfl (ls rfl (ls rfl (ls rfl (ls rfl (ls rfl (ls rfl lz))))))))).trans (pif_pos hg6_18)) (lz.trans (pif_and hg6_18))) ?_
    refine rts _ rfl (opD_and (ls rfl (ls rfl (ls rfl (ls rfl (ls rfl (ls rfl (ls rfl (ls rfl (ls rfl (ls rfl (ls rfl (ls rfl (ls rfl (ls rfl (ls rfl lz))))))))))))))) lz) ?_
    refine rts _ rfl (opD_assign lz) ?_
    refine .nil ?_
    refine aw_keep [(2, _), (8, _), (1, _), (3, _)] ⟨lg lz, lg (ls rfl (ls rfl (ls rfl (ls rfl (ls rfl (ls rfl (ls rfl (ls rfl (ls rfl (ls rfl (ls rfl (ls rfl (ls rfl (ls rfl (ls rfl (ls rfl (ls rfl (ls rfl (ls rfl (ls rfl (ls rfl oz))))))))))))))))))))), lg (ls rfl (ls rfl (ls rfl (ls rfl (ls rfl (ls rfl (ls rfl (ls rfl (ls rfl (ls rfl (ls rfl (ls rfl (ls rfl (ls rfl (ls rfl (ls rfl (ls rfl (ls rfl (ls rfl (ls rfl (ls rfl (os rfl oz)))))))))))))))))))))), lg (ls rfl (ls rfl (ls rfl (ls rfl (ls rfl (ls rfl (ls rfl (ls rfl (ls rfl (ls rfl (ls rfl (ls rfl (ls rfl (ls rfl (ls rfl (ls rfl (ls rfl (ls rfl (ls rfl (ls rfl (ls rfl (os rfl (os rfl oz))))))))))))))))))))))), trivial⟩ ?_
    refine aw_ret ?_
    exact done_ext (.inr rfl) ((res_1 rfl (eg oz)).le (le_of_eq (congrArg (fun b => pl (.bool b)) (by first | exact (lgOk_f hn).symm | exact hfin)))) (pl_bnd _ _ _)
end Go.Proofs.YtmnhfpcbfdgbcaaDoor.Eng.Lc

