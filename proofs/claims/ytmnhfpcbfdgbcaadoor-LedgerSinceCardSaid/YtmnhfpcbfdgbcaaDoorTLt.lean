/- TLt: what the functions of one package do, walked; used by the laws of this seat. -/
import Derived.Test.YtmnhfpcbfdgbcaaDoorTLs
namespace Go.Proofs.YtmnhfpcbfdgbcaaDoor.Eng.Lt
set_option linter.unusedVariables false
set_option linter.unusedSimpArgs false
open Go.RowKit Go.Proofs.YtmnhfpcbfdgbcaaDoor.Plain Go.Proofs.YtmnhfpcbfdgbcaaDoor.Eng

theorem ag22 : aggT Go.Proofs.Tryd.prog 22 = some false := by kernel_rfl
theorem ag70 : aggT Go.Proofs.Tryd.prog 70 = some true := by kernel_rfl
theorem sz70 : sizeT Go.Proofs.Tryd.prog 70 = some 2 := by kernel_rfl
theorem ht48 : hasText Go.Proofs.Tryd.prog 48 = true := by kernel_rfl
theorem fo70_1 : fieldOff Go.Proofs.Tryd.prog 70 1 = some 1 := by kernel_rfl
theorem ag54 : aggT Go.Proofs.Tryd.prog 54 = some false := by kernel_rfl
theorem sz60 : sizeT Go.Proofs.Tryd.prog 60 = some 5 := by kernel_rfl
theorem fo60_0 : fieldOff Go.Proofs.Tryd.prog 60 0 = some 0 := by kernel_rfl
theorem mixed : Go.Proofs.Tryd.prog.follows .mixedOrders = true := by kernel_rfl
theorem sz63 : sizeT Go.Proofs.Tryd.prog 63 = some 5 := by kernel_rfl
theorem ag63 : aggT Go.Proofs.Tryd.prog 63 = some true := by kernel_rfl
theorem ag60 : aggT Go.Proofs.Tryd.prog 60 = some true := by kernel_rfl
theorem ag57 : aggT Go.Proofs.Tryd.prog 57 = some true := by kernel_rfl
theorem sz57 : sizeT Go.Proofs.Tryd.prog 57 = some 2 := by kernel_rfl
theorem zt57 : zeroT Go.Proofs.Tryd.prog 57 = some [.int .u64 0, .slice none 0 0] := by kernel_rfl
theorem fo70_0 : fieldOff Go.Proofs.Tryd.prog 70 0 = some 0 := by kernel_rfl
theorem pt57 : placesT Go.Proofs.Tryd.prog 57 2 = some [(0, 1), (1, 1)] := by kernel_rfl
theorem fo57_1 : fieldOff Go.Proofs.Tryd.prog 57 1 = some 1 := by kernel_rfl
theorem ag55 : aggT Go.Proofs.Tryd.prog 55 = some false := by kernel_rfl
theorem zt63 : zeroT Go.Proofs.Tryd.prog 63 = some [.int .u64 0, .int .u64 0, .int .u8 0, .int .u16 0, .string ⟨#[]⟩] := by kernel_rfl
theorem el63 : elT Go.Proofs.Tryd.prog 63 = some (5, 40) := by kernel_rfl
theorem sz55 : sizeT Go.Proofs.Tryd.prog 55 = some 1 := by kernel_rfl

open Go.Proofs.YtmnhfpcbfdgbcaaDoor.Eng.Pk Go.Proofs.YtmnhfpcbfdgbcaaDoor.Eng.Rd Go.Proofs.YtmnhfpcbfdgbcaaDoor.Eng.Pb Go.Proofs.YtmnhfpcbfdgbcaaDoor.Eng.Er Go.Proofs.YtmnhfpcbfdgbcaaDoor.Eng.Rf06 Go.Proofs.YtmnhfpcbfdgbcaaDoor.Eng.Lg Go.Proofs.YtmnhfpcbfdgbcaaDoor.Eng.Lc Go.Proofs.YtmnhfpcbfdgbcaaDoor.Eng.Ls
noncomputable def errN (d : Nat) (l : List Ln) : Int := if lgOk d l = true then 0 else 1
theorem errN_f {d : Nat} {l : List Ln} (h : ¬ LgOk d l) : errN d l = 1 := by simp [errN, lgOk_f h]
theorem errN_t {d : Nat} {l : List Ln} (h : LgOk d l) : errN d l = 0 := by simp [errN, lgOk_t h]
theorem not_ok {d : Nat} {l : List Ln} (h : (!lgOk d l) = true) : ¬ LgOk d l := fun h2 => by rw [lgOk_t h2] at h; cases h
theorem is_ok {d : Nat} {l : List Ln} (h : (!lgOk d l) = false) : LgOk d l := lgOk_iff.1 (by simpa using h)
theorem lines_eq {a b : List Ln} (hl : a.length = b.length) (h : ∀ j, j < b.length → a[j]? = b[j]?) : a = b := List.ext_getElem? fun j => by
  by_cases hj : j < b.length
  · exact h j hj
  · rw [List.getElem?_eq_none (by omega), List.getElem?_eq_none (by omega)]
theorem gd {l : List Ln} {i : Nat} {x : Ln} (h : l[i]? = some x) : l.getD i ln0 = x := by rw [List.getD_eq_getElem?_getD, h]; rfl

set_option maxRecDepth 100000 in
set_option maxHeartbeats 1000000 in
theorem lg_Since {d q : Nat} {l : List Ln} (hd : d < 18446744073709551616) (hl : l.length ≤ 1000000) (hx : ∀ x ∈ l, LnOk x) : Pure Go.Proofs.Tryd.prog 43 [lgP d l, pl (.int .u64 (q : Int))] (tup [sl kL none none (sinceL d l q), pl (.int .i64 (errN d l))]) := by
  intro s
  unfold lgP
  refine ac_of_aw s.boxes.length s.fr.length Go.Proofs.Tryd.func43 rfl (by simp [Go.Proofs.Tryd.ntmps43]) ?_
  refine aw_ext0 ?_
  refine aw_keep [(0, _), (1, _)] ⟨lg ez, lg (es ez), trivial⟩ ?_
  refine aw_seq ?_
  refine aw_region (by decide) ?_
  refine rts _ rfl (opD_boxA oz (by repeat (first | exact bnd_nil | refine bnd_cons (by first | exact pl_bnd _ _ _ | exact sl_bnd (kL_bnd _ _ _) | exact sl_bnd (kI_bnd _ _ _ _) | exact ptr_bnd _ (by omega) | exact any_bnd _ _ | exact sl_own_bnd (kL_bnd _ _ _) (by omega) | exact sl_own_bnd (kL_bnd _ _ _) (by simp only [List.length_append, List.length_cons, List.length_nil]; omega)) ?_)) (by first | exact List.length_nil | (simp only [List.length_cons, List.length_nil, Nat.zero_add, Nat.reduceAdd]; rfl)) (by simp only [List.nil_append, List.cons_append, List.map_cons, List.map_nil, List.set_cons_zero, List.set_cons_succ, List.take_succ_cons, List.take_zero, List.drop_succ_cons, List.drop_zero]; rfl)) ?_
  refine rts _ rfl (opD_assign (ev_const _ _)) ?_
  refine rts _ rfl (opD_assign (ev_const _ _)) ?_
  refine .nil ?_
  refine aw_keep [(5, _), (4, _), (2, _), (0, _), (1, _)] ⟨lg lz, lg (ls rfl lz), lg (ls rfl (ls rfl lz)), lg (ls rfl (ls rfl (ls rfl oz))), lg (ls rfl (ls rfl (ls rfl (os rfl oz)))), trivial⟩ ?_
  refine aw_seq ?_
  refine aw_seq ?_
  refine aw_region (by decide) ?_
  refine rts _ rfl ((by first | exact opD_load_aggX (qs := [_, _]) ag70 sz70 (os rfl (os rfl oz)) (by first | exact loc_get rfl | exact old_get (by assumption)) (by simp) rfl | exact opD_load_el_aggX (qs := [_, _]) ag70 sz70 (os rfl (os rfl oz)) (by first | assumption | simp) (by decide) rfl)) ?_
  refine rts _ rfl (opD_pure ht48 (lg_May hd (by omega) hx) ⟨le_of_eq lz, trivial⟩) ?_
  refine rts _ rfl (opD_not lz) ?_
  refine .nil ?_
  refine aw_keep [(9, _), (5, _), (4, _), (2, _), (0, _), (1, _)] ⟨lg lz, lg (ls rfl (ls rfl (ls rfl oz))), lg (ls rfl (ls rfl (ls rfl (os rfl oz)))), lg (ls rfl (ls rfl (ls rfl (os rfl (os rfl oz))))), lg (ls rfl (ls rfl (ls rfl (os rfl (os rfl (os rfl oz)))))), lg (ls rfl (ls rfl (ls rfl (os rfl (os rfl (os rfl (os rfl oz))))))), trivial⟩ ?_
  refine aw_cond _ oz (fun hc => ?_) (fun hc => ?_)
  · skip
    have hn := not_ok hc
    refine aw_seq ?_
    refine aw_region (by decide) ?_
    refine rts _ rfl (opD_assign (ev_const _ _)) ?_
    refine rts _ rfl (opD_assign (ev_const _ _)) ?_
    refine .nil ?_
    refine aw_keep [(5, _), (4, _), (9, _), (2, _), (0, _), (1, _)] ⟨lg lz, lg (ls rfl lz), lg (ls rfl (ls rfl oz)), lg (ls rfl (ls rfl (os rfl (os rfl (os rfl oz))))), lg (ls rfl (ls rfl (os rfl (os rfl (os rfl (os rfl oz)))))), lg (ls rfl (ls rfl (os rfl (os rfl (os rfl (os rfl (os rfl oz))))))), trivial⟩ ?_
    refine aw_ret ?_
    first | exact done_ext (.inr rfl) ((res_2 rfl (eg (os rfl oz)) (eg oz)).le (tup_le ⟨(le_nil rfl).trans (le_of_eq (by rw [sinceL_f hn])), le_of_eq (by rw [errN_f hn]), trivial⟩)) (tup_bnd (bnd_cons (sl_bnd (kL_bnd _ _ _)) (bnd_cons (pl_bnd _ _ _) bnd_nil))) | exact done_ext (.inr rfl) ((res_2 rfl (eg (os rfl oz)) (eg oz)).le (tup_le ⟨(le_sl rfl).trans (le_of_eq (by rw [hfin])), le_of_eq (by rw [errN_t hok]), trivial⟩)) (tup_bnd (bnd_cons (sl_bnd (kL_bnd _ _ _)) (bnd_cons (pl_bnd _ _ _) bnd_nil)))
  · skip
    have hok := is_ok hc
    refine aw_skip ?_
    refine aw_keep [(9, _), (5, _), (4, _), (2, _), (0, _), (1, _)] ⟨lg oz, lg (os rfl oz), lg (os rfl (os rfl oz)), lg (os rfl (os rfl (os rfl oz))), lg (os rfl (os rfl (os rfl (os rfl oz)))), lg (os rfl (os rfl (os rfl (os rfl (os rfl oz))))), trivial⟩ ?_
    refine aw_seq ?_
    refine aw_region (by decide) ?_
    refine rts _ rfl (opD_assign (ev_const _ _)) ?_
    refine .nil ?_
    refine aw_keep [(6, _), (9, _), (5, _), (4, _), (2, _), (0, _), (1, _)] ⟨lg lz, lg (ls rfl oz), lg (ls rfl (os rfl oz)), lg (ls rfl (os rfl (os rfl oz))), lg (ls rfl (os rfl (os rfl (os rfl oz)))), lg (ls rfl (os rfl (os rfl (os rfl (os rfl oz))))), lg (ls rfl (os rfl (os rfl (os rfl (os rfl (os rfl oz)))))), trivial⟩ ?_
    refine aw_seq ?_
    refine aw_block ?_
    refine aw_loop (fun n e st => ∃ (i : Nat), Holds e [(1, pl (.int .u64 (q : Int))), (2, ptr (s.boxes.length + 0) 0), (6, pl (.int .i64 (i : Int)))] ∧ st = s.ext [⟨70, [pl (.int .u64 (d : Int)), sl kL none none l]⟩] [] ∧ n + i = l.length ∧ ∀ (j : Nat) (x : Ln), j < i → l[j]? = some x → x.seq < q) (l.length) (⟨0, ⟨le_of_eq (eg (os rfl (os rfl (os rfl (os rfl (os rfl (os rfl oz))))))), le_of_eq (eg (os rfl (os rfl (os rfl (os rfl oz))))), le_of_eq (eg oz), trivial⟩, rfl, by omega, fun j x hj => by omega⟩) ?_
    rintro n e st ⟨i, hH, rfl, hn0, hall⟩
    refine aw_keep _ hH ?_
    refine aw_seq ?_
    refine aw_seq ?_
    refine aw_region (by decide) ?_
    refine rts _ rfl (opD_move (os rfl (os rfl oz))) ?_
    refine rts _ rfl ((by first | exact opD_fieldAddr fo70_1 (ls rfl (os rfl oz)) | exact opD_fieldAddr_el fo70_1 (ls rfl (os rfl oz)))) ?_
    refine rts _ rfl ((by first | exact opD_load_one ag54 lz (by first | exact loc_get rfl | exact old_get (by assumption)) rfl | exact opD_load_el_one ag54 lz (by first | assumption | simp) rfl)) ?_
    refine rts _ rfl (opD_len_sl Go.Proofs.Tryd.underlying54 lz) ?_
    refine rts _ rfl (opD_lss (ls rfl (ls rfl (ls rfl lz))) lz) ?_
    refine rts _ rfl (opD_move lz) ?_
    refine rtg _ rfl lz (fun hg4_6 => by
        have hg4_6' := hg4_6
        try simp only [beq_iff_eq, decide_eq_true_eq, decide_eq_false_iff_not, Bool.and_eq_true, Bool.or_eq_true, Bool.or_eq_false_iff, Bool.and_eq_false_iff] at hg4_6'
        exact (by first | exact opD_fieldAddr fo70_1 (ls rfl (ls rfl (ls rfl (ls rfl (ls rfl (ls rfl (os rfl oz))))))) | exact opD_fieldAddr_el fo70_1 (ls rfl (ls rfl (ls rfl (ls rfl (ls rfl (ls rfl (os rfl oz))))))))) ?_
    refine rtg _ rfl (ls rfl lz) (fun hg4_7 => by
        have hg4_7' := hg4_7
        try simp only [beq_iff_eq, decide_eq_true_eq, decide_eq_false_iff_not, Bool.and_eq_true, Bool.or_eq_true, Bool.or_eq_false_iff, Bool.and_eq_false_iff] at hg4_7'
        exact (by first | exact opD_load_one ag54 (lz.trans (pif_pos hg4_7)) (by first | exact loc_get rfl | exact old_get (by assumption) | exact hB) rfl | exact opD_load_el_one ag54 (lz.trans (pif_pos hg4_7)) (by first | assumption | simp) rfl)) ?_
    refine rtg _ rfl (ls rfl (ls rfl lz)) (fun hg4_8 => by
        have hg4_8' := hg4_8
        try simp only [beq_iff_eq, decide_eq_true_eq, decide_eq_false_iff_not, Bool.and_eq_true, Bool.or_eq_true, Bool.or_eq_false_iff, Bool.and_eq_false_iff] at hg4_8'
        exact opD_move (ls rfl (ls rfl (ls rfl (ls rfl (ls rfl (ls rfl (ls rfl (ls rfl (os rfl (os rfl oz))))))))))) ?_
    refine rtg _ rfl (ls rfl (ls rfl (ls rfl lz))) (fun hg4_9 => by
        have hg4_9' := hg4_9
        try simp only [beq_iff_eq, decide_eq_true_eq, decide_eq_false_iff_not, Bool.and_eq_true, Bool.or_eq_true, Bool.or_eq_false_iff, Bool.and_eq_false_iff] at hg4_9'
        exact opD_indexAddr_sl Go.Proofs.Tryd.underlying54 sz60 ((ls rfl lz).trans (pif_pos hg4_9)) (lz.trans (pif_pos hg4_9)) (by first | rfl | simp | omega) (by first | assumption | omega)) ?_
    refine rtg _ rfl (ls rfl (ls rfl (ls rfl (ls rfl lz)))) (fun hg4_10 => by
        have hg4_10' := hg4_10
        try simp only [beq_iff_eq, decide_eq_true_eq, decide_eq_false_iff_not, Bool.and_eq_true, Bool.or_eq_true, Bool.or_eq_false_iff, Bool.and_eq_false_iff] at hg4_10'
        exact (by first | exact opD_fieldAddr fo60_0 (lz.trans (pif_pos hg4_10)) | exact opD_fieldAddr_el fo60_0 (lz.trans (pif_pos hg4_10)))) ?_
    refine rtg _ rfl (ls rfl (ls rfl (ls rfl (ls rfl (ls rfl lz))))) (fun hg4_11 => by
        have hg4_11' := hg4_11
        try simp only [beq_iff_eq, decide_eq_true_eq, decide_eq_false_iff_not, Bool.and_eq_true, Bool.or_eq_true, Bool.or_eq_false_iff, Bool.and_eq_false_iff] at hg4_11'
        exact opD_load_el_one ag22 (lz.trans (pif_pos hg4_11)) (at_getD ln0 (by omega)) rfl) ?_
    refine rtg _ rfl (ls rfl (ls rfl (ls rfl (ls rfl (ls rfl (ls rfl lz)))))) (fun hg4_12 => by
        have hg4_12' := hg4_12
        try simp only [beq_iff_eq, decide_eq_true_eq, decide_eq_false_iff_not, Bool.and_eq_true, Bool.or_eq_true, Bool.or_eq_false_iff, Bool.and_eq_false_iff] at hg4_12'
        exact opD_move (ls rfl (ls rfl (ls rfl (ls rfl (ls rfl (ls rfl (ls rfl (ls rfl (ls rfl (ls rfl (ls rfl (ls rfl oz))))))))))))) ?_
    refine rtg _ rfl (ls rfl (ls rfl (ls rfl (ls rfl (ls rfl (ls rfl (ls rfl lz))))))) (fun hg4_13 => by
        have hg4_13' := hg4_13
        try simp only [beq_iff_eq, decide_eq_true_eq, decide_eq_false_iff_not, Bool.and_eq_true, Bool.or_eq_true, Bool.or_eq_false_iff, Bool.and_eq_false_iff] at hg4_13'
        exact opD_lss ((ls rfl lz).trans (pif_pos hg4_13)) (lz.trans (pif_pos hg4_13))) ?_
    refine rts _ rfl (opD_and (ls rfl (ls rfl (ls rfl (ls rfl (ls rfl (ls rfl (ls rfl (ls rfl lz)))))))) lz) ?_
    refine .nil ?_
    refine aw_keep [(24, _), (1, _), (2, _), (6, _)] ⟨lg lz, lg (ls rfl (ls rfl (ls rfl (ls rfl (ls rfl (ls rfl (ls rfl (ls rfl (ls rfl (ls rfl (ls rfl (ls rfl (ls rfl (ls rfl (ls rfl oz))))))))))))))), lg (ls rfl (ls rfl (ls rfl (ls rfl (ls rfl (ls rfl (ls rfl (ls rfl (ls rfl (ls rfl (ls rfl (ls rfl (ls rfl (ls rfl (ls rfl (os rfl oz)))))))))))))))), lg (ls rfl (ls rfl (ls rfl (ls rfl (ls rfl (ls rfl (ls rfl (ls rfl (ls rfl (ls rfl (ls rfl (ls rfl (ls rfl (ls rfl (ls rfl (os rfl (os rfl oz))))))))))))))))), trivial⟩ ?_
    refine aw_cond _ oz (fun hc => ?_) (fun hc => ?_)
    · skip
      simp only [Bool.and_eq_true, decide_eq_true_eq] at hc
      have hlt : i < l.length := by omega
      obtain ⟨x, hxi, hok⟩ := ln_at hx hlt
      rw [gd hxi] at hc
      refine aw_skip ?_
      refine aw_keep [(24, _), (1, _), (2, _), (6, _)] ⟨lg oz, lg (os rfl oz), lg (os rfl (os rfl oz)), lg (os rfl (os rfl (os rfl oz))), trivial⟩ ?_
      refine aw_block ?_
      refine aw_region (by decide) ?_
      refine rts _ rfl (opD_move (os rfl (os rfl (os rfl oz)))) ?_
      refine rts _ rfl (opD_add lz (ev_const _ _) (by first | exact IntWalk.i64_in _ (by omega) | exact rfl)) ?_
      refine rts _ rfl (opD_assign lz) ?_
      refine .nil ?_
      refine ⟨n - 1, by omega, i + 1, ⟨le_of_eq (eg (ls rfl (ls rfl (ls rfl (os rfl oz))))), le_of_eq (eg (ls rfl (ls rfl (ls rfl (os rfl (os rfl oz)))))), le_of_eq (eg lz), trivial⟩, rfl, by omega, fun j y hj hy => ?_⟩
      by_cases hji : j = i
      · subst hji; rw [hxi] at hy; cases hy; omega
      · exact hall j y (by omega) hy
    · skip
      simp only [Bool.and_eq_false_iff, decide_eq_false_iff_not] at hc
      have hfin : l.drop i = sinceL d l q := by
        rw [sinceL_t hok]
        refine from_drop hok (by omega) hall fun hlt => ?_
        obtain ⟨x, hxi, hxo⟩ := ln_at hx hlt
        rw [gd hxi] at hc
        exact ⟨x, hxi, by omega⟩
      refine aw_exit ?_
      refine aw_keep [(24, _), (1, _), (2, _), (6, _)] ⟨lg oz, lg (os rfl oz), lg (os rfl (os rfl oz)), lg (os rfl (os rfl (os rfl oz))), trivial⟩ ?_
      refine aw_seq ?_
      refine aw_region (by decide) ?_
      refine rts _ rfl ((by first | exact opD_fieldAddr fo70_1 (os rfl (os rfl oz)) | exact opD_fieldAddr_el fo70_1 (os rfl (os rfl oz)))) ?_
      refine rts _ rfl ((by first | exact opD_load_one ag54 lz (by first | exact loc_get rfl | exact old_get (by assumption)) rfl | exact opD_load_el_one ag54 lz (by first | assumption | simp) rfl)) ?_
      refine rts _ rfl (opD_move (ls rfl (ls rfl (os rfl (os rfl (os rfl oz)))))) ?_
      refine rts _ rfl (opD_slice_from i Go.Proofs.Tryd.underlying54 sz60 (ls rfl lz) lz rfl (by omega)) ?_
      refine rts _ rfl (opD_assign lz) ?_
      refine rts _ rfl (opD_assign (ev_const _ _)) ?_
      refine .nil ?_
      refine aw_keep [(5, _), (4, _), (24, _), (1, _), (2, _), (6, _)] ⟨lg lz, lg (ls rfl lz), lg (ls rfl (ls rfl (ls rfl (ls rfl (ls rfl (ls rfl oz)))))), lg (ls rfl (ls rfl (ls rfl (ls rfl (ls rfl (ls rfl (os rfl oz))))))), lg (ls rfl (ls rfl (ls rfl (ls rfl (ls rfl (ls rfl (os rfl (os rfl oz)))))))), lg (ls rfl (ls rfl (ls rfl (ls rfl (ls rfl (ls rfl (os rfl (os rfl (os rfl oz))))))))), trivial⟩ ?_
      refine aw_ret ?_
      first | exact done_ext (.inr rfl) ((res_2 rfl (eg (os rfl oz)) (eg oz)).le (tup_le ⟨(le_nil rfl).trans (le_of_eq (by rw [sinceL_f hn])), le_of_eq (by rw [errN_f hn]), trivial⟩)) (tup_bnd (bnd_cons (sl_bnd (kL_bnd _ _ _)) (bnd_cons (pl_bnd _ _ _) bnd_nil))) | exact done_ext (.inr rfl) ((res_2 rfl (eg (os rfl oz)) (eg oz)).le (tup_le ⟨(le_sl rfl).trans (le_of_eq (by rw [hfin])), le_of_eq (by rw [errN_t hok]), trivial⟩)) (tup_bnd (bnd_cons (sl_bnd (kL_bnd _ _ _)) (bnd_cons (pl_bnd _ _ _) bnd_nil)))

set_option maxRecDepth 100000 in
set_option maxHeartbeats 1000000 in
theorem are_lines {a b : List Ln} (hla : a.length ≤ 1000000) (hlb : b.length ≤ 1000000) : Pure Go.Proofs.Tryd.prog 36 [sl kL none none a, sl kL none none b] (pl (.bool (decide (a = b)))) := by
  intro s
  refine ac_of_aw s.boxes.length s.fr.length Go.Proofs.Tryd.func36 rfl (by simp [Go.Proofs.Tryd.ntmps36]) ?_
  refine aw_ext0 ?_
  refine aw_keep [(0, _), (1, _)] ⟨lg ez, lg (es ez), trivial⟩ ?_
  refine aw_seq ?_
  refine aw_region (by decide) ?_
  refine rts _ rfl (opD_assign (ev_const _ _)) ?_
  refine .nil ?_
  refine aw_keep [(4, _), (0, _), (1, _)] ⟨lg lz, lg (ls rfl oz), lg (ls rfl (os rfl oz)), trivial⟩ ?_
  refine aw_seq ?_
  refine aw_seq ?_
  refine aw_region (by decide) ?_
  refine rts _ rfl (opD_move (os rfl oz)) ?_
  refine rts _ rfl (opD_len_sl Go.Proofs.Tryd.underlying55 lz) ?_
  refine rts _ rfl (opD_move (ls rfl (ls rfl (os rfl (os rfl oz))))) ?_
  refine rts _ rfl (opD_len_sl Go.Proofs.Tryd.underlying54 lz) ?_
  refine rts _ rfl (opD_neq (ls rfl (ls rfl lz)) lz) ?_
  refine .nil ?_
  refine aw_keep [(10, _), (4, _), (0, _), (1, _)] ⟨lg lz, lg (ls rfl (ls rfl (ls rfl (ls rfl (ls rfl oz))))), lg (ls rfl (ls rfl (ls rfl (ls rfl (ls rfl (os rfl oz)))))), lg (ls rfl (ls rfl (ls rfl (ls rfl (ls rfl (os rfl (os rfl oz))))))), trivial⟩ ?_
  refine aw_cond _ oz (fun hc => ?_) (fun hc => ?_)
  · skip
    have hne : ¬ a = b := fun h => by subst h; simp at hc
    refine aw_seq ?_
    refine aw_region (by decide) ?_
    refine rts _ rfl (opD_assign (ev_const _ _)) ?_
    refine .nil ?_
    refine aw_keep [(4, _), (10, _), (0, _), (1, _)] ⟨lg lz, lg (ls rfl oz), lg (ls rfl (os rfl (os rfl oz))), lg (ls rfl (os rfl (os rfl (os rfl oz)))), trivial⟩ ?_
    refine aw_ret ?_
    exact done_ext (.inr rfl) ((res_1 rfl (eg oz)).le (le_of_eq (congrArg (fun b => pl (.bool b)) (by first | exact (decide_eq_false hne).symm | exact (decide_eq_true heq).symm)))) (pl_bnd _ _ _)
  · skip
    have hlen : a.length = b.length := by simp at hc; omega
    refine aw_skip ?_
    refine aw_keep [(10, _), (4, _), (0, _), (1, _)] ⟨lg oz, lg (os rfl oz), lg (os rfl (os rfl oz)), lg (os rfl (os rfl (os rfl oz))), trivial⟩ ?_
    refine aw_seq ?_
    refine aw_seq ?_
    refine aw_region (by decide) ?_
    refine rts _ rfl (opD_assign (ev_const _ _)) ?_
    refine .nil ?_
    refine aw_keep [(5, _), (10, _), (4, _), (0, _), (1, _)] ⟨lg lz, lg (ls rfl oz), lg (ls rfl (os rfl oz)), lg (ls rfl (os rfl (os rfl oz))), lg (ls rfl (os rfl (os rfl (os rfl oz)))), trivial⟩ ?_
    refine aw_block ?_
    refine aw_loop (fun n e st => ∃ (i : Nat), Holds e [(0, sl kL none none a), (1, sl kL none none b), (5, pl (.int .i64 (i : Int)))] ∧ st = s.ext [] [] ∧ n + i = b.length ∧ ∀ j, j < i → a[j]? = b[j]?) (b.length) (⟨0, ⟨le_of_eq (eg (os rfl (os rfl (os rfl oz)))), le_of_eq (eg (os rfl (os rfl (os rfl (os rfl oz))))), le_of_eq (eg oz), trivial⟩, rfl, by omega, fun j hj => by omega⟩) ?_
    rintro n e st ⟨i, hH, rfl, hn0, hall⟩
    refine aw_keep _ hH ?_
    refine aw_seq ?_
    refine aw_seq ?_
    refine aw_region (by decide) ?_
    refine rts _ rfl (opD_move (os rfl (os rfl oz))) ?_
    refine rts _ rfl (opD_move (ls rfl (os rfl oz))) ?_
    refine rts _ rfl (opD_len_sl Go.Proofs.Tryd.underlying54 lz) ?_
    refine rts _ rfl (opD_lss (ls rfl (ls rfl lz)) lz) ?_
    refine .nil ?_
    refine aw_keep [(14, _), (0, _), (1, _), (5, _)] ⟨lg lz, lg (ls rfl (ls rfl (ls rfl (ls rfl oz)))), lg (ls rfl (ls rfl (ls rfl (ls rfl (os rfl oz))))), lg (ls rfl (ls rfl (ls rfl (ls rfl (os rfl (os rfl oz)))))), trivial⟩ ?_
    refine aw_cond _ oz (fun hc => ?_) (fun hc => ?_)
    · skip
      have hlt : i < b.length := by have := of_decide_eq_true hc; omega
      obtain ⟨y, hyi⟩ : ∃ y, b[i]? = some y := ⟨b[i], List.getElem?_eq_getElem hlt⟩
      obtain ⟨x, hxi⟩ : ∃ x, a[i]? = some x := ⟨a[i]'(by omega), List.getElem?_eq_getElem (by omega)⟩
      refine aw_skip ?_
      refine aw_keep [(14, _), (0, _), (1, _), (5, _)] ⟨lg oz, lg (os rfl oz), lg (os rfl (os rfl oz)), lg (os rfl (os rfl (os rfl oz))), trivial⟩ ?_
      refine aw_seq ?_
      refine aw_block ?_
      refine aw_seq ?_
      refine aw_flat mixed (by decide +kernel) ?_
      refine zts _ rfl (opD_move (os rfl oz)) ?_
      refine zts _ rfl (opD_move (ls rfl (os rfl (os rfl (os rfl oz))))) ?_
      refine zts _ rfl (opD_indexAddr_sl Go.Proofs.Tryd.underlying55 sz63 (ls rfl lz) lz (by first | rfl | simp | omega) (by first | assumption | omega)) ?_
      refine zts _ rfl ((by first | exact opD_load_aggX (qs := [_, _, _, _, _]) ag63 sz63 lz (by first | exact loc_get rfl | exact old_get (by assumption)) (by simp) rfl | exact opD_load_el_aggX (qs := [_, _, _, _, _]) ag63 sz63 lz (by first | assumption | simp) (by decide) rfl)) ?_
      refine zts _ rfl (opD_move (ls rfl (ls rfl (ls rfl (ls rfl (os rfl (os rfl oz))))))) ?_
      refine zts _ rfl (opD_move (ls rfl (ls rfl (ls rfl (ls rfl (ls rfl (os rfl (os rfl (os rfl oz))))))))) ?_
      refine zts _ rfl (opD_indexAddr_sl Go.Proofs.Tryd.underlying54 sz60 (ls rfl lz) lz (by first | rfl | simp | omega) (by first | assumption | omega)) ?_
      refine zts _ rfl ((by first | exact opD_load_aggX (qs := [_, _, _, _, _]) ag60 sz60 lz (by first | exact loc_get rfl | exact old_get (by assumption)) (by simp) rfl | exact opD_load_el_aggX (qs := [_, _, _, _, _]) ag60 sz60 lz (by first | assumption | simp) (by decide) rfl)) ?_
      refine zts _ rfl (opD_binA (lnV x) (lnV y) (ls rfl (ls rfl (ls rfl (ls rfl lz)))) lz (fun w => ln_guard _ _ _ _ _ w) (fun w => (ln_cmp _ _ w).2)) ?_
      refine .nil ?_
      refine aw_keep [(25, _), (14, _), (0, _), (1, _), (5, _)] ⟨lg lz, lg (ls rfl (ls rfl (ls rfl (ls rfl (ls rfl (ls rfl (ls rfl (ls rfl (ls rfl oz))))))))), lg (ls rfl (ls rfl (ls rfl (ls rfl (ls rfl (ls rfl (ls rfl (ls rfl (ls rfl (os rfl oz)))))))))), lg (ls rfl (ls rfl (ls rfl (ls rfl (ls rfl (ls rfl (ls rfl (ls rfl (ls rfl (os rfl (os rfl oz))))))))))), lg (ls rfl (ls rfl (ls rfl (ls rfl (ls rfl (ls rfl (ls rfl (ls rfl (ls rfl (os rfl (os rfl (os rfl oz)))))))))))), trivial⟩ ?_
      refine aw_cond _ oz (fun hc => ?_) (fun hc => ?_)
      · skip
        have hne : ¬ a = b := fun h => by subst h; rw [hxi] at hyi; cases hyi; simp at hc
        refine aw_seq ?_
        refine aw_region (by decide) ?_
        refine rts _ rfl (opD_assign (ev_const _ _)) ?_
        refine .nil ?_
        refine aw_keep [(4, _), (25, _), (14, _), (0, _), (1, _), (5, _)] ⟨lg lz, lg (ls rfl oz), lg (ls rfl (os rfl oz)), lg (ls rfl (os rfl (os rfl oz))), lg (ls rfl (os rfl (os rfl (os rfl oz)))), lg (ls rfl (os rfl (os rfl (os rfl (os rfl oz))))), trivial⟩ ?_
        refine aw_ret ?_
        exact done_ext (.inr rfl) ((res_1 rfl (eg oz)).le (le_of_eq (congrArg (fun b => pl (.bool b)) (by first | exact (decide_eq_false hne).symm | exact (decide_eq_true heq).symm)))) (pl_bnd _ _ _)
      · skip
        have hxy : x = y := by simpa using hc
        refine aw_skip ?_
        refine aw_keep [(25, _), (14, _), (0, _), (1, _), (5, _)] ⟨lg oz, lg (os rfl oz), lg (os rfl (os rfl oz)), lg (os rfl (os rfl (os rfl oz))), lg (os rfl (os rfl (os rfl (os rfl oz)))), trivial⟩ ?_
        refine aw_region (by decide) ?_
        refine rts _ rfl (opD_move (os rfl (os rfl (os rfl (os rfl oz))))) ?_
        refine rts _ rfl (opD_add lz (ev_const _ _) (by first | exact IntWalk.i64_in _ (by omega) | exact rfl)) ?_
        refine rts _ rfl (opD_assign lz) ?_
        refine .nil ?_
        refine ⟨n - 1, by omega, i + 1, ⟨le_of_eq (eg (ls rfl (ls rfl (ls rfl (os rfl (os rfl oz)))))), le_of_eq (eg (ls rfl (ls rfl (ls rfl (os rfl (os rfl (os rfl oz))))))), le_of_eq (eg lz), trivial⟩, rfl, by omega, fun j hj => ?_⟩
        by_cases hji : j = i
        · subst hji; rw [hxi, hyi, hxy]
        · exact hall j (by omega)
    · skip
      have heq : a = b := lines_eq hlen fun j hj => hall j (by have := of_decide_eq_false hc; omega)
      refine aw_exit ?_
      refine aw_keep [(14, _), (0, _), (1, _), (5, _)] ⟨lg oz, lg (os rfl oz), lg (os rfl (os rfl oz)), lg (os rfl (os rfl (os rfl oz))), trivial⟩ ?_
      refine aw_seq ?_
      refine aw_region (by decide) ?_
      refine rts _ rfl (opD_assign (ev_const _ _)) ?_
      refine .nil ?_
      refine aw_keep [(4, _), (14, _), (0, _), (1, _), (5, _)] ⟨lg lz, lg (ls rfl oz), lg (ls rfl (os rfl oz)), lg (ls rfl (os rfl (os rfl oz))), lg (ls rfl (os rfl (os rfl (os rfl oz)))), trivial⟩ ?_
      refine aw_ret ?_
      exact done_ext (.inr rfl) ((res_1 rfl (eg oz)).le (le_of_eq (congrArg (fun b => pl (.bool b)) (by first | exact (decide_eq_false hne).symm | exact (decide_eq_true heq).symm)))) (pl_bnd _ _ _)

set_option maxRecDepth 100000 in
set_option maxHeartbeats 1000000 in
theorem give_lg {d : Nat} {l : List Ln} (hl : l.length * 40 ≤ 140737488355328) : Pure Go.Proofs.Tryd.prog 40 [lgP d l] (lgP d l) := by
  intro s
  unfold lgP
  refine ac_of_aw s.boxes.length s.fr.length Go.Proofs.Tryd.func40 rfl (by simp [Go.Proofs.Tryd.ntmps40]) ?_
  refine aw_ext0 ?_
  refine aw_keep [(0, _)] ⟨lg ez, trivial⟩ ?_
  refine aw_seq ?_
  refine aw_region (by decide) ?_
  refine rts _ rfl (opD_boxA oz (by repeat (first | exact bnd_nil | refine bnd_cons (by first | exact pl_bnd _ _ _ | exact sl_bnd (kL_bnd _ _ _) | exact sl_bnd (kI_bnd _ _ _ _) | exact ptr_bnd _ (by omega) | exact any_bnd _ _ | exact sl_own_bnd (kL_bnd _ _ _) (by omega) | exact sl_own_bnd (kL_bnd _ _ _) (by simp only [List.length_append, List.length_cons, List.length_nil]; omega)) ?_)) (by first | exact List.length_nil | (simp only [List.length_cons, List.length_nil, Nat.zero_add, Nat.reduceAdd]; rfl)) (by simp only [List.nil_append, List.cons_append, List.map_cons, List.map_nil, List.set_cons_zero, List.set_cons_succ, List.take_succ_cons, List.take_zero, List.drop_succ_cons, List.drop_zero]; rfl)) ?_
  refine rts _ rfl (opD_allocX zt57 (by first | exact List.length_nil | (simp only [List.length_cons, List.length_nil, Nat.zero_add, Nat.reduceAdd]; rfl)) (by simp only [List.nil_append, List.cons_append, List.map_cons, List.map_nil, List.set_cons_zero, List.set_cons_succ, List.take_succ_cons, List.take_zero, List.drop_succ_cons, List.drop_zero]; rfl)) ?_
  refine .nil ?_
  refine aw_keep [(2, _), (1, _), (0, _)] ⟨lg lz, lg (ls rfl lz), lg (ls rfl (ls rfl oz)), trivial⟩ ?_
  refine aw_seq ?_
  refine aw_region (by decide) ?_
  refine rts _ rfl ((by first | exact opD_fieldAddr fo70_0 (os rfl oz) | exact opD_fieldAddr_el fo70_0 (os rfl oz))) ?_
  refine rts _ rfl ((by first | exact opD_load_one ag22 lz (by first | exact loc_get rfl | exact old_get (by assumption)) rfl | exact opD_load_el_one ag22 lz (by first | assumption | simp) rfl)) ?_
  refine rts _ rfl (opD_build_struct (rs := [_, _]) Go.Proofs.Tryd.underlying57 pt57 zt57 (parts_cons (cells1 lz (by first | exact one_pl rfl | exact one_sl _ _ _ _ | exact one_ptr _ _ | exact one_ifc _ _)) parts_nil) rfl) ?_
  refine rts _ rfl (opD_allocX zt57 (by first | exact List.length_nil | (simp only [List.length_cons, List.length_nil, Nat.zero_add, Nat.reduceAdd]; rfl)) (by simp only [List.nil_append, List.cons_append, List.map_cons, List.map_nil, List.set_cons_zero, List.set_cons_succ, List.take_succ_cons, List.take_zero, List.drop_succ_cons, List.drop_zero]; rfl)) ?_
  refine rts _ rfl (opD_storeA sz57 lz (ls rfl lz) (by repeat (first | exact ones_nil | refine ones_cons (by first | exact one_pl rfl | exact one_sl _ _ _ _ | exact one_ptr _ _) ?_)) rfl rfl (Nat.le_of_ble_eq_true rfl) (List.cons_ne_nil _ _) (by repeat (first | exact bnd_nil | refine bnd_cons (by first | exact pl_bnd _ _ _ | exact sl_bnd (kL_bnd _ _ _) | exact sl_bnd (kI_bnd _ _ _ _) | exact ptr_bnd _ (by omega) | exact any_bnd _ _ | exact sl_own_bnd (kL_bnd _ _ _) (by omega) | exact sl_own_bnd (kL_bnd _ _ _) (by simp only [List.length_append, List.length_cons, List.length_nil]; omega)) ?_)) (by simp only [List.nil_append, List.cons_append, List.map_cons, List.map_nil, List.set_cons_zero, List.set_cons_succ, List.take_succ_cons, List.take_zero, List.drop_succ_cons, List.drop_zero]; rfl) (by simp only [List.nil_append, List.cons_append, List.map_cons, List.map_nil, List.set_cons_zero, List.set_cons_succ, List.take_succ_cons, List.take_zero, List.drop_succ_cons, List.drop_zero]; rfl)) ?_
  refine .nil ?_
  refine aw_keep [(3, _), (2, _), (1, _), (0, _)] ⟨lg (lx lz), lg (lx (ls rfl (ls rfl (ls rfl (ls rfl oz))))), lg (lx (ls rfl (ls rfl (ls rfl (ls rfl (os rfl oz)))))), lg (lx (ls rfl (ls rfl (ls rfl (ls rfl (os rfl (os rfl oz))))))), trivial⟩ ?_
  refine aw_seq ?_
  refine aw_seq ?_
  refine aw_fr ⟨63, 5, 0⟩ ?_
  refine aw_wk (bs' := [⟨70, [pl (.int .u64 (d : Int)), sl kL none none l]⟩, ⟨57, [pl (.int .u64 0), pl (.slice none 0 0)]⟩, ⟨57, [pl (.int .u64 (d : Int)), sl kL (some (s.fr.length + 0)) none ([])]⟩]) (bxle_same (bxle_same (bxle_cons rfl ⟨Pd.le_refl _, (nil_le kL _).trans (sl_nl _ _ _ _), trivial⟩ bxle_nil))) (by repeat (first | exact bl_nil | refine bl_cons (by repeat (first | exact bnd_nil | refine bnd_cons (by first | exact pl_bnd _ _ _ | exact sl_bnd (kL_bnd _ _ _) | exact sl_bnd (kI_bnd _ _ _ _) | exact ptr_bnd _ (by omega) | exact any_bnd _ _ | exact sl_own_bnd (kL_bnd _ _ _) (by omega) | exact sl_own_bnd (kL_bnd _ _ _) (by simp only [List.length_append, List.length_cons, List.length_nil]; omega)) ?_)) ?_)) ?_
  refine aw_region (by decide) ?_
  refine rts _ rfl (opD_assign (ev_const _ _)) ?_
  refine .nil ?_
  refine aw_keep [(4, _), (3, _), (2, _), (1, _), (0, _)] ⟨lg lz, lg (ls rfl oz), lg (ls rfl (os rfl oz)), lg (ls rfl (os rfl (os rfl oz))), lg (ls rfl (os rfl (os rfl (os rfl oz)))), trivial⟩ ?_
  refine aw_block ?_
  refine aw_loop (fun n e st => ∃ (i : Nat), Holds e [(1, ptr (s.boxes.length + 0) 0), (2, ptr (s.boxes.length + 1) 0), (3, ptr (s.boxes.length + 2) 0), (4, pl (.int .i64 (i : Int)))] ∧ st = s.ext [⟨70, [pl (.int .u64 (d : Int)), sl kL none none l]⟩, ⟨57, [pl (.int .u64 0), pl (.slice none 0 0)]⟩, ⟨57, [pl (.int .u64 (d : Int)), sl kL (some (s.fr.length + 0)) none (l.take i)]⟩] [⟨63, 5, (l.take i).length⟩] ∧ n + i = l.length) (l.length) (⟨0, ⟨le_of_eq (eg (os rfl (os rfl (os rfl oz)))), le_of_eq (eg (os rfl (os rfl oz))), le_of_eq (eg (os rfl oz)), le_of_eq (eg oz), trivial⟩, rfl, by omega⟩) ?_
  rintro n e st ⟨i, hH, rfl, hn0⟩
  refine aw_keep _ hH ?_
  refine aw_seq ?_
  refine aw_seq ?_
  refine aw_region (by decide) ?_
  refine rts _ rfl (opD_move (os rfl (os rfl (os rfl oz)))) ?_
  refine rts _ rfl ((by first | exact opD_fieldAddr fo70_1 (ls rfl oz) | exact opD_fieldAddr_el fo70_1 (ls rfl oz))) ?_
  refine rts _ rfl ((by first | exact opD_load_one ag54 lz (by first | exact loc_get rfl | exact old_get (by assumption)) rfl | exact opD_load_el_one ag54 lz (by first | assumption | simp) rfl)) ?_
  refine rts _ rfl (opD_len_sl Go.Proofs.Tryd.underlying54 lz) ?_
  refine rts _ rfl (opD_lss (ls rfl (ls rfl (ls rfl lz))) lz) ?_
  refine .nil ?_
  refine aw_keep [(12, _), (1, _), (2, _), (3, _), (4, _)] ⟨lg lz, lg (ls rfl (ls rfl (ls rfl (ls rfl (ls rfl oz))))), lg (ls rfl (ls rfl (ls rfl (ls rfl (ls rfl (os rfl oz)))))), lg (ls rfl (ls rfl (ls rfl (ls rfl (ls rfl (os rfl (os rfl oz))))))), lg (ls rfl (ls rfl (ls rfl (ls rfl (ls rfl (os rfl (os rfl (os rfl oz)))))))), trivial⟩ ?_
  refine aw_cond _ oz (fun hc => ?_) (fun hc => ?_)
  · skip
    have hlt : i < l.length := by have := of_decide_eq_true hc; omega
    obtain ⟨x, hxi⟩ : ∃ x, l[i]? = some x := ⟨l[i], List.getElem?_eq_getElem hlt⟩
    have htk : l.take (i + 1) = l.take i ++ [x] := by obtain ⟨h1, h2⟩ := List.getElem?_eq_some_iff.1 hxi; rw [List.take_succ_eq_append_getElem h1, h2]
    have htl : (l.take i).length = i := by rw [List.length_take]; omega
    refine aw_skip ?_
    refine aw_keep [(12, _), (1, _), (2, _), (3, _), (4, _)] ⟨lg oz, lg (os rfl oz), lg (os rfl (os rfl oz)), lg (os rfl (os rfl (os rfl oz))), lg (os rfl (os rfl (os rfl (os rfl oz)))), trivial⟩ ?_
    refine aw_seq ?_
    refine aw_block ?_
    refine aw_drawn [false, false, false, false, false, false, false, false, true, false, true] [[0], [0], [0], [0], [0], [0], [0], [0], [0, 1], [1], [1, 2]] mixed (by decide +kernel) ?_
    refine dtp _ rfl (fun s => (by first | exact opD_fieldAddr fo57_1 (os rfl (os rfl (os rfl oz))) | exact opD_fieldAddr_el fo57_1 (os rfl (os rfl (os rfl oz))))) ?_
    refine dtl1 ag55 lz rfl rfl rfl ?_
    refine dtp _ rfl (fun s => (by first | exact opD_fieldAddr fo70_1 (ls rfl (ls rfl (os rfl oz))) | exact opD_fieldAddr_el fo70_1 (ls rfl (ls rfl (os rfl oz))))) ?_
    refine dtl1 ag54 lz rfl rfl rfl ?_
    refine dtp _ rfl (fun s => opD_move (ls rfl (ls rfl (ls rfl (ls rfl (os rfl (os rfl (os rfl (os rfl oz))))))))) ?_
    refine dtp _ rfl (fun s => opD_indexAddr_sl Go.Proofs.Tryd.underlying54 sz60 (ls rfl lz) lz (by first | rfl | simp | omega) (by first | assumption | omega)) ?_
    refine dtp _ rfl (fun s => (by first | exact opD_load_aggX (qs := [_, _, _, _, _]) ag60 sz60 lz (by assumption) (by simp) rfl | exact opD_load_el_aggX (qs := [_, _, _, _, _]) ag60 sz60 lz (by first | assumption | simp) (by decide) rfl)) ?_
    refine dtp _ rfl (fun s => opD_buildSlice (k := kL) [x] Go.Proofs.Tryd.underlying55 sz63 zt63 (by decide) rfl (parts_cons (cellsA lz) parts_nil) rfl rfl) ?_
    refine dta _ rfl ((by first | exact opD_appendX Go.Proofs.Tryd.underlying55 el63 (ls rfl (ls rfl (ls rfl (ls rfl (ls rfl (ls rfl lz)))))) lz rfl (by first | omega | (simp only [List.length_cons, List.length_nil, List.length_append]; omega)) (by first | omega | (simp only [List.length_cons, List.length_nil, List.length_append]; omega)) (by first | (with_reducible exact List.nil_append _) | exact rfl) (by simp only [List.nil_append, List.cons_append, List.map_cons, List.map_nil, List.set_cons_zero, List.set_cons_succ, List.take_succ_cons, List.take_zero, List.drop_succ_cons, List.drop_zero]; rfl) | exact opD_appendN (k := kL) Go.Proofs.Tryd.underlying55 el63 (ls rfl (ls rfl (ls rfl (ls rfl (ls rfl (ls rfl lz)))))) lz (by first | omega | (simp only [List.length_cons, List.length_nil, List.length_append]; omega)) (by first | omega | (simp only [List.length_cons, List.length_nil, List.length_append]; omega)) (by first | exact List.length_nil | (simp only [List.length_cons, List.length_nil, Nat.zero_add, Nat.reduceAdd]; rfl)) (by simp only [List.nil_append, List.cons_append, List.map_cons, List.map_nil, List.set_cons_zero, List.set_cons_succ, List.take_succ_cons, List.take_zero, List.drop_succ_cons, List.drop_zero]; rfl))) ?_
    refine dtp _ rfl (fun s => (by first | exact opD_fieldAddr fo57_1 (ls rfl (ls rfl (ls rfl (ls rfl (ls rfl (ls rfl (ls rfl (ls rfl (ls rfl (os rfl (os rfl (os rfl oz)))))))))))) | exact opD_fieldAddr_el fo57_1 (ls rfl (ls rfl (ls rfl (ls rfl (ls rfl (ls rfl (ls rfl (ls rfl (ls rfl (os rfl (os rfl (os rfl oz)))))))))))))) ?_
    refine dta _ rfl ((by first | exact opD_storeO sz55 lz (le_of_eq (ls rfl lz)) (by first | exact one_pl rfl | exact one_sl _ _ _ _ | exact one_ptr _ _) rfl (by simp) (by first | exact pl_bnd _ _ _ | exact sl_bnd (kL_bnd _ _ _) | exact sl_bnd (kI_bnd _ _ _ _) | exact ptr_bnd _ (by omega) | exact any_bnd _ _ | exact sl_own_bnd (kL_bnd _ _ _) (by omega) | exact sl_own_bnd (kL_bnd _ _ _) (by simp only [List.length_append, List.length_cons, List.length_nil]; omega)) (by simp only [List.nil_append, List.cons_append, List.map_cons, List.map_nil, List.set_cons_zero, List.set_cons_succ, List.take_succ_cons, List.take_zero, List.drop_succ_cons, List.drop_zero]; rfl) (by simp only [List.nil_append, List.cons_append, List.map_cons, List.map_nil, List.set_cons_zero, List.set_cons_succ, List.take_succ_cons, List.take_zero, List.drop_succ_cons, List.drop_zero]; rfl) | exact opD_storeG sz55 lz (le_of_eq (ls rfl lz)) (by first | exact one_pl rfl | exact one_sl _ _ _ _ | exact one_ptr _ _) hG (by simp) (by first | exact pl_bnd _ _ _ | exact sl_bnd (kL_bnd _ _ _) | exact sl_bnd (kI_bnd _ _ _ _) | exact ptr_bnd _ (by omega) | exact any_bnd _ _ | exact sl_own_bnd (kL_bnd _ _ _) (by omega) | exact sl_own_bnd (kL_bnd _ _ _) (by simp only [List.length_append, List.length_cons, List.length_nil]; omega)) (by simp only [List.nil_append, List.cons_append, List.map_cons, List.map_nil, List.set_cons_zero, List.set_cons_succ, List.take_succ_cons, List.take_zero, List.drop_succ_cons, List.drop_zero]; rfl))) ?_
    refine .nil ?_
    dsimp only [List.nil_append, List.cons_append]
    refine ⟨rfl, ⟨trivial, ⟨(by first | exact loc_get rfl | exact old_get (by assumption)), trivial⟩, trivial, ⟨(by first | exact loc_get rfl | exact old_get (by assumption)), trivial⟩, trivial, trivial, trivial, trivial, trivial, trivial, trivial, trivial⟩, ?_⟩
    refine aw_keep [(12, _), (1, _), (2, _), (3, _), (4, _)] ⟨lg (lx (ls rfl (ls rfl (ls rfl (ls rfl (ls rfl (ls rfl (ls rfl (ls rfl (ls rfl (ls rfl oz))))))))))), lg (lx (ls rfl (ls rfl (ls rfl (ls rfl (ls rfl (ls rfl (ls rfl (ls rfl (ls rfl (ls rfl (os rfl oz)))))))))))), lg (lx (ls rfl (ls rfl (ls rfl (ls rfl (ls rfl (ls rfl (ls rfl (ls rfl (ls rfl (ls rfl (os rfl (os rfl oz))))))))))))), lg (lx (ls rfl (ls rfl (ls rfl (ls rfl (ls rfl (ls rfl (ls rfl (ls rfl (ls rfl (ls rfl (os rfl (os rfl (os rfl oz)))))))))))))), lg (lx (ls rfl (ls rfl (ls rfl (ls rfl (ls rfl (ls rfl (ls rfl (ls rfl (ls rfl (ls rfl (os rfl (os rfl (os rfl (os rfl oz))))))))))))))), trivial⟩ ?_
    refine aw_region (by decide) ?_
    refine rts _ rfl (opD_move (os rfl (os rfl (os rfl (os rfl oz))))) ?_
    refine rts _ rfl (opD_add lz (ev_const _ _) (by first | exact IntWalk.i64_in _ (by omega) | exact rfl)) ?_
    refine rts _ rfl (opD_assign lz) ?_
    refine .nil ?_
    refine ⟨n - 1, by omega, i + 1, ⟨le_of_eq (eg (ls rfl (ls rfl (ls rfl (os rfl oz))))), le_of_eq (eg (ls rfl (ls rfl (ls rfl (os rfl (os rfl oz)))))), le_of_eq (eg (ls rfl (ls rfl (ls rfl (os rfl (os rfl (os rfl oz))))))), le_of_eq (eg lz), trivial⟩, by rw [htk]; rfl, by omega⟩
  · skip
    have hfin : l.take i = l := List.take_of_length_le (by have := of_decide_eq_false hc; omega)
    refine aw_exit ?_
    refine aw_keep [(12, _), (1, _), (2, _), (3, _), (4, _)] ⟨lg oz, lg (os rfl oz), lg (os rfl (os rfl oz)), lg (os rfl (os rfl (os rfl oz))), lg (os rfl (os rfl (os rfl (os rfl oz)))), trivial⟩ ?_
    refine aw_seq ?_
    refine aw_region (by decide) ?_
    refine rts _ rfl ((by first | exact opD_load_aggX (qs := [_, _]) ag57 sz57 (os rfl (os rfl (os rfl oz))) (by first | exact loc_get rfl | exact old_get (by assumption)) (by simp) rfl | exact opD_load_el_aggX (qs := [_, _]) ag57 sz57 (os rfl (os rfl (os rfl oz))) (by first | assumption | simp) (by decide) rfl)) ?_
    refine rts _ rfl (opD_storeA sz57 (ls rfl (os rfl (os rfl oz))) lz (by repeat (first | exact ones_nil | refine ones_cons (by first | exact one_pl rfl | exact one_sl _ _ _ _ | exact one_ptr _ _) ?_)) rfl rfl (Nat.le_of_ble_eq_true rfl) (List.cons_ne_nil _ _) (by repeat (first | exact bnd_nil | refine bnd_cons (by first | exact pl_bnd _ _ _ | exact sl_bnd (kL_bnd _ _ _) | exact sl_bnd (kI_bnd _ _ _ _) | exact ptr_bnd _ (by omega) | exact any_bnd _ _ | exact sl_own_bnd (kL_bnd _ _ _) (by omega) | exact sl_own_bnd (kL_bnd _ _ _) (by simp only [List.length_append, List.length_cons, List.length_nil]; omega)) ?_)) (by simp only [List.nil_append, List.cons_append, List.map_cons, List.map_nil, List.set_cons_zero, List.set_cons_succ, List.take_succ_cons, List.take_zero, List.drop_succ_cons, List.drop_zero]; rfl) (by simp only [List.nil_append, List.cons_append, List.map_cons, List.map_nil, List.set_cons_zero, List.set_cons_succ, List.take_succ_cons, List.take_zero, List.drop_succ_cons, List.drop_zero]; rfl)) ?_
    refine .nil ?_
    refine aw_keep [(12, _), (1, _), (2, _), (3, _), (4, _)] ⟨lg (lx (ls rfl oz)), lg (lx (ls rfl (os rfl oz))), lg (lx (ls rfl (os rfl (os rfl oz)))), lg (lx (ls rfl (os rfl (os rfl (os rfl oz))))), lg (lx (ls rfl (os rfl (os rfl (os rfl (os rfl oz)))))), trivial⟩ ?_
    refine aw_ret ?_
    exact done_ext (.inr rfl) ((res_c (B := ⟨57, [_, _]⟩) rfl ag57 sz57 (eg (os rfl (os rfl oz))) (loc_get (i := 1) rfl) rfl).le (agg_le ⟨Pd.le_refl _, (sl_le _ _ _ _).trans (le_of_eq (by rw [hfin])), trivial⟩)) (lgP_bnd d l _ _)
end Go.Proofs.YtmnhfpcbfdgbcaaDoor.Eng.Lt

