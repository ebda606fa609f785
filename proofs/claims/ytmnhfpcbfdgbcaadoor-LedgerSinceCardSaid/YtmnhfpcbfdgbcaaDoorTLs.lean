/- TLs: what the functions of one package do, walked; used by the laws of this seat. -/
import Derived.Test.YtmnhfpcbfdgbcaaDoorTLc
import Derived.Test.YtmnhfpcbfdgbcaaDoorEngT
namespace Go.Proofs.YtmnhfpcbfdgbcaaDoor.Eng.Ls
set_option linter.unusedVariables false
set_option linter.unusedSimpArgs false
open Go.RowKit Go.Proofs.YtmnhfpcbfdgbcaaDoor.Plain Go.Proofs.YtmnhfpcbfdgbcaaDoor.Eng

theorem ag57 : aggT Go.Proofs.Tryd.prog 57 = some true := by kernel_rfl
theorem sz57 : sizeT Go.Proofs.Tryd.prog 57 = some 2 := by kernel_rfl
theorem ht47 : hasText Go.Proofs.Tryd.prog 47 = true := by kernel_rfl
theorem fo57_1 : fieldOff Go.Proofs.Tryd.prog 57 1 = some 1 := by kernel_rfl
theorem ag55 : aggT Go.Proofs.Tryd.prog 55 = some false := by kernel_rfl
theorem sz63 : sizeT Go.Proofs.Tryd.prog 63 = some 5 := by kernel_rfl
theorem ag63 : aggT Go.Proofs.Tryd.prog 63 = some true := by kernel_rfl
theorem zt63 : zeroT Go.Proofs.Tryd.prog 63 = some [.int .u64 0, .int .u64 0, .int .u8 0, .int .u16 0, .string ⟨#[]⟩] := by kernel_rfl
theorem fo63_0 : fieldOff Go.Proofs.Tryd.prog 63 0 = some 0 := by kernel_rfl
theorem ag22 : aggT Go.Proofs.Tryd.prog 22 = some false := by kernel_rfl
theorem el63 : elT Go.Proofs.Tryd.prog 63 = some (5, 40) := by kernel_rfl

open Go.Proofs.YtmnhfpcbfdgbcaaDoor.Eng.Pk Go.Proofs.YtmnhfpcbfdgbcaaDoor.Eng.Rd Go.Proofs.YtmnhfpcbfdgbcaaDoor.Eng.Pb Go.Proofs.YtmnhfpcbfdgbcaaDoor.Eng.Er Go.Proofs.YtmnhfpcbfdgbcaaDoor.Eng.Rf06 Go.Proofs.YtmnhfpcbfdgbcaaDoor.Eng.Lg Go.Proofs.YtmnhfpcbfdgbcaaDoor.Eng.Lc
theorem lgE_s {d : Nat} {l : List Ln} (h : (lgE d l).isSome = true) : ¬ LgOk d l := fun h2 => by rw [lgE_t h2] at h; cases h
theorem lgE_n {d : Nat} {l : List Ln} (h : (lgE d l).isSome = false) : LgOk d l := by
  by_cases h2 : LgOk d l
  · exact h2
  · rw [lgE_f h2] at h; cases h
/-- The lines from a number on. -/
def fromL (l : List Ln) (q : Nat) : List Ln := l.filter fun x => decide (q ≤ x.seq)
noncomputable def sinceL (d : Nat) (l : List Ln) (q : Nat) : List Ln := if lgOk d l = true then fromL l q else []
theorem sinceL_t {d : Nat} {l : List Ln} {q : Nat} (h : LgOk d l) : sinceL d l q = fromL l q := by rw [sinceL, if_pos (lgOk_t h)]
theorem sinceL_f {d : Nat} {l : List Ln} {q : Nat} (h : ¬ LgOk d l) : sinceL d l q = [] := by rw [sinceL, lgOk_f h]; rfl
theorem from_take {l : List Ln} {q i : Nat} {x : Ln} (h : l[i]? = some x) : fromL (l.take (i + 1)) q = fromL (l.take i) q ++ (if q ≤ x.seq then [x] else []) := by
  obtain ⟨hi, rfl⟩ := List.getElem?_eq_some_iff.1 h
  rw [fromL, List.take_succ_eq_append_getElem hi, List.filter_append]
  congr 1
  by_cases hq : q ≤ l[i].seq <;> simp [hq]
theorem from_drop {d : Nat} {l : List Ln} {q i : Nat} (hok : LgOk d l) (hi : i ≤ l.length) (h1 : ∀ (j : Nat) (x : Ln), j < i → l[j]? = some x → x.seq < q) (h2 : i < l.length → ∃ x, l[i]? = some x ∧ q ≤ x.seq) : l.drop i = fromL l q := by
  have hs : fromL l q = fromL (l.take i) q ++ fromL (l.drop i) q := by rw [fromL, fromL, fromL, ← List.filter_append, List.take_append_drop]
  have ht : fromL (l.take i) q = [] := by
    rw [fromL, List.filter_eq_nil_iff]
    intro x hx
    obtain ⟨j, hj⟩ := List.mem_iff_getElem?.1 hx
    have hji : j < i := by
      have := (List.getElem?_eq_some_iff.1 hj).1
      rw [List.length_take] at this; omega
    rw [List.getElem?_take_of_lt hji] at hj
    have := h1 j x hji hj
    simp; omega
  have hd : fromL (l.drop i) q = l.drop i := by
    rw [fromL, List.filter_eq_self]
    intro x hx
    obtain ⟨j, hj⟩ := List.mem_iff_getElem?.1 hx
    rw [List.getElem?_drop] at hj
    have hjl := (List.getElem?_eq_some_iff.1 hj).1
    obtain ⟨y, hy, hq⟩ := h2 (by omega)
    have a1 := (hok.2.2.2 _ _ hj).2
    have a2 := (hok.2.2.2 _ _ hy).2
    simp; omega
  rw [hs, ht, hd]; rfl
def ln0 : Ln := ⟨0, 0, 0, 0, ⟨#[]⟩⟩
theorem ln_guard (op : BinOp) (t u : Operand) (x y : Ln) (w : World) : (eqGuard op 63 t u (.agg (lnA x)) (.agg (lnA y))).run Go.Proofs.Tryd.prog w = .ok () w := run_eqGuard_agg w op 63 t u _ _ (by kernel_rfl)
def lnV (x : Ln) : List Value := [.int .u64 (x.seq : Int), .int .u64 (x.who : Int), .int .u8 x.what, .int .u16 (x.code : Int), .string x.key]

set_option maxRecDepth 100000 in
set_option maxHeartbeats 1000000 in
theorem lg_since {d q : Nat} {l : List Ln} (hd : d < 18446744073709551616) (hl : l.length ≤ 1000000) (hx : ∀ x ∈ l, LnOk x) : Pure Go.Proofs.Tryd.prog 42 [lgP d l, pl (.int .u64 (q : Int))] (tup [sl kL none none (sinceL d l q), pl (errV (lgE d l))]) := by
  intro s
  unfold lgP
  refine ac_of_aw s.boxes.length s.fr.length Go.Proofs.Tryd.func42 rfl (by simp [Go.Proofs.Tryd.ntmps42]) ?_
  refine aw_ext0 ?_
  refine aw_keep [(0, _), (1, _)] ⟨lg ez, lg (es ez), trivial⟩ ?_
  refine aw_seq ?_
  refine aw_region (by decide) ?_
  refine rts _ rfl (opD_boxA oz (by repeat (first | exact bnd_nil | refine bnd_cons (by first | exact pl_bnd _ _ _ | exact sl_bnd (kL_bnd _ _ _) | exact sl_bnd (kI_bnd _ _ _ _) | exact ptr_bnd _ (by omega) | exact any_bnd _ _ | exact sl_own_bnd (kL_bnd _ _ _) (by omega) | exact sl_own_bnd (kL_bnd _ _ _) (by simp only [List.length_append, List.length_cons, List.length_nil]; omega)) ?_)) (by first | exact List.length_nil | (simp only [List.length_cons, List.length_nil, Nat.zero_add, Nat.reduceAdd]; rfl)) (by simp only [List.nil_append, List.cons_append, List.map_cons, List.map_nil, List.set_cons_zero, List.set_cons_succ, List.take_succ_cons, List.take_zero, List.drop_succ_cons, List.drop_zero]; rfl)) ?_
  refine rts _ rfl (opD_assign (ev_const _ _)) ?_
  refine rts _ rfl (opD_assign (ev_const _ _)) ?_
  refine .nil ?_
  refine aw_keep [(5, _), (4, _), (2, _), (0, _), (1, _)] ⟨lg lz, lg (ls rfl lz), lg (ls rfl (ls rfl lz)), lg (ls rfl (ls rfl (ls rfl oz))), lg (ls rfl (ls rfl (ls rfl (os rfl oz)))), trivial⟩ ?_
  refine aw_seq ?_
  refine aw_seq ?_
  refine aw_region (by decide) ?_
  refine rts _ rfl ((by first | exact opD_load_aggX (qs := [_, _]) ag57 sz57 (os rfl (os rfl oz)) (by first | exact loc_get rfl | exact old_get (by assumption)) (by simp) rfl | exact opD_load_el_aggX (qs := [_, _]) ag57 sz57 (os rfl (os rfl oz)) (by first | assumption | simp) (by decide) rfl)) ?_
  refine rts _ rfl (opD_pure ht47 (lg_check hd (by omega) hx) ⟨le_of_eq lz, trivial⟩) ?_
  refine rts _ rfl (opD_assign lz) ?_
  refine .nil ?_
  refine aw_keep [(6, _), (5, _), (4, _), (2, _), (0, _), (1, _)] ⟨lg lz, lg (ls rfl (ls rfl (ls rfl oz))), lg (ls rfl (ls rfl (ls rfl (os rfl oz)))), lg (ls rfl (ls rfl (ls rfl (os rfl (os rfl oz))))), lg (ls rfl (ls rfl (ls rfl (os rfl (os rfl (os rfl oz)))))), lg (ls rfl (ls rfl (ls rfl (os rfl (os rfl (os rfl (os rfl oz))))))), trivial⟩ ?_
  refine aw_seq ?_
  refine aw_region (by decide) ?_
  refine rts _ rfl (opD_move oz) ?_
  refine rts _ rfl (opD_bin lz (ev_const _ _) (fun w => errV_guard _ w _) (fun w => errV_beq _ w)) ?_
  refine .nil ?_
  refine aw_keep [(13, _), (6, _), (5, _), (4, _), (2, _), (0, _), (1, _)] ⟨lg lz, lg (ls rfl (ls rfl oz)), lg (ls rfl (ls rfl (os rfl oz))), lg (ls rfl (ls rfl (os rfl (os rfl oz)))), lg (ls rfl (ls rfl (os rfl (os rfl (os rfl oz))))), lg (ls rfl (ls rfl (os rfl (os rfl (os rfl (os rfl oz)))))), lg (ls rfl (ls rfl (os rfl (os rfl (os rfl (os rfl (os rfl oz))))))), trivial⟩ ?_
  refine aw_cond _ oz (fun hc => ?_) (fun hc => ?_)
  · skip
    have hn := lgE_s hc
    refine aw_seq ?_
    refine aw_region (by decide) ?_
    refine rts _ rfl (opD_move (os rfl oz)) ?_
    refine rts _ rfl (opD_assign (ev_const _ _)) ?_
    refine rts _ rfl (opD_assign (ls rfl lz)) ?_
    refine .nil ?_
    refine aw_keep [(5, _), (4, _), (13, _), (6, _), (2, _), (0, _), (1, _)] ⟨lg lz, lg (ls rfl lz), lg (ls rfl (ls rfl (ls rfl oz))), lg (ls rfl (ls rfl (ls rfl (os rfl oz)))), lg (ls rfl (ls rfl (ls rfl (os rfl (os rfl (os rfl (os rfl oz))))))), lg (ls rfl (ls rfl (ls rfl (os rfl (os rfl (os rfl (os rfl (os rfl oz)))))))), lg (ls rfl (ls rfl (ls rfl (os rfl (os rfl (os rfl (os rfl (os rfl (os rfl oz))))))))), trivial⟩ ?_
    refine aw_ret ?_
    first | exact done_ext (.inr rfl) ((res_2 rfl (eg (os rfl oz)) (eg oz)).le (tup_le ⟨(le_nil rfl).trans (le_of_eq (by rw [sinceL_f hn])), Pd.le_refl _, trivial⟩)) (tup_bnd (bnd_cons (sl_bnd (kL_bnd _ _ _)) (bnd_cons (pl_bnd _ _ _) bnd_nil))) | exact done_ext (.inr rfl) ((res_2 rfl (eg (os rfl oz)) (eg oz)).le (tup_le ⟨(le_sl rfl).trans (le_of_eq (by rw [hfin])), le_of_eq (by rw [lgE_t hok]; rfl), trivial⟩)) (tup_bnd (bnd_cons (sl_bnd (kL_bnd _ _ _)) (bnd_cons (pl_bnd _ _ _) bnd_nil)))
  · skip
    have hok := lgE_n hc
    refine aw_skip ?_
    refine aw_keep [(13, _), (6, _), (5, _), (4, _), (2, _), (0, _), (1, _)] ⟨lg oz, lg (os rfl oz), lg (os rfl (os rfl oz)), lg (os rfl (os rfl (os rfl oz))), lg (os rfl (os rfl (os rfl (os rfl oz)))), lg (os rfl (os rfl (os rfl (os rfl (os rfl oz))))), lg (os rfl (os rfl (os rfl (os rfl (os rfl (os rfl oz)))))), trivial⟩ ?_
    refine aw_seq ?_
    refine aw_region (by decide) ?_
    refine rts _ rfl (opD_assign (ev_const _ _)) ?_
    refine .nil ?_
    refine aw_keep [(7, _), (13, _), (6, _), (5, _), (4, _), (2, _), (0, _), (1, _)] ⟨lg lz, lg (ls rfl oz), lg (ls rfl (os rfl oz)), lg (ls rfl (os rfl (os rfl oz))), lg (ls rfl (os rfl (os rfl (os rfl oz)))), lg (ls rfl (os rfl (os rfl (os rfl (os rfl oz))))), lg (ls rfl (os rfl (os rfl (os rfl (os rfl (os rfl oz)))))), lg (ls rfl (os rfl (os rfl (os rfl (os rfl (os rfl (os rfl oz))))))), trivial⟩ ?_
    refine aw_seq ?_
    refine aw_seq ?_
    refine aw_fr ⟨63, 5, 0⟩ ?_
    refine aw_region (by decide) ?_
    refine rts _ rfl ((by first | exact opD_fieldAddr fo57_1 (os rfl (os rfl (os rfl (os rfl (os rfl oz))))) | exact opD_fieldAddr_el fo57_1 (os rfl (os rfl (os rfl (os rfl (os rfl oz))))))) ?_
    refine rts _ rfl ((by first | exact opD_load_one ag55 lz (by first | exact loc_get rfl | exact old_get (by assumption)) rfl | exact opD_load_el_one ag55 lz (by first | assumption | simp) rfl)) ?_
    refine rts _ rfl (opD_len_sl Go.Proofs.Tryd.underlying55 lz) ?_
    refine rts _ rfl (opD_move (ev_const _ _)) ?_
    refine .nil ?_
    refine aw_keep [(18, _), (17, _), (16, _), (7, _), (13, _), (6, _), (5, _), (4, _), (2, _), (0, _), (1, _)] ⟨lg lz, lg (ls rfl lz), lg (ls rfl (ls rfl lz)), lg (ls rfl (ls rfl (ls rfl (ls rfl oz)))), lg (ls rfl (ls rfl (ls rfl (ls rfl (os rfl oz))))), lg (ls rfl (ls rfl (ls rfl (ls rfl (os rfl (os rfl oz)))))), lg (ls rfl (ls rfl (ls rfl (ls rfl (os rfl (os rfl (os rfl oz))))))), lg (ls rfl (ls rfl (ls rfl (ls rfl (os rfl (os rfl (os rfl (os rfl oz)))))))), lg (ls rfl (ls rfl (ls rfl (ls rfl (os rfl (os rfl (os rfl (os rfl (os rfl oz))))))))), lg (ls rfl (ls rfl (ls rfl (ls rfl (os rfl (os rfl (os rfl (os rfl (os rfl (os rfl oz)))))))))), lg (ls rfl (ls rfl (ls rfl (ls rfl (os rfl (os rfl (os rfl (os rfl (os rfl (os rfl (os rfl oz))))))))))), trivial⟩ ?_
    refine aw_block ?_
    refine aw_loop (fun n e st => ∃ (i : Nat), Holds e [(1, pl (.int .u64 (q : Int))), (7, sl kL (some (s.fr.length + 0)) none (fromL (l.take i) q)), (16, sl kL none none l), (17, pl (.int .i64 (l.length : Int))), (18, pl (.int .i64 (i : Int)))] ∧ st = s.ext [⟨57, [pl (.int .u64 (d : Int)), sl kL none none l]⟩] [⟨63, 5, (fromL (l.take i) q).length⟩] ∧ n + i = l.length) (l.length) (⟨0, ⟨le_of_eq (eg (os rfl (os rfl (os rfl (os rfl (os rfl (os rfl (os rfl (os rfl (os rfl (os rfl oz))))))))))), (le_of_eq (eg (os rfl (os rfl (os rfl oz))))).trans ((nil_le kL _).trans (sl_nl _ _ _ _)), le_of_eq (eg (os rfl (os rfl oz))), le_of_eq (eg (os rfl oz)), le_of_eq (eg oz), trivial⟩, rfl, by omega⟩) ?_
    rintro n e st ⟨i, hH, rfl, hn0⟩
    refine aw_keep _ hH ?_
    refine aw_cut (s.boxes.length + 1) (s.fr.length + 1) (by rw [ext_boxes_length]; exact Nat.le_refl _) (by rw [ext_fr_length]; exact Nat.le_refl _) ?_
    refine aw_seq ?_
    refine aw_region (by decide) ?_
    refine rts _ rfl (opD_lss (os rfl (os rfl (os rfl (os rfl oz)))) (os rfl (os rfl (os rfl oz)))) ?_
    refine .nil ?_
    refine aw_keep [(19, _), (1, _), (7, _), (16, _), (17, _), (18, _)] ⟨lg lz, lg (ls rfl oz), lg (ls rfl (os rfl oz)), lg (ls rfl (os rfl (os rfl oz))), lg (ls rfl (os rfl (os rfl (os rfl oz)))), lg (ls rfl (os rfl (os rfl (os rfl (os rfl oz))))), trivial⟩ ?_
    refine aw_seq ?_
    refine aw_cond _ oz (fun hc => ?_) (fun hc => ?_)
    · skip
      have hlt : i < l.length := by have := of_decide_eq_true hc; omega
      obtain ⟨x, hxi, hok⟩ := ln_at hx hlt
      have hy2 := from_take (q := q) hxi
      have hyl : (fromL (l.take i) q).length ≤ i := Nat.le_trans (List.length_filter_le _ _) (by rw [List.length_take]; omega)
      refine aw_skip ?_
      refine aw_keep [(19, _), (1, _), (7, _), (16, _), (17, _), (18, _)] ⟨lg oz, lg (os rfl oz), lg (os rfl (os rfl oz)), lg (os rfl (os rfl (os rfl oz))), lg (os rfl (os rfl (os rfl (os rfl oz)))), lg (os rfl (os rfl (os rfl (os rfl (os rfl oz))))), trivial⟩ ?_
      refine aw_seq ?_
      refine aw_block ?_
      refine aw_seq ?_
      refine aw_region (by decide) ?_
      refine rts _ rfl (opD_indexAddr_sl Go.Proofs.Tryd.underlying55 sz63 (os rfl (os rfl (os rfl oz))) (os rfl (os rfl (os rfl (os rfl (os rfl oz))))) (by first | rfl | simp | omega) (by first | assumption | omega)) ?_
      refine rts _ rfl ((by first | exact opD_load_aggX (qs := [_, _, _, _, _]) ag63 sz63 lz (by first | exact loc_get rfl | exact old_get (by assumption)) (by simp) rfl | exact opD_load_el_aggX (qs := [_, _, _, _, _]) ag63 sz63 lz (by first | assumption | simp) (by decide) rfl)) ?_
      refine rts _ rfl (opD_allocX zt63 (by first | exact List.length_nil | (simp only [List.length_cons, List.length_nil, Nat.zero_add, Nat.reduceAdd]; rfl)) (by simp only [List.nil_append, List.cons_append, List.map_cons, List.map_nil, List.set_cons_zero, List.set_cons_succ, List.take_succ_cons, List.take_zero, List.drop_succ_cons, List.drop_zero]; rfl)) ?_
      refine rts _ rfl (opD_storeA sz63 lz (ls rfl lz) (by repeat (first | exact ones_nil | refine ones_cons (by first | exact one_pl rfl | exact one_sl _ _ _ _ | exact one_ptr _ _) ?_)) rfl rfl (Nat.le_of_ble_eq_true rfl) (List.cons_ne_nil _ _) (by repeat (first | exact bnd_nil | refine bnd_cons (by first | exact pl_bnd _ _ _ | exact sl_bnd (kL_bnd _ _ _) | exact sl_bnd (kI_bnd _ _ _ _) | exact ptr_bnd _ (by omega) | exact any_bnd _ _ | exact sl_own_bnd (kL_bnd _ _ _) (by omega) | exact sl_own_bnd (kL_bnd _ _ _) (by simp only [List.length_append, List.length_cons, List.length_nil]; omega)) ?_)) (by simp only [List.nil_append, List.cons_append, List.map_cons, List.map_nil, List.set_cons_zero, List.set_cons_succ, List.take_succ_cons, List.take_zero, List.drop_succ_cons, List.drop_zero]; rfl) (by simp only [List.nil_append, List.cons_append, List.map_cons, List.map_nil, List.set_cons_zero, List.set_cons_succ, List.take_succ_cons, List.take_zero, List.drop_succ_cons, List.drop_zero]; rfl)) ?_
      refine .nil ?_
      refine aw_keep [(9, _), (19, _), (1, _), (7, _), (16, _), (17, _), (18, _)] ⟨lg (lx lz), lg (lx (ls rfl (ls rfl (ls rfl oz)))), lg (lx (ls rfl (ls rfl (ls rfl (os rfl oz))))), lg (lx (ls rfl (ls rfl (ls rfl (os rfl (os rfl oz)))))), lg (lx (ls rfl (ls rfl (ls rfl (os rfl (os rfl (os rfl oz))))))), lg (lx (ls rfl (ls rfl (ls rfl (os rfl (os rfl (os rfl (os rfl oz)))))))), lg (lx (ls rfl (ls rfl (ls rfl (os rfl (os rfl (os rfl (os rfl (os rfl oz))))))))), trivial⟩ ?_
      refine aw_seq ?_
      refine aw_region (by decide) ?_
      refine rts _ rfl ((by first | exact opD_fieldAddr fo63_0 oz | exact opD_fieldAddr_el fo63_0 oz)) ?_
      refine rts _ rfl ((by first | exact opD_load_one ag22 lz (by first | exact loc_get rfl | exact old_get (by assumption)) rfl | exact opD_load_el_one ag22 lz (by first | assumption | simp) rfl)) ?_
      refine rts _ rfl (opD_move (ls rfl (ls rfl (os rfl (os rfl oz))))) ?_
      refine rts _ rfl (opD_geq (ls rfl lz) lz) ?_
      refine .nil ?_
      refine aw_keep [(25, _), (9, _), (19, _), (1, _), (7, _), (16, _), (17, _), (18, _)] ⟨lg lz, lg (ls rfl (ls rfl (ls rfl (ls rfl oz)))), lg (ls rfl (ls rfl (ls rfl (ls rfl (os rfl oz))))), lg (ls rfl (ls rfl (ls rfl (ls rfl (os rfl (os rfl oz)))))), lg (ls rfl (ls rfl (ls rfl (ls rfl (os rfl (os rfl (os rfl oz))))))), lg (ls rfl (ls rfl (ls rfl (ls rfl (os rfl (os rfl (os rfl (os rfl oz)))))))), lg (ls rfl (ls rfl (ls rfl (ls rfl (os rfl (os rfl (os rfl (os rfl (os rfl oz))))))))), lg (ls rfl (ls rfl (ls rfl (ls rfl (os rfl (os rfl (os rfl (os rfl (os rfl (os rfl oz)))))))))), trivial⟩ ?_
      refine aw_cond _ oz (fun hc => ?_) (fun hc => ?_)
      · skip
        have hq : q ≤ x.seq := by have := of_decide_eq_true hc; omega
        rw [if_pos hq] at hy2
        refine aw_region (by decide) ?_
        refine rts _ rfl (opD_move (os rfl (os rfl (os rfl (os rfl oz))))) ?_
        refine rts _ rfl ((by first | exact opD_load_aggX (qs := [_, _, _, _, _]) ag63 sz63 (ls rfl (os rfl oz)) (by first | exact loc_get rfl | exact old_get (by assumption)) (by simp) rfl | exact opD_load_el_aggX (qs := [_, _, _, _, _]) ag63 sz63 (ls rfl (os rfl oz)) (by first | assumption | simp) (by decide) rfl)) ?_
        refine rts _ rfl (opD_buildSlice (k := kL) [x] Go.Proofs.Tryd.underlying55 sz63 zt63 (by decide) rfl (parts_cons (cellsA lz) parts_nil) rfl rfl) ?_
        refine rts _ rfl ((by first | exact opD_appendX Go.Proofs.Tryd.underlying55 el63 (ls rfl (ls rfl lz)) lz rfl (by first | omega | (simp only [List.length_cons, List.length_nil, List.length_append]; omega)) (by first | omega | (simp only [List.length_cons, List.length_nil, List.length_append]; omega)) (by first | (with_reducible exact List.nil_append _) | exact rfl) (by simp only [List.nil_append, List.cons_append, List.map_cons, List.map_nil, List.set_cons_zero, List.set_cons_succ, List.take_succ_cons, List.take_zero, List.drop_succ_cons, List.drop_zero]; rfl) | exact opD_appendN (k := kL) Go.Proofs.Tryd.underlying55 el63 (ls rfl (ls rfl lz)) lz (by first | omega | (simp only [List.length_cons, List.length_nil, List.length_append]; omega)) (by first | omega | (simp only [List.length_cons, List.length_nil, List.length_append]; omega)) (by first | exact List.length_nil | (simp only [List.length_cons, List.length_nil, Nat.zero_add, Nat.reduceAdd]; rfl)) (by simp only [List.nil_append, List.cons_append, List.map_cons, List.map_nil, List.set_cons_zero, List.set_cons_succ, List.take_succ_cons, List.take_zero, List.drop_succ_cons, List.drop_zero]; rfl))) ?_
        refine rts _ rfl (opD_assign lz) ?_
        refine .nil ?_
        refine aw_keep [(7, _), (25, _), (9, _), (19, _), (1, _), (16, _), (17, _), (18, _)] ⟨lg lz, lg (ls rfl (ls rfl (ls rfl (ls rfl (ls rfl oz))))), lg (ls rfl (ls rfl (ls rfl (ls rfl (ls rfl (os rfl oz)))))), lg (ls rfl (ls rfl (ls rfl (ls rfl (ls rfl (os rfl (os rfl oz))))))), lg (ls rfl (ls rfl (ls rfl (ls rfl (ls rfl (os rfl (os rfl (os rfl oz)))))))), lg (ls rfl (ls rfl (ls rfl (ls rfl (ls rfl (os rfl (os rfl (os rfl (os rfl (os rfl oz)))))))))), lg (ls rfl (ls rfl (ls rfl (ls rfl (ls rfl (os rfl (os rfl (os rfl (os rfl (os rfl (os rfl oz))))))))))), lg (ls rfl (ls rfl (ls rfl (ls rfl (ls rfl (os rfl (os rfl (os rfl (os rfl (os rfl (os rfl (os rfl oz)))))))))))), trivial⟩ ?_
        refine aw_region (by decide) ?_
        refine rts _ rfl (opD_add (os rfl (os rfl (os rfl (os rfl (os rfl (os rfl (os rfl oz))))))) (ev_const _ _) (by first | exact IntWalk.i64_in _ (by omega) | exact rfl)) ?_
        refine rts _ rfl (opD_move lz) ?_
        refine .nil ?_
        refine cut_yes (l := [(1, _), (7, _), (16, _), (17, _), (18, _)]) ⟨lg (ls rfl (ls rfl (os rfl (os rfl (os rfl (os rfl oz)))))), lg (ls rfl (ls rfl oz)), lg (ls rfl (ls rfl (os rfl (os rfl (os rfl (os rfl (os rfl oz))))))), lg (ls rfl (ls rfl (os rfl (os rfl (os rfl (os rfl (os rfl (os rfl oz)))))))), lg lz, trivial⟩ (by repeat (first | exact bnd_nil | refine bnd_cons (by first | exact pl_bnd _ _ _ | exact sl_bnd (kL_bnd _ _ _) | exact sl_bnd (kI_bnd _ _ _ _) | exact ptr_bnd _ (by omega) | exact any_bnd _ _ | exact sl_own_bnd (kL_bnd _ _ _) (by omega) | exact sl_own_bnd (kL_bnd _ _ _) (by simp only [List.length_append, List.length_cons, List.length_nil]; omega)) ?_)) (Nat.le_of_ble_eq_true rfl) (Nat.le_of_ble_eq_true rfl) (by simp only [List.nil_append, List.cons_append, List.map_cons, List.map_nil, List.set_cons_zero, List.set_cons_succ, List.take_succ_cons, List.take_zero, List.drop_succ_cons, List.drop_zero]; rfl) (by simp only [List.nil_append, List.cons_append, List.map_cons, List.map_nil, List.set_cons_zero, List.set_cons_succ, List.take_succ_cons, List.take_zero, List.drop_succ_cons, List.drop_zero]; rfl) (by repeat (first | exact bl_nil | refine bl_cons (by repeat (first | exact bnd_nil | refine bnd_cons (by first | exact pl_bnd _ _ _ | exact sl_bnd (kL_bnd _ _ _) | exact sl_bnd (kI_bnd _ _ _ _) | exact ptr_bnd _ (by omega) | exact any_bnd _ _ | exact sl_own_bnd (kL_bnd _ _ _) (by omega) | exact sl_own_bnd (kL_bnd _ _ _) (by simp only [List.length_append, List.length_cons, List.length_nil]; omega)) ?_)) ?_)) ?_
        refine ⟨n - 1, by omega, i + 1, ?_, ?_, by omega⟩
        · rw [hy2]; exact ⟨le_of_eq (eg oz), le_of_eq (eg (os rfl oz)), le_of_eq (eg (os rfl (os rfl oz))), le_of_eq (eg (os rfl (os rfl (os rfl oz)))), le_of_eq (eg (os rfl (os rfl (os rfl (os rfl oz))))), trivial⟩
        · first | (rw [hy2]; done) | (rw [hy2]; rfl)
      · skip
        have hq : ¬ q ≤ x.seq := by have := of_decide_eq_false hc; omega
        rw [if_neg hq, List.append_nil] at hy2
        refine aw_skip ?_
        refine aw_keep [(25, _), (9, _), (19, _), (1, _), (7, _), (16, _), (17, _), (18, _)] ⟨lg oz, lg (os rfl oz), lg (os rfl (os rfl oz)), lg (os rfl (os rfl (os rfl oz))), lg (os rfl (os rfl (os rfl (os rfl oz)))), lg (os rfl (os rfl (os rfl (os rfl (os rfl oz))))), lg (os rfl (os rfl (os rfl (os rfl (os rfl (os rfl oz)))))), lg (os rfl (os rfl (os rfl (os rfl (os rfl (os rfl (os rfl oz))))))), trivial⟩ ?_
        refine aw_region (by decide) ?_
        refine rts _ rfl (opD_add (os rfl (os rfl (os rfl (os rfl (os rfl (os rfl (os rfl oz))))))) (ev_const _ _) (by first | exact IntWalk.i64_in _ (by omega) | exact rfl)) ?_
        refine rts _ rfl (opD_move lz) ?_
        refine .nil ?_
        refine cut_yes (l := [(1, _), (7, _), (16, _), (17, _), (18, _)]) ⟨lg (ls rfl (ls rfl (os rfl (os rfl (os rfl oz))))), lg (ls rfl (ls rfl (os rfl (os rfl (os rfl (os rfl oz)))))), lg (ls rfl (ls rfl (os rfl (os rfl (os rfl (os rfl (os rfl oz))))))), lg (ls rfl (ls rfl (os rfl (os rfl (os rfl (os rfl (os rfl (os rfl oz)))))))), lg lz, trivial⟩ (by repeat (first | exact bnd_nil | refine bnd_cons (by first | exact pl_bnd _ _ _ | exact sl_bnd (kL_bnd _ _ _) | exact sl_bnd (kI_bnd _ _ _ _) | exact ptr_bnd _ (by omega) | exact any_bnd _ _ | exact sl_own_bnd (kL_bnd _ _ _) (by omega) | exact sl_own_bnd (kL_bnd _ _ _) (by simp only [List.length_append, List.length_cons, List.length_nil]; omega)) ?_)) (Nat.le_of_ble_eq_true rfl) (Nat.le_of_ble_eq_true rfl) (by simp only [List.nil_append, List.cons_append, List.map_cons, List.map_nil, List.set_cons_zero, List.set_cons_succ, List.take_succ_cons, List.take_zero, List.drop_succ_cons, List.drop_zero]; rfl) (by simp only [List.nil_append, List.cons_append, List.map_cons, List.map_nil, List.set_cons_zero, List.set_cons_succ, List.take_succ_cons, List.take_zero, List.drop_succ_cons, List.drop_zero]; rfl) (by repeat (first | exact bl_nil | refine bl_cons (by repeat (first | exact bnd_nil | refine bnd_cons (by first | exact pl_bnd _ _ _ | exact sl_bnd (kL_bnd _ _ _) | exact sl_bnd (kI_bnd _ _ _ _) | exact ptr_bnd _ (by omega) | exact any_bnd _ _ | exact sl_own_bnd (kL_bnd _ _ _) (by omega) | exact sl_own_bnd (kL_bnd _ _ _) (by simp only [List.length_append, List.length_cons, List.length_nil]; omega)) ?_)) ?_)) ?_
        refine ⟨n - 1, by omega, i + 1, ?_, ?_, by omega⟩
        · rw [hy2]; exact ⟨le_of_eq (eg oz), le_of_eq (eg (os rfl oz)), le_of_eq (eg (os rfl (os rfl oz))), le_of_eq (eg (os rfl (os rfl (os rfl oz)))), le_of_eq (eg (os rfl (os rfl (os rfl (os rfl oz))))), trivial⟩
        · first | (rw [hy2]; done) | (rw [hy2]; rfl)
    · skip
      have hge : ¬ i < l.length := by have := of_decide_eq_false hc; omega
      have hfin : fromL (l.take i) q = sinceL d l q := by rw [sinceL_t hok, List.take_of_length_le (by omega)]
      refine aw_exit ?_
      refine cut_no ?_
      refine aw_keep [(19, _), (1, _), (7, _), (16, _), (17, _), (18, _)] ⟨lg oz, lg (os rfl oz), lg (os rfl (os rfl oz)), lg (os rfl (os rfl (os rfl oz))), lg (os rfl (os rfl (os rfl (os rfl oz)))), lg (os rfl (os rfl (os rfl (os rfl (os rfl oz))))), trivial⟩ ?_
      refine aw_seq ?_
      refine aw_region (by decide) ?_
      refine rts _ rfl (opD_move (os rfl (os rfl oz))) ?_
      refine rts _ rfl (opD_assign lz) ?_
      refine rts _ rfl (opD_assign (ev_const _ _)) ?_
      refine .nil ?_
      refine aw_keep [(5, _), (4, _), (19, _), (1, _), (7, _), (16, _), (17, _), (18, _)] ⟨lg lz, lg (ls rfl lz), lg (ls rfl (ls rfl (ls rfl oz))), lg (ls rfl (ls rfl (ls rfl (os rfl oz)))), lg (ls rfl (ls rfl (ls rfl (os rfl (os rfl oz))))), lg (ls rfl (ls rfl (ls rfl (os rfl (os rfl (os rfl oz)))))), lg (ls rfl (ls rfl (ls rfl (os rfl (os rfl (os rfl (os rfl oz))))))), lg (ls rfl (ls rfl (ls rfl (os rfl (os rfl (os rfl (os rfl (os rfl oz)))))))), trivial⟩ ?_
      refine aw_ret ?_
      first | exact done_ext (.inr rfl) ((res_2 rfl (eg (os rfl oz)) (eg oz)).le (tup_le ⟨(le_nil rfl).trans (le_of_eq (by rw [sinceL_f hn])), Pd.le_refl _, trivial⟩)) (tup_bnd (bnd_cons (sl_bnd (kL_bnd _ _ _)) (bnd_cons (pl_bnd _ _ _) bnd_nil))) | exact done_ext (.inr rfl) ((res_2 rfl (eg (os rfl oz)) (eg oz)).le (tup_le ⟨(le_sl rfl).trans (le_of_eq (by rw [hfin])), le_of_eq (by rw [lgE_t hok]; rfl), trivial⟩)) (tup_bnd (bnd_cons (sl_bnd (kL_bnd _ _ _)) (bnd_cons (pl_bnd _ _ _) bnd_nil)))
end Go.Proofs.YtmnhfpcbfdgbcaaDoor.Eng.Ls

