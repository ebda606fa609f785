/- TLe: what the functions of one package do, walked; used by the laws of this seat. -/
import Derived.Test.YtmnhfpcbfdgbcaaDoorTLt
namespace Go.Proofs.YtmnhfpcbfdgbcaaDoor.Eng.Le
set_option linter.unusedVariables false
set_option linter.unusedSimpArgs false
open Go.RowKit Go.Proofs.YtmnhfpcbfdgbcaaDoor.Plain Go.Proofs.YtmnhfpcbfdgbcaaDoor.Eng

theorem ag57 : aggT Go.Proofs.Tryd.prog 57 = some true := by kernel_rfl
theorem sz57 : sizeT Go.Proofs.Tryd.prog 57 = some 2 := by kernel_rfl
theorem ht47 : hasText Go.Proofs.Tryd.prog 47 = true := by kernel_rfl
theorem mixed : Go.Proofs.Tryd.prog.follows .mixedOrders = true := by kernel_rfl
theorem fo57_0 : fieldOff Go.Proofs.Tryd.prog 57 0 = some 0 := by kernel_rfl
theorem ag22 : aggT Go.Proofs.Tryd.prog 22 = some false := by kernel_rfl
theorem ht21 : hasText Go.Proofs.Tryd.prog 21 = true := by kernel_rfl
theorem fo57_1 : fieldOff Go.Proofs.Tryd.prog 57 1 = some 1 := by kernel_rfl
theorem ag55 : aggT Go.Proofs.Tryd.prog 55 = some false := by kernel_rfl
theorem sz63 : sizeT Go.Proofs.Tryd.prog 63 = some 5 := by kernel_rfl
theorem ag63 : aggT Go.Proofs.Tryd.prog 63 = some true := by kernel_rfl
theorem zt63 : zeroT Go.Proofs.Tryd.prog 63 = some [.int .u64 0, .int .u64 0, .int .u8 0, .int .u16 0, .string ⟨#[]⟩] := by kernel_rfl
theorem fo63_1 : fieldOff Go.Proofs.Tryd.prog 63 1 = some 1 := by kernel_rfl
theorem fo63_2 : fieldOff Go.Proofs.Tryd.prog 63 2 = some 2 := by kernel_rfl
theorem ag5 : aggT Go.Proofs.Tryd.prog 5 = some false := by kernel_rfl
theorem ht19 : hasText Go.Proofs.Tryd.prog 19 = true := by kernel_rfl
theorem fo63_3 : fieldOff Go.Proofs.Tryd.prog 63 3 = some 3 := by kernel_rfl
theorem ag58 : aggT Go.Proofs.Tryd.prog 58 = some false := by kernel_rfl
theorem fo63_4 : fieldOff Go.Proofs.Tryd.prog 63 4 = some 4 := by kernel_rfl
theorem ag9 : aggT Go.Proofs.Tryd.prog 9 = some false := by kernel_rfl
theorem ht20 : hasText Go.Proofs.Tryd.prog 20 = true := by kernel_rfl
theorem ag70 : aggT Go.Proofs.Tryd.prog 70 = some true := by kernel_rfl
theorem sz70 : sizeT Go.Proofs.Tryd.prog 70 = some 2 := by kernel_rfl
theorem ht48 : hasText Go.Proofs.Tryd.prog 48 = true := by kernel_rfl
theorem fo70_0 : fieldOff Go.Proofs.Tryd.prog 70 0 = some 0 := by kernel_rfl
theorem ht29 : hasText Go.Proofs.Tryd.prog 29 = true := by kernel_rfl
theorem fo70_1 : fieldOff Go.Proofs.Tryd.prog 70 1 = some 1 := by kernel_rfl
theorem ag54 : aggT Go.Proofs.Tryd.prog 54 = some false := by kernel_rfl
theorem sz60 : sizeT Go.Proofs.Tryd.prog 60 = some 5 := by kernel_rfl
theorem ag60 : aggT Go.Proofs.Tryd.prog 60 = some true := by kernel_rfl
theorem zt60 : zeroT Go.Proofs.Tryd.prog 60 = some [.int .u64 0, .int .u64 0, .int .u8 0, .int .u16 0, .string ⟨#[]⟩] := by kernel_rfl
theorem fo60_1 : fieldOff Go.Proofs.Tryd.prog 60 1 = some 1 := by kernel_rfl
theorem fo60_2 : fieldOff Go.Proofs.Tryd.prog 60 2 = some 2 := by kernel_rfl
theorem sz5 : sizeT Go.Proofs.Tryd.prog 5 = some 1 := by kernel_rfl
theorem zt5 : zeroT Go.Proofs.Tryd.prog 5 = some [.int .u8 0] := by kernel_rfl
theorem el5 : elT Go.Proofs.Tryd.prog 5 = some (1, 1) := by kernel_rfl
theorem fo60_3 : fieldOff Go.Proofs.Tryd.prog 60 3 = some 3 := by kernel_rfl
theorem fo60_4 : fieldOff Go.Proofs.Tryd.prog 60 4 = some 4 := by kernel_rfl
theorem ht30 : hasText Go.Proofs.Tryd.prog 30 = true := by kernel_rfl

open Go.Proofs.YtmnhfpcbfdgbcaaDoor.Eng.Pk Go.Proofs.YtmnhfpcbfdgbcaaDoor.Eng.Rd Go.Proofs.YtmnhfpcbfdgbcaaDoor.Eng.Pb Go.Proofs.YtmnhfpcbfdgbcaaDoor.Eng.Er Go.Proofs.YtmnhfpcbfdgbcaaDoor.Eng.Rf06 Go.Proofs.YtmnhfpcbfdgbcaaDoor.Eng.Lg Go.Proofs.YtmnhfpcbfdgbcaaDoor.Eng.Lc Go.Proofs.YtmnhfpcbfdgbcaaDoor.Eng.Ls Go.Proofs.YtmnhfpcbfdgbcaaDoor.Eng.Lt
def lnB (x : Ln) : List Int := vb x.who ++ ([x.what] ++ (vb x.code ++ (vb x.key.size ++ bytesOf x.key)))
def encL (d : Nat) (l : List Ln) : List Int := vb d ++ (vb l.length ++ l.flatMap lnB)
noncomputable def encE (d : Nat) (l : List Ln) : List Int := if lgOk d l = true then encL d l else []
theorem encE_t {d : Nat} {l : List Ln} (h : LgOk d l) : encE d l = encL d l := by rw [encE, if_pos (lgOk_t h)]
theorem encE_f {d : Nat} {l : List Ln} (h : ¬ LgOk d l) : encE d l = [] := by rw [encE, lgOk_f h]; rfl
theorem lnB_len {x : Ln} (hx : LnOk x) (hm : mayB x = true) : (lnB x).length ≤ 71 := by
  obtain ⟨h1, h2, h3, h4, h5⟩ := hx
  simp only [mayB, Bool.and_eq_true, decide_eq_true_eq] at hm
  have a1 := vb_len10 (n := x.who) (by omega)
  have a2 := vb_len10 (n := x.code) (by omega)
  have a3 := vb_len10 (n := x.key.size) (by omega)
  simp only [lnB, List.length_append, List.length_cons, List.length_nil, bytesOf_length]
  omega
theorem enc_len {l : List Ln} (hx : ∀ x ∈ l, LnOk x) (hm : ∀ x ∈ l, mayB x = true) : (l.flatMap lnB).length ≤ 71 * l.length := by
  induction l with
  | nil => simp
  | cons x t ih =>
    have h1 := lnB_len (hx x List.mem_cons_self) (hm x List.mem_cons_self)
    have h2 := ih (fun y hy => hx y (List.mem_cons_of_mem _ hy)) (fun y hy => hm y (List.mem_cons_of_mem _ hy))
    rw [List.flatMap_cons, List.length_append, List.length_cons]
    omega
theorem ok_may {d : Nat} {l : List Ln} (h : LgOk d l) : ∀ x ∈ l, mayB x = true := fun x hx => by
  obtain ⟨i, hi⟩ := List.mem_iff_getElem?.1 hx
  exact (h.2.2.2 i x hi).1
theorem enc_take {l : List Ln} {i : Nat} {x : Ln} (h : l[i]? = some x) : (l.take (i + 1)).flatMap lnB = (l.take i).flatMap lnB ++ lnB x := by
  obtain ⟨h1, h2⟩ := List.getElem?_eq_some_iff.1 h
  rw [List.take_succ_eq_append_getElem h1, h2, List.flatMap_append]
  simp

set_option maxRecDepth 100000 in
set_option maxHeartbeats 1000000 in
theorem lg_encode {d : Nat} {l : List Ln} (hd : d < 18446744073709551616) (hl : l.length ≤ 1000000) (hx : ∀ x ∈ l, LnOk x) : Pure Go.Proofs.Tryd.prog 37 [lgP d l] (tup [sl (kI .u8) none none (encE d l), pl (errV (lgE d l))]) := by
  intro s
  unfold lgP
  refine ac_of_aw s.boxes.length s.fr.length Go.Proofs.Tryd.func37 rfl (by simp [Go.Proofs.Tryd.ntmps37]) ?_
  refine aw_ext0 ?_
  refine aw_keep [(0, _)] ⟨lg ez, trivial⟩ ?_
  refine aw_seq ?_
  refine aw_region (by decide) ?_
  refine rts _ rfl (opD_boxA oz (by repeat (first | exact bnd_nil | refine bnd_cons (by first | exact pl_bnd _ _ _ | exact sl_bnd (kL_bnd _ _ _) | exact sl_bnd (kI_bnd _ _ _ _) | exact ptr_bnd _ (by omega) | exact any_bnd _ _ | exact sl_own_bnd (kL_bnd _ _ _) (by omega) | exact sl_own_bnd (kL_bnd _ _ _) (by simp only [List.length_append, List.length_cons, List.length_nil]; omega)) ?_)) (by first | exact List.length_nil | (simp only [List.length_cons, List.length_nil, Nat.zero_add, Nat.reduceAdd]; rfl)) (by simp only [List.nil_append, List.cons_append, List.map_cons, List.map_nil, List.set_cons_zero, List.set_cons_succ, List.take_succ_cons, List.take_zero, List.drop_succ_cons, List.drop_zero]; rfl)) ?_
  refine rts _ rfl (opD_assign (ev_const _ _)) ?_
  refine rts _ rfl (opD_assign (ev_const _ _)) ?_
  refine .nil ?_
  refine aw_keep [(3, _), (2, _), (1, _), (0, _)] ⟨lg lz, lg (ls rfl lz), lg (ls rfl (ls rfl lz)), lg (ls rfl (ls rfl (ls rfl oz))), trivial⟩ ?_
  refine aw_seq ?_
  refine aw_seq ?_
  refine aw_region (by decide) ?_
  refine rts _ rfl ((by first | exact opD_load_aggX (qs := [_, _]) ag57 sz57 (os rfl (os rfl oz)) (by first | exact loc_get rfl | exact old_get (by assumption)) (by simp) rfl | exact opD_load_el_aggX (qs := [_, _]) ag57 sz57 (os rfl (os rfl oz)) (by first | assumption | simp) (by decide) rfl)) ?_
  refine rts _ rfl (opD_pure ht47 (lg_check hd (by omega) hx) ⟨le_of_eq lz, trivial⟩) ?_
  refine rts _ rfl (opD_assign lz) ?_
  refine .nil ?_
  refine aw_keep [(4, _), (3, _), (2, _), (1, _), (0, _)] ⟨lg lz, lg (ls rfl (ls rfl (ls rfl oz))), lg (ls rfl (ls rfl (ls rfl (os rfl oz)))), lg (ls rfl (ls rfl (ls rfl (os rfl (os rfl oz))))), lg (ls rfl (ls rfl (ls rfl (os rfl (os rfl (os rfl oz)))))), trivial⟩ ?_
  refine aw_seq ?_
  refine aw_region (by decide) ?_
  refine rts _ rfl (opD_move oz) ?_
  refine rts _ rfl (opD_bin lz (ev_const _ _) (fun w => errV_guard _ w _) (fun w => errV_beq _ w)) ?_
  refine .nil ?_
  refine aw_keep [(11, _), (4, _), (3, _), (2, _), (1, _), (0, _)] ⟨lg lz, lg (ls rfl (ls rfl oz)), lg (ls rfl (ls rfl (os rfl oz))), lg (ls rfl (ls rfl (os rfl (os rfl oz)))), lg (ls rfl (ls rfl (os rfl (os rfl (os rfl oz))))), lg (ls rfl (ls rfl (os rfl (os rfl (os rfl (os rfl oz)))))), trivial⟩ ?_
  refine aw_cond _ oz (fun hc => ?_) (fun hc => ?_)
  · skip
    have hn := lgE_s hc
    refine aw_seq ?_
    refine aw_region (by decide) ?_
    refine rts _ rfl (opD_move (os rfl oz)) ?_
    refine rts _ rfl (opD_assign (ev_const _ _)) ?_
    refine rts _ rfl (opD_assign (ls rfl lz)) ?_
    refine .nil ?_
    refine aw_keep [(3, _), (2, _), (11, _), (4, _), (1, _), (0, _)] ⟨lg lz, lg (ls rfl lz), lg (ls rfl (ls rfl (ls rfl oz))), lg (ls rfl (ls rfl (ls rfl (os rfl oz)))), lg (ls rfl (ls rfl (ls rfl (os rfl (os rfl (os rfl (os rfl oz))))))), lg (ls rfl (ls rfl (ls rfl (os rfl (os rfl (os rfl (os rfl (os rfl oz)))))))), trivial⟩ ?_
    refine aw_ret ?_
    first | exact done_ext (.inr rfl) ((res_2 rfl (eg (os rfl oz)) (eg oz)).le (tup_le ⟨(le_nil rfl).trans (le_of_eq (by rw [encE_f hn])), Pd.le_refl _, trivial⟩)) (tup_bnd (bnd_cons (sl_bnd (kI_bnd _ _ _ _)) (bnd_cons (pl_bnd _ _ _) bnd_nil))) | exact done_ext (.inr rfl) ((res_2 rfl (eg (os rfl oz)) (eg oz)).le (tup_le ⟨(le_sl rfl).trans (le_of_eq (by rw [hfin])), le_of_eq (by rw [lgE_t hok]; rfl), trivial⟩)) (tup_bnd (bnd_cons (sl_bnd (kI_bnd _ _ _ _)) (bnd_cons (pl_bnd _ _ _) bnd_nil)))
  · skip
    have hok := lgE_n hc
    have a4 := vb_len10 (n := d) (by omega)
    refine aw_skip ?_
    refine aw_keep [(11, _), (4, _), (3, _), (2, _), (1, _), (0, _)] ⟨lg oz, lg (os rfl oz), lg (os rfl (os rfl oz)), lg (os rfl (os rfl (os rfl oz))), lg (os rfl (os rfl (os rfl (os rfl oz)))), lg (os rfl (os rfl (os rfl (os rfl (os rfl oz))))), trivial⟩ ?_
    refine aw_seq ?_
    refine aw_flat mixed (by decide +kernel) ?_
    refine zts _ rfl ((by first | exact opD_fieldAddr fo57_0 (os rfl (os rfl (os rfl (os rfl oz)))) | exact opD_fieldAddr_el fo57_0 (os rfl (os rfl (os rfl (os rfl oz)))))) ?_
    refine zts _ rfl ((by first | exact opD_load_one ag22 lz (by first | exact loc_get rfl | exact old_get (by assumption)) rfl | exact opD_load_el_one ag22 lz (by first | assumption | simp) rfl)) ?_
    refine zts _ rfl (opD_pure ht21 (own1_pure (pk_num (l := []) (n := d) (by decide) hd) (kI_bnd _ _ _ _)) ⟨le_nil (ev_const _ _), le_of_eq lz, trivial⟩) ?_
    refine zts _ rfl ((by first | exact opD_fieldAddr fo57_1 (ls rfl (ls rfl (ls rfl (os rfl (os rfl (os rfl (os rfl oz))))))) | exact opD_fieldAddr_el fo57_1 (ls rfl (ls rfl (ls rfl (os rfl (os rfl (os rfl (os rfl oz))))))))) ?_
    refine zts _ rfl ((by first | exact opD_load_one ag55 lz (by first | exact loc_get rfl | exact old_get (by assumption)) rfl | exact opD_load_el_one ag55 lz (by first | assumption | simp) rfl)) ?_
    refine zts _ rfl (opD_len_sl Go.Proofs.Tryd.underlying55 lz) ?_
    refine zts _ rfl (opD_conv_int Go.Proofs.Tryd.underlying3 Go.Proofs.Tryd.underlying22 lz (by first | exact IntWalk.u64_in _ (by omega) | exact rfl)) ?_
    refine zts _ rfl (opD_pure ht21 (own1_pure (pk_num (n := l.length) (by simp only [List.length_append, List.length_nil, List.length_cons, bytesOf_length]; omega) (by omega)) (kI_bnd _ _ _ _)) ⟨le_sl (ls rfl (ls rfl (ls rfl (ls rfl lz)))), le_of_eq lz, trivial⟩) ?_
    refine zts _ rfl (opD_assign lz) ?_
    refine .nil ?_
    refine aw_keep [(5, _), (11, _), (4, _), (3, _), (2, _), (1, _), (0, _)] ⟨lg lz, lg (ls rfl (ls rfl (ls rfl (ls rfl (ls rfl (ls rfl (ls rfl (ls rfl (ls rfl oz))))))))), lg (ls rfl (ls rfl (ls rfl (ls rfl (ls rfl (ls rfl (ls rfl (ls rfl (ls rfl (os rfl oz)))))))))), lg (ls rfl (ls rfl (ls rfl (ls rfl (ls rfl (ls rfl (ls rfl (ls rfl (ls rfl (os rfl (os rfl oz))))))))))), lg (ls rfl (ls rfl (ls rfl (ls rfl (ls rfl (ls rfl (ls rfl (ls rfl (ls rfl (os rfl (os rfl (os rfl oz)))))))))))), lg (ls rfl (ls rfl (ls rfl (ls rfl (ls rfl (ls rfl (ls rfl (ls rfl (ls rfl (os rfl (os rfl (os rfl (os rfl oz))))))))))))), lg (ls rfl (ls rfl (ls rfl (ls rfl (ls rfl (ls rfl (ls rfl (ls rfl (ls rfl (os rfl (os rfl (os rfl (os rfl (os rfl oz)))))))))))))), trivial⟩ ?_
    refine aw_seq ?_
    refine aw_seq ?_
    refine aw_region (by decide) ?_
    refine rts _ rfl ((by first | exact opD_fieldAddr fo57_1 (os rfl (os rfl (os rfl (os rfl (os rfl oz))))) | exact opD_fieldAddr_el fo57_1 (os rfl (os rfl (os rfl (os rfl (os rfl oz))))))) ?_
    refine rts _ rfl ((by first | exact opD_load_one ag55 lz (by first | exact loc_get rfl | exact old_get (by assumption)) rfl | exact opD_load_el_one ag55 lz (by first | assumption | simp) rfl)) ?_
    refine rts _ rfl (opD_len_sl Go.Proofs.Tryd.underlying55 lz) ?_
    refine rts _ rfl (opD_move (ev_const _ _)) ?_
    refine .nil ?_
    refine aw_keep [(24, _), (23, _), (22, _), (5, _), (11, _), (4, _), (3, _), (2, _), (1, _), (0, _)] ⟨lg lz, lg (ls rfl lz), lg (ls rfl (ls rfl lz)), lg (ls rfl (ls rfl (ls rfl (ls rfl oz)))), lg (ls rfl (ls rfl (ls rfl (ls rfl (os rfl oz))))), lg (ls rfl (ls rfl (ls rfl (ls rfl (os rfl (os rfl oz)))))), lg (ls rfl (ls rfl (ls rfl (ls rfl (os rfl (os rfl (os rfl oz))))))), lg (ls rfl (ls rfl (ls rfl (ls rfl (os rfl (os rfl (os rfl (os rfl oz)))))))), lg (ls rfl (ls rfl (ls rfl (ls rfl (os rfl (os rfl (os rfl (os rfl (os rfl oz))))))))), lg (ls rfl (ls rfl (ls rfl (ls rfl (os rfl (os rfl (os rfl (os rfl (os rfl (os rfl oz)))))))))), trivial⟩ ?_
    refine aw_block ?_
    refine aw_loop (fun n e st => ∃ (i : Nat), Holds e [(22, sl kL none none l), (23, pl (.int .i64 (l.length : Int))), (24, pl (.int .i64 (i : Int))), (5, sl (kI .u8) none none (vb d ++ (vb l.length ++ (l.take i).flatMap lnB)))] ∧ st = s.ext [⟨57, [pl (.int .u64 (d : Int)), sl kL none none l]⟩] [] ∧ n + i = l.length) (l.length) (⟨0, ⟨le_of_eq (eg (os rfl (os rfl oz))), le_of_eq (eg (os rfl oz)), le_of_eq (eg oz), (le_of_eq (eg (os rfl (os rfl (os rfl oz))))).trans (sl_to rfl (by simp)), trivial⟩, rfl, by omega⟩) ?_
    rintro n e st ⟨i, hH, rfl, hn0⟩
    refine aw_keep _ hH ?_
    refine aw_cut (s.boxes.length + 1) (s.fr.length + 0) (by rw [ext_boxes_length]; exact Nat.le_refl _) (by rw [ext_fr_length]; exact Nat.le_refl _) ?_
    refine aw_seq ?_
    refine aw_region (by decide) ?_
    refine rts _ rfl (opD_lss (os rfl (os rfl oz)) (os rfl oz)) ?_
    refine .nil ?_
    refine aw_keep [(25, _), (22, _), (23, _), (24, _), (5, _)] ⟨lg lz, lg (ls rfl oz), lg (ls rfl (os rfl oz)), lg (ls rfl (os rfl (os rfl oz))), lg (ls rfl (os rfl (os rfl (os rfl oz)))), trivial⟩ ?_
    refine aw_seq ?_
    refine aw_cond _ oz (fun hc => ?_) (fun hc => ?_)
    · skip
      have hlt : i < l.length := by have := of_decide_eq_true hc; omega
      obtain ⟨x, hxi, hxo⟩ := ln_at hx hlt
      have hxo' := hxo
      obtain ⟨q1, q2, q3, q4, q5⟩ := hxo'
      have hmx := (hok.2.2.2 i x hxi).1
      have hmx' := hmx
      simp only [mayB, Bool.and_eq_true, decide_eq_true_eq] at hmx'
      have a1 := vb_len10 (n := x.who) (by omega)
      have a2 := vb_len10 (n := x.code) (by omega)
      have a3 := vb_len10 (n := x.key.size) (by omega)
      have a4 := vb_len10 (n := d) (by omega)
      have a5 := vb_len10 (n := l.length) (by have := hok.2.1; omega)
      have a7 := hok.2.1
      have a6 : ((l.take i).flatMap lnB).length ≤ 71 * 32 := Nat.le_trans (enc_len (fun y hy => hx y (List.mem_of_mem_take hy)) (fun y hy => ok_may hok y (List.mem_of_mem_take hy))) (by rw [List.length_take]; omega)
      have htk := enc_take hxi
      refine aw_skip ?_
      refine aw_keep [(25, _), (22, _), (23, _), (24, _), (5, _)] ⟨lg oz, lg (os rfl oz), lg (os rfl (os rfl oz)), lg (os rfl (os rfl (os rfl oz))), lg (os rfl (os rfl (os rfl (os rfl oz)))), trivial⟩ ?_
      refine aw_seq ?_
      refine aw_block ?_
      refine aw_seq ?_
      refine aw_region (by decide) ?_
      refine rts _ rfl (opD_indexAddr_sl Go.Proofs.Tryd.underlying55 sz63 (os rfl oz) (os rfl (os rfl (os rfl oz))) (by first | rfl | simp | omega) (by first | assumption | omega)) ?_
      refine rts _ rfl ((by first | exact opD_load_aggX (qs := [_, _, _, _, _]) ag63 sz63 lz (by first | exact loc_get rfl | exact old_get (by assumption)) (by simp) rfl | exact opD_load_el_aggX (qs := [_, _, _, _, _]) ag63 sz63 lz (by first | assumption | simp) (by decide) rfl)) ?_
      refine rts _ rfl (opD_allocX zt63 (by first | exact List.length_nil | (simp only [List.length_cons, List.length_nil, Nat.zero_add, Nat.reduceAdd]; rfl)) (by simp only [List.nil_append, List.cons_append, List.map_cons, List.map_nil, List.set_cons_zero, List.set_cons_succ, List.take_succ_cons, List.take_zero, List.drop_succ_cons, List.drop_zero]; rfl)) ?_
      refine rts _ rfl (opD_storeA sz63 lz (ls rfl lz) (by repeat (first | exact ones_nil | refine ones_cons (by first | exact one_pl rfl | exact one_sl _ _ _ _ | exact one_ptr _ _) ?_)) rfl rfl (Nat.le_of_ble_eq_true rfl) (List.cons_ne_nil _ _) (by repeat (first | exact bnd_nil | refine bnd_cons (by first | exact pl_bnd _ _ _ | exact sl_bnd (kL_bnd _ _ _) | exact sl_bnd (kI_bnd _ _ _ _) | exact ptr_bnd _ (by omega) | exact any_bnd _ _ | exact sl_own_bnd (kL_bnd _ _ _) (by omega) | exact sl_own_bnd (kL_bnd _ _ _) (by simp only [List.length_append, List.length_cons, List.length_nil]; omega)) ?_)) (by simp only [List.nil_append, List.cons_append, List.map_cons, List.map_nil, List.set_cons_zero, List.set_cons_succ, List.take_succ_cons, List.take_zero, List.drop_succ_cons, List.drop_zero]; rfl) (by simp only [List.nil_append, List.cons_append, List.map_cons, List.map_nil, List.set_cons_zero, List.set_cons_succ, List.take_succ_cons, List.take_zero, List.drop_succ_cons, List.drop_zero]; rfl)) ?_
      refine .nil ?_
      refine aw_keep [(7, _), (25, _), (22, _), (23, _), (24, _), (5, _)] ⟨lg (lx lz), lg (lx (ls rfl (ls rfl (ls rfl oz)))), lg (lx (ls rfl (ls rfl (ls rfl (os rfl oz))))), lg (lx (ls rfl (ls rfl (ls rfl (os rfl (os rfl oz)))))), lg (lx (ls rfl (ls rfl (ls rfl (os rfl (os rfl (os rfl oz))))))), lg (lx (ls rfl (ls rfl (ls rfl (os rfl (os rfl (os rfl (os rfl oz)))))))), trivial⟩ ?_
      refine aw_seq ?_
      refine aw_flat mixed (by decide +kernel) ?_
      refine zts _ rfl (opD_move (os rfl (os rfl (os rfl (os rfl (os rfl oz)))))) ?_
      refine zts _ rfl ((by first | exact opD_fieldAddr fo63_1 (ls rfl oz) | exact opD_fieldAddr_el fo63_1 (ls rfl oz))) ?_
      refine zts _ rfl ((by first | exact opD_load_one ag22 lz (by first | exact loc_get rfl | exact old_get (by assumption)) rfl | exact opD_load_el_one ag22 lz (by first | assumption | simp) rfl)) ?_
      refine zts _ rfl (opD_pure ht21 (own1_pure (pk_num (n := x.who) (by simp only [List.length_append, List.length_nil, List.length_cons, bytesOf_length]; omega) q2) (kI_bnd _ _ _ _)) ⟨le_sl (ls rfl (ls rfl lz)), le_of_eq lz, trivial⟩) ?_
      refine zts _ rfl ((by first | exact opD_fieldAddr fo63_2 (ls rfl (ls rfl (ls rfl (ls rfl oz)))) | exact opD_fieldAddr_el fo63_2 (ls rfl (ls rfl (ls rfl (ls rfl oz)))))) ?_
      refine zts _ rfl ((by first | exact opD_load_one ag5 lz (by first | exact loc_get rfl | exact old_get (by assumption)) rfl | exact opD_load_el_one ag5 lz (by first | assumption | simp) rfl)) ?_
      refine zts _ rfl (opD_pure ht19 (own1_pure (pk_byte (by simp only [List.length_append, List.length_nil, List.length_cons, bytesOf_length]; omega)) (kI_bnd _ _ _ _)) ⟨le_sl (ls rfl (ls rfl lz)), le_of_eq lz, trivial⟩) ?_
      refine zts _ rfl (opD_assign lz) ?_
      refine .nil ?_
      refine aw_keep [(5, _), (7, _), (25, _), (22, _), (23, _), (24, _)] ⟨lg lz, lg (ls rfl (ls rfl (ls rfl (ls rfl (ls rfl (ls rfl (ls rfl (ls rfl oz)))))))), lg (ls rfl (ls rfl (ls rfl (ls rfl (ls rfl (ls rfl (ls rfl (ls rfl (os rfl oz))))))))), lg (ls rfl (ls rfl (ls rfl (ls rfl (ls rfl (ls rfl (ls rfl (ls rfl (os rfl (os rfl oz)))))))))), lg (ls rfl (ls rfl (ls rfl (ls rfl (ls rfl (ls rfl (ls rfl (ls rfl (os rfl (os rfl (os rfl oz))))))))))), lg (ls rfl (ls rfl (ls rfl (ls rfl (ls rfl (ls rfl (ls rfl (ls rfl (os rfl (os rfl (os rfl (os rfl oz)))))))))))), trivial⟩ ?_
      refine aw_flat mixed (by decide +kernel) ?_
      refine zts _ rfl (opD_move oz) ?_
      refine zts _ rfl ((by first | exact opD_fieldAddr fo63_3 (ls rfl (os rfl oz)) | exact opD_fieldAddr_el fo63_3 (ls rfl (os rfl oz)))) ?_
      refine zts _ rfl ((by first | exact opD_load_one ag58 lz (by first | exact loc_get rfl | exact old_get (by assumption)) rfl | exact opD_load_el_one ag58 lz (by first | assumption | simp) rfl)) ?_
      refine zts _ rfl (opD_conv_int Go.Proofs.Tryd.underlying58 Go.Proofs.Tryd.underlying22 lz (by first | exact IntWalk.u64_in _ (by omega) | exact rfl)) ?_
      refine zts _ rfl (opD_pure ht21 (own1_pure (pk_num (n := x.code) (by simp only [List.length_append, List.length_nil, List.length_cons, bytesOf_length]; omega) (by omega)) (kI_bnd _ _ _ _)) ⟨le_sl (ls rfl (ls rfl (ls rfl lz))), le_of_eq lz, trivial⟩) ?_
      refine zts _ rfl ((by first | exact opD_fieldAddr fo63_4 (ls rfl (ls rfl (ls rfl (ls rfl (ls rfl (os rfl oz)))))) | exact opD_fieldAddr_el fo63_4 (ls rfl (ls rfl (ls rfl (ls rfl (ls rfl (os rfl oz)))))))) ?_
      refine zts _ rfl ((by first | exact opD_load_one ag9 lz (by first | exact loc_get rfl | exact old_get (by assumption)) rfl | exact opD_load_el_one ag9 lz (by first | assumption | simp) rfl)) ?_
      refine zts _ rfl (opD_str_bytes Go.Proofs.Tryd.underlying9 Go.Proofs.Tryd.underlying23 Go.Proofs.Tryd.underlying5 lz) ?_
      refine zts _ rfl (opD_pure ht20 (own1_pure (pk_bytes (by simp only [List.length_append, List.length_nil, List.length_cons, bytesOf_length]; omega)) (kI_bnd _ _ _ _)) ⟨le_sl (ls rfl (ls rfl (ls rfl lz))), le_sl lz, trivial⟩) ?_
      refine zts _ rfl (opD_assign lz) ?_
      refine .nil ?_
      refine aw_keep [(5, _), (7, _), (25, _), (22, _), (23, _), (24, _)] ⟨lg lz, lg (ls rfl (ls rfl (ls rfl (ls rfl (ls rfl (ls rfl (ls rfl (ls rfl (ls rfl (ls rfl (os rfl oz))))))))))), lg (ls rfl (ls rfl (ls rfl (ls rfl (ls rfl (ls rfl (ls rfl (ls rfl (ls rfl (ls rfl (os rfl (os rfl oz)))))))))))), lg (ls rfl (ls rfl (ls rfl (ls rfl (ls rfl (ls rfl (ls rfl (ls rfl (ls rfl (ls rfl (os rfl (os rfl (os rfl oz))))))))))))), lg (ls rfl (ls rfl (ls rfl (ls rfl (ls rfl (ls rfl (ls rfl (ls rfl (ls rfl (ls rfl (os rfl (os rfl (os rfl (os rfl oz)))))))))))))), lg (ls rfl (ls rfl (ls rfl (ls rfl (ls rfl (ls rfl (ls rfl (ls rfl (ls rfl (ls rfl (os rfl (os rfl (os rfl (os rfl (os rfl oz))))))))))))))), trivial⟩ ?_
      refine aw_region (by decide) ?_
      refine rts _ rfl (opD_add (os rfl (os rfl (os rfl (os rfl (os rfl oz))))) (ev_const _ _) (by first | exact IntWalk.i64_in _ (by omega) | exact rfl)) ?_
      refine rts _ rfl (opD_move lz) ?_
      refine .nil ?_
      refine cut_yes (l := [(22, _), (23, _), (24, _), (5, _)]) ⟨lg (ls rfl (ls rfl (os rfl (os rfl (os rfl oz))))), lg (ls rfl (ls rfl (os rfl (os rfl (os rfl (os rfl oz)))))), lg lz, lg (ls rfl (ls rfl oz)), trivial⟩ (by repeat (first | exact bnd_nil | refine bnd_cons (by first | exact pl_bnd _ _ _ | exact sl_bnd (kL_bnd _ _ _) | exact sl_bnd (kI_bnd _ _ _ _) | exact ptr_bnd _ (by omega) | exact any_bnd _ _ | exact sl_own_bnd (kL_bnd _ _ _) (by omega) | exact sl_own_bnd (kL_bnd _ _ _) (by simp only [List.length_append, List.length_cons, List.length_nil]; omega)) ?_)) (Nat.le_of_ble_eq_true rfl) (Nat.le_of_ble_eq_true rfl) (by simp only [List.nil_append, List.cons_append, List.map_cons, List.map_nil, List.set_cons_zero, List.set_cons_succ, List.take_succ_cons, List.take_zero, List.drop_succ_cons, List.drop_zero]; rfl) (by simp only [List.nil_append, List.cons_append, List.map_cons, List.map_nil, List.set_cons_zero, List.set_cons_succ, List.take_succ_cons, List.take_zero, List.drop_succ_cons, List.drop_zero]; rfl) (by repeat (first | exact bl_nil | refine bl_cons (by repeat (first | exact bnd_nil | refine bnd_cons (by first | exact pl_bnd _ _ _ | exact sl_bnd (kL_bnd _ _ _) | exact sl_bnd (kI_bnd _ _ _ _) | exact ptr_bnd _ (by omega) | exact any_bnd _ _ | exact sl_own_bnd (kL_bnd _ _ _) (by omega) | exact sl_own_bnd (kL_bnd _ _ _) (by simp only [List.length_append, List.length_cons, List.length_nil]; omega)) ?_)) ?_)) ?_
      refine ⟨n - 1, by omega, i + 1, ?_, rfl, by omega⟩
      rw [htk]
      refine ⟨le_of_eq (eg oz), le_of_eq (eg (os rfl oz)), le_of_eq (eg (os rfl (os rfl oz))), (le_of_eq (eg (os rfl (os rfl (os rfl oz))))).trans (sl_to rfl (by simp [lnB, bytesOf_length])), trivial⟩
    · skip
      have hfin : (vb d ++ (vb l.length ++ (l.take i).flatMap lnB)) = encE d l := by rw [encE_t hok, List.take_of_length_le (by have := of_decide_eq_false hc; omega)]; rfl
      refine aw_exit ?_
      refine cut_no ?_
      refine aw_keep [(25, _), (22, _), (23, _), (24, _), (5, _)] ⟨lg oz, lg (os rfl oz), lg (os rfl (os rfl oz)), lg (os rfl (os rfl (os rfl oz))), lg (os rfl (os rfl (os rfl (os rfl oz)))), trivial⟩ ?_
      refine aw_seq ?_
      refine aw_region (by decide) ?_
      refine rts _ rfl (opD_move (os rfl (os rfl (os rfl (os rfl oz))))) ?_
      refine rts _ rfl (opD_assign lz) ?_
      refine rts _ rfl (opD_assign (ev_const _ _)) ?_
      refine .nil ?_
      refine aw_keep [(3, _), (2, _), (25, _), (22, _), (23, _), (24, _), (5, _)] ⟨lg lz, lg (ls rfl lz), lg (ls rfl (ls rfl (ls rfl oz))), lg (ls rfl (ls rfl (ls rfl (os rfl oz)))), lg (ls rfl (ls rfl (ls rfl (os rfl (os rfl oz))))), lg (ls rfl (ls rfl (ls rfl (os rfl (os rfl (os rfl oz)))))), lg (ls rfl (ls rfl (ls rfl (os rfl (os rfl (os rfl (os rfl oz))))))), trivial⟩ ?_
      refine aw_ret ?_
      first | exact done_ext (.inr rfl) ((res_2 rfl (eg (os rfl oz)) (eg oz)).le (tup_le ⟨(le_nil rfl).trans (le_of_eq (by rw [encE_f hn])), Pd.le_refl _, trivial⟩)) (tup_bnd (bnd_cons (sl_bnd (kI_bnd _ _ _ _)) (bnd_cons (pl_bnd _ _ _) bnd_nil))) | exact done_ext (.inr rfl) ((res_2 rfl (eg (os rfl oz)) (eg oz)).le (tup_le ⟨(le_sl rfl).trans (le_of_eq (by rw [hfin])), le_of_eq (by rw [lgE_t hok]; rfl), trivial⟩)) (tup_bnd (bnd_cons (sl_bnd (kI_bnd _ _ _ _)) (bnd_cons (pl_bnd _ _ _) bnd_nil)))

set_option maxRecDepth 100000 in
set_option maxHeartbeats 1000000 in
theorem lg_Encode {d : Nat} {l : List Ln} (hd : d < 18446744073709551616) (hl : l.length ≤ 1000000) (hx : ∀ x ∈ l, LnOk x) : Pure Go.Proofs.Tryd.prog 44 [lgP d l] (tup [sl (kI .u8) none none (encE d l), pl (.int .i64 (errN d l))]) := by
  intro s
  unfold lgP
  refine ac_of_aw s.boxes.length s.fr.length Go.Proofs.Tryd.func44 rfl (by simp [Go.Proofs.Tryd.ntmps44]) ?_
  refine aw_ext0 ?_
  refine aw_keep [(0, _)] ⟨lg ez, trivial⟩ ?_
  refine aw_seq ?_
  refine aw_region (by decide) ?_
  refine rts _ rfl (opD_boxA oz (by repeat (first | exact bnd_nil | refine bnd_cons (by first | exact pl_bnd _ _ _ | exact sl_bnd (kL_bnd _ _ _) | exact sl_bnd (kI_bnd _ _ _ _) | exact ptr_bnd _ (by omega) | exact any_bnd _ _ | exact sl_own_bnd (kL_bnd _ _ _) (by omega) | exact sl_own_bnd (kL_bnd _ _ _) (by simp only [List.length_append, List.length_cons, List.length_nil]; omega)) ?_)) (by first | exact List.length_nil | (simp only [List.length_cons, List.length_nil, Nat.zero_add, Nat.reduceAdd]; rfl)) (by simp only [List.nil_append, List.cons_append, List.map_cons, List.map_nil, List.set_cons_zero, List.set_cons_succ, List.take_succ_cons, List.take_zero, List.drop_succ_cons, List.drop_zero]; rfl)) ?_
  refine rts _ rfl (opD_assign (ev_const _ _)) ?_
  refine rts _ rfl (opD_assign (ev_const _ _)) ?_
  refine .nil ?_
  refine aw_keep [(3, _), (2, _), (1, _), (0, _)] ⟨lg lz, lg (ls rfl lz), lg (ls rfl (ls rfl lz)), lg (ls rfl (ls rfl (ls rfl oz))), trivial⟩ ?_
  refine aw_seq ?_
  refine aw_seq ?_
  refine aw_region (by decide) ?_
  refine rts _ rfl ((by first | exact opD_load_aggX (qs := [_, _]) ag70 sz70 (os rfl (os rfl oz)) (by first | exact loc_get rfl | exact old_get (by assumption)) (by simp) rfl | exact opD_load_el_aggX (qs := [_, _]) ag70 sz70 (os rfl (os rfl oz)) (by first | assumption | simp) (by decide) rfl)) ?_
  refine rts _ rfl (opD_pure ht48 (lg_May hd (by omega) hx) ⟨le_of_eq lz, trivial⟩) ?_
  refine rts _ rfl (opD_not lz) ?_
  refine .nil ?_
  refine aw_keep [(9, _), (3, _), (2, _), (1, _), (0, _)] ⟨lg lz, lg (ls rfl (ls rfl (ls rfl oz))), lg (ls rfl (ls rfl (ls rfl (os rfl oz)))), lg (ls rfl (ls rfl (ls rfl (os rfl (os rfl oz))))), lg (ls rfl (ls rfl (ls rfl (os rfl (os rfl (os rfl oz)))))), trivial⟩ ?_
  refine aw_cond _ oz (fun hc => ?_) (fun hc => ?_)
  · skip
    have hn := not_ok hc
    refine aw_seq ?_
    refine aw_region (by decide) ?_
    refine rts _ rfl (opD_assign (ev_const _ _)) ?_
    refine rts _ rfl (opD_assign (ev_const _ _)) ?_
    refine .nil ?_
    refine aw_keep [(3, _), (2, _), (9, _), (1, _), (0, _)] ⟨lg lz, lg (ls rfl lz), lg (ls rfl (ls rfl oz)), lg (ls rfl (ls rfl (os rfl (os rfl (os rfl oz))))), lg (ls rfl (ls rfl (os rfl (os rfl (os rfl (os rfl oz)))))), trivial⟩ ?_
    refine aw_ret ?_
    first | exact done_ext (.inr rfl) ((res_2 rfl (eg (os rfl oz)) (eg oz)).le (tup_le ⟨(le_nil rfl).trans (le_of_eq (by rw [encE_f hn])), le_of_eq (by rw [errN_f hn]), trivial⟩)) (tup_bnd (bnd_cons (sl_bnd (kI_bnd _ _ _ _)) (bnd_cons (pl_bnd _ _ _) bnd_nil))) | exact done_ext (.inr rfl) ((res_2 rfl (eg (os rfl oz)) (eg oz)).le (tup_le ⟨(le_sl rfl).trans (le_of_eq (by rw [hfin])), le_of_eq (by rw [errN_t hok]), trivial⟩)) (tup_bnd (bnd_cons (sl_bnd (kI_bnd _ _ _ _)) (bnd_cons (pl_bnd _ _ _) bnd_nil)))
  · skip
    have hok := is_ok hc
    have a4 := vb_len10 (n := d) (by omega)
    refine aw_skip ?_
    refine aw_keep [(9, _), (3, _), (2, _), (1, _), (0, _)] ⟨lg oz, lg (os rfl oz), lg (os rfl (os rfl oz)), lg (os rfl (os rfl (os rfl oz))), lg (os rfl (os rfl (os rfl (os rfl oz)))), trivial⟩ ?_
    refine aw_seq ?_
    refine aw_flat mixed (by decide +kernel) ?_
    refine zts _ rfl ((by first | exact opD_fieldAddr fo70_0 (os rfl (os rfl (os rfl oz))) | exact opD_fieldAddr_el fo70_0 (os rfl (os rfl (os rfl oz))))) ?_
    refine zts _ rfl ((by first | exact opD_load_one ag22 lz (by first | exact loc_get rfl | exact old_get (by assumption)) rfl | exact opD_load_el_one ag22 lz (by first | assumption | simp) rfl)) ?_
    refine zts _ rfl (opD_pure ht29 (own1_pure (rput (l := []) (n0 := d) (by decide) hd) (kI_bnd _ _ _ _)) ⟨le_nil (ev_const _ _), le_of_eq lz, trivial⟩) ?_
    refine zts _ rfl ((by first | exact opD_fieldAddr fo70_1 (ls rfl (ls rfl (ls rfl (os rfl (os rfl (os rfl oz)))))) | exact opD_fieldAddr_el fo70_1 (ls rfl (ls rfl (ls rfl (os rfl (os rfl (os rfl oz)))))))) ?_
    refine zts _ rfl ((by first | exact opD_load_one ag54 lz (by first | exact loc_get rfl | exact old_get (by assumption)) rfl | exact opD_load_el_one ag54 lz (by first | assumption | simp) rfl)) ?_
    refine zts _ rfl (opD_len_sl Go.Proofs.Tryd.underlying54 lz) ?_
    refine zts _ rfl (opD_conv_int Go.Proofs.Tryd.underlying3 Go.Proofs.Tryd.underlying22 lz (by first | exact IntWalk.u64_in _ (by omega) | exact rfl)) ?_
    refine zts _ rfl (opD_pure ht29 (own1_pure (rput (n0 := l.length) (by simp only [List.length_append, List.length_nil, List.length_cons, bytesOf_length]; omega) (by omega)) (kI_bnd _ _ _ _)) ⟨le_sl (ls rfl (ls rfl (ls rfl (ls rfl lz)))), le_of_eq lz, trivial⟩) ?_
    refine zts _ rfl (opD_assign lz) ?_
    refine .nil ?_
    refine aw_keep [(4, _), (9, _), (3, _), (2, _), (1, _), (0, _)] ⟨lg lz, lg (ls rfl (ls rfl (ls rfl (ls rfl (ls rfl (ls rfl (ls rfl (ls rfl (ls rfl oz))))))))), lg (ls rfl (ls rfl (ls rfl (ls rfl (ls rfl (ls rfl (ls rfl (ls rfl (ls rfl (os rfl oz)))))))))), lg (ls rfl (ls rfl (ls rfl (ls rfl (ls rfl (ls rfl (ls rfl (ls rfl (ls rfl (os rfl (os rfl oz))))))))))), lg (ls rfl (ls rfl (ls rfl (ls rfl (ls rfl (ls rfl (ls rfl (ls rfl (ls rfl (os rfl (os rfl (os rfl oz)))))))))))), lg (ls rfl (ls rfl (ls rfl (ls rfl (ls rfl (ls rfl (ls rfl (ls rfl (ls rfl (os rfl (os rfl (os rfl (os rfl oz))))))))))))), trivial⟩ ?_
    refine aw_seq ?_
    refine aw_seq ?_
    refine aw_region (by decide) ?_
    refine rts _ rfl (opD_assign (ev_const _ _)) ?_
    refine .nil ?_
    refine aw_keep [(5, _), (4, _), (9, _), (3, _), (2, _), (1, _), (0, _)] ⟨lg lz, lg (ls rfl oz), lg (ls rfl (os rfl oz)), lg (ls rfl (os rfl (os rfl oz))), lg (ls rfl (os rfl (os rfl (os rfl oz)))), lg (ls rfl (os rfl (os rfl (os rfl (os rfl oz))))), lg (ls rfl (os rfl (os rfl (os rfl (os rfl (os rfl oz)))))), trivial⟩ ?_
    refine aw_block ?_
    refine aw_loop (fun n e st => ∃ (i : Nat), Holds e [(1, ptr (s.boxes.length + 0) 0), (5, pl (.int .i64 (i : Int))), (4, sl (kI .u8) none none (vb d ++ (vb l.length ++ (l.take i).flatMap lnB)))] ∧ st = s.ext [⟨70, [pl (.int .u64 (d : Int)), sl kL none none l]⟩] [] ∧ n + i = l.length) (l.length) (⟨0, ⟨le_of_eq (eg (os rfl (os rfl (os rfl (os rfl (os rfl oz)))))), le_of_eq (eg oz), (le_of_eq (eg (os rfl oz))).trans (sl_to rfl (by simp)), trivial⟩, rfl, by omega⟩) ?_
    rintro n e st ⟨i, hH, rfl, hn0⟩
    refine aw_keep _ hH ?_
    refine aw_cut (s.boxes.length + 1) (s.fr.length + 0) (by rw [ext_boxes_length]; exact Nat.le_refl _) (by rw [ext_fr_length]; exact Nat.le_refl _) ?_
    refine aw_seq ?_
    refine aw_seq ?_
    refine aw_region (by decide) ?_
    refine rts _ rfl (opD_move (os rfl oz)) ?_
    refine rts _ rfl ((by first | exact opD_fieldAddr fo70_1 (ls rfl oz) | exact opD_fieldAddr_el fo70_1 (ls rfl oz))) ?_
    refine rts _ rfl ((by first | exact opD_load_one ag54 lz (by first | exact loc_get rfl | exact old_get (by assumption)) rfl | exact opD_load_el_one ag54 lz (by first | assumption | simp) rfl)) ?_
    refine rts _ rfl (opD_len_sl Go.Proofs.Tryd.underlying54 lz) ?_
    refine rts _ rfl (opD_lss (ls rfl (ls rfl (ls rfl lz))) lz) ?_
    refine .nil ?_
    refine aw_keep [(22, _), (1, _), (5, _), (4, _)] ⟨lg lz, lg (ls rfl (ls rfl (ls rfl (ls rfl (ls rfl oz))))), lg (ls rfl (ls rfl (ls rfl (ls rfl (ls rfl (os rfl oz)))))), lg (ls rfl (ls rfl (ls rfl (ls rfl (ls rfl (os rfl (os rfl oz))))))), trivial⟩ ?_
    refine aw_cond _ oz (fun hc => ?_) (fun hc => ?_)
    · skip
      have hlt : i < l.length := by have := of_decide_eq_true hc; omega
      obtain ⟨x, hxi, hxo⟩ := ln_at hx hlt
      have hxo' := hxo
      obtain ⟨q1, q2, q3, q4, q5⟩ := hxo'
      have hmx := (hok.2.2.2 i x hxi).1
      have hmx' := hmx
      simp only [mayB, Bool.and_eq_true, decide_eq_true_eq] at hmx'
      have a1 := vb_len10 (n := x.who) (by omega)
      have a2 := vb_len10 (n := x.code) (by omega)
      have a3 := vb_len10 (n := x.key.size) (by omega)
      have a4 := vb_len10 (n := d) (by omega)
      have a5 := vb_len10 (n := l.length) (by have := hok.2.1; omega)
      have a7 := hok.2.1
      have a6 : ((l.take i).flatMap lnB).length ≤ 71 * 32 := Nat.le_trans (enc_len (fun y hy => hx y (List.mem_of_mem_take hy)) (fun y hy => ok_may hok y (List.mem_of_mem_take hy))) (by rw [List.length_take]; omega)
      have htk := enc_take hxi
      refine aw_skip ?_
      refine aw_keep [(22, _), (1, _), (5, _), (4, _)] ⟨lg oz, lg (os rfl oz), lg (os rfl (os rfl oz)), lg (os rfl (os rfl (os rfl oz))), trivial⟩ ?_
      refine aw_seq ?_
      refine aw_block ?_
      refine aw_seq ?_
      refine aw_region (by decide) ?_
      refine rts _ rfl ((by first | exact opD_fieldAddr fo70_1 (os rfl oz) | exact opD_fieldAddr_el fo70_1 (os rfl oz))) ?_
      refine rts _ rfl ((by first | exact opD_load_one ag54 lz (by first | exact loc_get rfl | exact old_get (by assumption)) rfl | exact opD_load_el_one ag54 lz (by first | assumption | simp) rfl)) ?_
      refine rts _ rfl (opD_move (ls rfl (ls rfl (os rfl (os rfl oz))))) ?_
      refine rts _ rfl (opD_indexAddr_sl Go.Proofs.Tryd.underlying54 sz60 (ls rfl lz) lz (by first | rfl | simp | omega) (by first | assumption | omega)) ?_
      refine rts _ rfl ((by first | exact opD_load_aggX (qs := [_, _, _, _, _]) ag60 sz60 lz (by first | exact loc_get rfl | exact old_get (by assumption)) (by simp) rfl | exact opD_load_el_aggX (qs := [_, _, _, _, _]) ag60 sz60 lz (by first | assumption | simp) (by decide) rfl)) ?_
      refine rts _ rfl (opD_allocX zt60 (by first | exact List.length_nil | (simp only [List.length_cons, List.length_nil, Nat.zero_add, Nat.reduceAdd]; rfl)) (by simp only [List.nil_append, List.cons_append, List.map_cons, List.map_nil, List.set_cons_zero, List.set_cons_succ, List.take_succ_cons, List.take_zero, List.drop_succ_cons, List.drop_zero]; rfl)) ?_
      refine rts _ rfl (opD_storeA sz60 lz (ls rfl lz) (by repeat (first | exact ones_nil | refine ones_cons (by first | exact one_pl rfl | exact one_sl _ _ _ _ | exact one_ptr _ _) ?_)) rfl rfl (Nat.le_of_ble_eq_true rfl) (List.cons_ne_nil _ _) (by repeat (first | exact bnd_nil | refine bnd_cons (by first | exact pl_bnd _ _ _ | exact sl_bnd (kL_bnd _ _ _) | exact sl_bnd (kI_bnd _ _ _ _) | exact ptr_bnd _ (by omega) | exact any_bnd _ _ | exact sl_own_bnd (kL_bnd _ _ _) (by omega) | exact sl_own_bnd (kL_bnd _ _ _) (by simp only [List.length_append, List.length_cons, List.length_nil]; omega)) ?_)) (by simp only [List.nil_append, List.cons_append, List.map_cons, List.map_nil, List.set_cons_zero, List.set_cons_succ, List.take_succ_cons, List.take_zero, List.drop_succ_cons, List.drop_zero]; rfl) (by simp only [List.nil_append, List.cons_append, List.map_cons, List.map_nil, List.set_cons_zero, List.set_cons_succ, List.take_succ_cons, List.take_zero, List.drop_succ_cons, List.drop_zero]; rfl)) ?_
      refine .nil ?_
      refine aw_keep [(6, _), (22, _), (1, _), (5, _), (4, _)] ⟨lg (lx lz), lg (lx (ls rfl (ls rfl (ls rfl (ls rfl (ls rfl (ls rfl oz))))))), lg (lx (ls rfl (ls rfl (ls rfl (ls rfl (ls rfl (ls rfl (os rfl oz)))))))), lg (lx (ls rfl (ls rfl (ls rfl (ls rfl (ls rfl (ls rfl (os rfl (os rfl oz))))))))), lg (lx (ls rfl (ls rfl (ls rfl (ls rfl (ls rfl (ls rfl (os rfl (os rfl (os rfl oz)))))))))), trivial⟩ ?_
      refine aw_seq ?_
      refine aw_drawn [false, false, false, true, false, false, false, true, false] [[0], [0], [0], [0, 1], [0, 1], [0, 1], [0, 1], [1, 2], [2]] mixed (by decide +kernel) ?_
      refine dtp _ rfl (fun s => opD_move (os rfl (os rfl (os rfl (os rfl oz))))) ?_
      refine dtp _ rfl (fun s => (by first | exact opD_fieldAddr fo60_1 (ls rfl oz) | exact opD_fieldAddr_el fo60_1 (ls rfl oz))) ?_
      refine dtl1 ag22 lz rfl rfl rfl ?_
      refine dta _ rfl (opD_own1 ht29 (rput (n0 := x.who) (by simp only [List.length_append, List.length_nil, List.length_cons, bytesOf_length]; omega) q2) ⟨le_sl (ls rfl (ls rfl lz)), le_of_eq lz, trivial⟩ (by first | exact List.length_nil | (simp only [List.length_cons, List.length_nil, Nat.zero_add, Nat.reduceAdd]; rfl)) (by simp only [List.nil_append, List.cons_append, List.map_cons, List.map_nil, List.set_cons_zero, List.set_cons_succ, List.take_succ_cons, List.take_zero, List.drop_succ_cons, List.drop_zero]; rfl)) ?_
      refine dtp _ rfl (fun s => (by first | exact opD_fieldAddr fo60_2 (ls rfl (ls rfl (ls rfl (ls rfl oz)))) | exact opD_fieldAddr_el fo60_2 (ls rfl (ls rfl (ls rfl (ls rfl oz)))))) ?_
      refine dtl1 ag5 lz rfl rfl rfl ?_
      refine dtp _ rfl (fun s => opD_buildSlice (k := kI .u8) [_] Go.Proofs.Tryd.underlying23 sz5 zt5 (by decide) rfl (parts_cons (cells1 lz (by first | exact one_pl rfl | exact one_sl _ _ _ _ | exact one_ptr _ _ | exact one_ifc _ _)) parts_nil) rfl rfl) ?_
      refine dta _ rfl ((by first | exact opD_appendX Go.Proofs.Tryd.underlying23 el5 (ls rfl (ls rfl (ls rfl lz))) lz rfl (by simp only [List.length_append, List.length_nil, List.length_cons, bytesOf_length]; omega) (by simp only [List.length_append, List.length_nil, List.length_cons, bytesOf_length]; omega) (by first | (with_reducible exact List.nil_append _) | exact rfl) (by simp only [List.nil_append, List.cons_append, List.map_cons, List.map_nil, List.set_cons_zero, List.set_cons_succ, List.take_succ_cons, List.take_zero, List.drop_succ_cons, List.drop_zero]; rfl) | exact opD_appendN (k := kI .u8) Go.Proofs.Tryd.underlying23 el5 (ls rfl (ls rfl (ls rfl lz))) lz (by simp only [List.length_append, List.length_nil, List.length_cons, bytesOf_length]; omega) (by simp only [List.length_append, List.length_nil, List.length_cons, bytesOf_length]; omega) (by first | exact List.length_nil | (simp only [List.length_cons, List.length_nil, Nat.zero_add, Nat.reduceAdd]; rfl)) (by simp only [List.nil_append, List.cons_append, List.map_cons, List.map_nil, List.set_cons_zero, List.set_cons_succ, List.take_succ_cons, List.take_zero, List.drop_succ_cons, List.drop_zero]; rfl))) ?_
      refine dtp _ rfl (fun s => opD_assign lz) ?_
      refine .nil ⟨rfl, ⟨trivial, trivial, ⟨(by first | exact loc_get rfl | exact old_get (by assumption)), trivial⟩, trivial, trivial, ⟨(by first | exact loc_get rfl | exact old_get (by assumption)), (by first | exact loc_get rfl | exact old_get (by assumption)), trivial⟩, trivial, trivial, trivial, trivial⟩, ?_⟩
      refine aw_keep [(4, _), (6, _), (22, _), (1, _), (5, _)] ⟨lg lz, lg (ls rfl (ls rfl (ls rfl (ls rfl (ls rfl (ls rfl (ls rfl (ls rfl (ls rfl oz))))))))), lg (ls rfl (ls rfl (ls rfl (ls rfl (ls rfl (ls rfl (ls rfl (ls rfl (ls rfl (os rfl oz)))))))))), lg (ls rfl (ls rfl (ls rfl (ls rfl (ls rfl (ls rfl (ls rfl (ls rfl (ls rfl (os rfl (os rfl oz))))))))))), lg (ls rfl (ls rfl (ls rfl (ls rfl (ls rfl (ls rfl (ls rfl (ls rfl (ls rfl (os rfl (os rfl (os rfl oz)))))))))))), trivial⟩ ?_
      refine aw_flat mixed (by decide +kernel) ?_
      refine zts _ rfl (opD_move oz) ?_
      refine zts _ rfl ((by first | exact opD_fieldAddr fo60_3 (ls rfl (os rfl oz)) | exact opD_fieldAddr_el fo60_3 (ls rfl (os rfl oz)))) ?_
      refine zts _ rfl ((by first | exact opD_load_one ag58 lz (by first | exact loc_get rfl | exact old_get (by assumption)) rfl | exact opD_load_el_one ag58 lz (by first | assumption | simp) rfl)) ?_
      refine zts _ rfl (opD_conv_int Go.Proofs.Tryd.underlying58 Go.Proofs.Tryd.underlying22 lz (by first | exact IntWalk.u64_in _ (by omega) | exact rfl)) ?_
      refine zts _ rfl (opD_pure ht29 (own1_pure (rput (n0 := x.code) (by simp only [List.length_append, List.length_nil, List.length_cons, bytesOf_length]; omega) (by omega)) (kI_bnd _ _ _ _)) ⟨le_sl (ls rfl (ls rfl (ls rfl lz))), le_of_eq lz, trivial⟩) ?_
      refine zts _ rfl ((by first | exact opD_fieldAddr fo60_4 (ls rfl (ls rfl (ls rfl (ls rfl (ls rfl (os rfl oz)))))) | exact opD_fieldAddr_el fo60_4 (ls rfl (ls rfl (ls rfl (ls rfl (ls rfl (os rfl oz)))))))) ?_
      refine zts _ rfl ((by first | exact opD_load_one ag9 lz (by first | exact loc_get rfl | exact old_get (by assumption)) rfl | exact opD_load_el_one ag9 lz (by first | assumption | simp) rfl)) ?_
      refine zts _ rfl (opD_str_bytes Go.Proofs.Tryd.underlying9 Go.Proofs.Tryd.underlying23 Go.Proofs.Tryd.underlying5 lz) ?_
      refine zts _ rfl (opD_pure ht30 (own1_pure (rputs (by simp only [List.length_append, List.length_nil, List.length_cons, bytesOf_length]; omega)) (kI_bnd _ _ _ _)) ⟨le_sl (ls rfl (ls rfl (ls rfl lz))), le_sl lz, trivial⟩) ?_
      refine zts _ rfl (opD_assign lz) ?_
      refine .nil ?_
      refine aw_keep [(4, _), (6, _), (22, _), (1, _), (5, _)] ⟨lg lz, lg (ls rfl (ls rfl (ls rfl (ls rfl (ls rfl (ls rfl (ls rfl (ls rfl (ls rfl (ls rfl (os rfl oz))))))))))), lg (ls rfl (ls rfl (ls rfl (ls rfl (ls rfl (ls rfl (ls rfl (ls rfl (ls rfl (ls rfl (os rfl (os rfl oz)))))))))))), lg (ls rfl (ls rfl (ls rfl (ls rfl (ls rfl (ls rfl (ls rfl (ls rfl (ls rfl (ls rfl (os rfl (os rfl (os rfl oz))))))))))))), lg (ls rfl (ls rfl (ls rfl (ls rfl (ls rfl (ls rfl (ls rfl (ls rfl (ls rfl (ls rfl (os rfl (os rfl (os rfl (os rfl oz)))))))))))))), trivial⟩ ?_
      refine aw_region (by decide) ?_
      refine rts _ rfl (opD_move (os rfl (os rfl (os rfl (os rfl oz))))) ?_
      refine rts _ rfl (opD_add lz (ev_const _ _) (by first | exact IntWalk.i64_in _ (by omega) | exact rfl)) ?_
      refine rts _ rfl (opD_assign lz) ?_
      refine .nil ?_
      refine cut_yes (l := [(1, _), (5, _), (4, _)]) ⟨lg (ls rfl (ls rfl (ls rfl (os rfl (os rfl (os rfl oz)))))), lg lz, lg (ls rfl (ls rfl (ls rfl oz))), trivial⟩ (by repeat (first | exact bnd_nil | refine bnd_cons (by first | exact pl_bnd _ _ _ | exact sl_bnd (kL_bnd _ _ _) | exact sl_bnd (kI_bnd _ _ _ _) | exact ptr_bnd _ (by omega) | exact any_bnd _ _ | exact sl_own_bnd (kL_bnd _ _ _) (by omega) | exact sl_own_bnd (kL_bnd _ _ _) (by simp only [List.length_append, List.length_cons, List.length_nil]; omega)) ?_)) (Nat.le_of_ble_eq_true rfl) (Nat.le_of_ble_eq_true rfl) (by simp only [List.nil_append, List.cons_append, List.map_cons, List.map_nil, List.set_cons_zero, List.set_cons_succ, List.take_succ_cons, List.take_zero, List.drop_succ_cons, List.drop_zero]; rfl) (by simp only [List.nil_append, List.cons_append, List.map_cons, List.map_nil, List.set_cons_zero, List.set_cons_succ, List.take_succ_cons, List.take_zero, List.drop_succ_cons, List.drop_zero]; rfl) (by repeat (first | exact bl_nil | refine bl_cons (by repeat (first | exact bnd_nil | refine bnd_cons (by first | exact pl_bnd _ _ _ | exact sl_bnd (kL_bnd _ _ _) | exact sl_bnd (kI_bnd _ _ _ _) | exact ptr_bnd _ (by omega) | exact any_bnd _ _ | exact sl_own_bnd (kL_bnd _ _ _) (by omega) | exact sl_own_bnd (kL_bnd _ _ _) (by simp only [List.length_append, List.length_cons, List.length_nil]; omega)) ?_)) ?_)) ?_
      refine ⟨n - 1, by omega, i + 1, ?_, rfl, by omega⟩
      rw [htk]
      refine ⟨le_of_eq (eg oz), le_of_eq (eg (os rfl oz)), (le_of_eq (eg (os rfl (os rfl oz)))).trans (sl_to rfl (by simp [lnB, bytesOf_length])), trivial⟩
    · skip
      have hfin : (vb d ++ (vb l.length ++ (l.take i).flatMap lnB)) = encE d l := by rw [encE_t hok, List.take_of_length_le (by have := of_decide_eq_false hc; omega)]; rfl
      refine aw_exit ?_
      refine cut_no ?_
      refine aw_keep [(22, _), (1, _), (5, _), (4, _)] ⟨lg oz, lg (os rfl oz), lg (os rfl (os rfl oz)), lg (os rfl (os rfl (os rfl oz))), trivial⟩ ?_
      refine aw_seq ?_
      refine aw_region (by decide) ?_
      refine rts _ rfl (opD_move (os rfl (os rfl (os rfl oz)))) ?_
      refine rts _ rfl (opD_assign lz) ?_
      refine rts _ rfl (opD_assign (ev_const _ _)) ?_
      refine .nil ?_
      refine aw_keep [(3, _), (2, _), (22, _), (1, _), (5, _), (4, _)] ⟨lg lz, lg (ls rfl lz), lg (ls rfl (ls rfl (ls rfl oz))), lg (ls rfl (ls rfl (ls rfl (os rfl oz)))), lg (ls rfl (ls rfl (ls rfl (os rfl (os rfl oz))))), lg (ls rfl (ls rfl (ls rfl (os rfl (os rfl (os rfl oz)))))), trivial⟩ ?_
      refine aw_ret ?_
      first | exact done_ext (.inr rfl) ((res_2 rfl (eg (os rfl oz)) (eg oz)).le (tup_le ⟨(le_nil rfl).trans (le_of_eq (by rw [encE_f hn])), le_of_eq (by rw [errN_f hn]), trivial⟩)) (tup_bnd (bnd_cons (sl_bnd (kI_bnd _ _ _ _)) (bnd_cons (pl_bnd _ _ _) bnd_nil))) | exact done_ext (.inr rfl) ((res_2 rfl (eg (os rfl oz)) (eg oz)).le (tup_le ⟨(le_sl rfl).trans (le_of_eq (by rw [hfin])), le_of_eq (by rw [errN_t hok]), trivial⟩)) (tup_bnd (bnd_cons (sl_bnd (kI_bnd _ _ _ _)) (bnd_cons (pl_bnd _ _ _) bnd_nil)))
end Go.Proofs.YtmnhfpcbfdgbcaaDoor.Eng.Le

