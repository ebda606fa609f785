/- EW3: what functions do, walked; used by the laws of this seat. -/
import Derived.Test.YtokcgacehdgkcaaGreatDoorEW2
namespace Go.Proofs.YtokcgacehdgkcaaGreatDoor.Eng.Rf06
set_option linter.unusedVariables false
set_option linter.unusedSimpArgs false
open Go.RowKit Go.Proofs.YtokcgacehdgkcaaGreatDoor.Plain Go.Proofs.YtokcgacehdgkcaaGreatDoor.Eng

theorem el5 : elT Go.Proofs.Tryz.prog 5 = some (1, 1) := by kernel_rfl
theorem sz5 : sizeT Go.Proofs.Tryz.prog 5 = some 1 := by kernel_rfl
theorem zt5 : zeroT Go.Proofs.Tryz.prog 5 = some [.int .u8 0] := by kernel_rfl
theorem ht37 : hasText Go.Proofs.Tryz.prog 37 = true := by kernel_rfl
theorem ag5 : aggT Go.Proofs.Tryz.prog 5 = some false := by kernel_rfl
theorem ag115 : aggT Go.Proofs.Tryz.prog 115 = some true := by kernel_rfl
theorem sz115 : sizeT Go.Proofs.Tryz.prog 115 = some 2 := by kernel_rfl
theorem zt115 : zeroT Go.Proofs.Tryz.prog 115 = some [.slice none 0 0, .bool false] := by kernel_rfl
theorem fo115_0 : fieldOff Go.Proofs.Tryz.prog 115 0 = some 0 := by kernel_rfl
theorem ag30 : aggT Go.Proofs.Tryz.prog 30 = some false := by kernel_rfl
theorem pt115 : placesT Go.Proofs.Tryz.prog 115 2 = some [(0, 1), (1, 1)] := by kernel_rfl
theorem mixed : Go.Proofs.Tryz.prog.follows .mixedOrders = true := by kernel_rfl
theorem ht84 : hasText Go.Proofs.Tryz.prog 84 = true := by kernel_rfl
theorem fo115_1 : fieldOff Go.Proofs.Tryz.prog 115 1 = some 1 := by kernel_rfl
theorem ag4 : aggT Go.Proofs.Tryz.prog 4 = some false := by kernel_rfl
theorem ht45 : hasText Go.Proofs.Tryz.prog 45 = true := by kernel_rfl

open Go.Proofs.YtokcgacehdgkcaaGreatDoor.Eng.Pk Go.Proofs.YtokcgacehdgkcaaGreatDoor.Eng.Rd Go.Proofs.YtokcgacehdgkcaaGreatDoor.Eng.Pb Go.Proofs.YtokcgacehdgkcaaGreatDoor.Eng.Er

set_option maxRecDepth 100000 in
set_option maxHeartbeats 1000000 in
theorem rput {l : List Int} {n0 : Nat} (hl : l.length + 10 ≤ 140737488355328) (hn : n0 < 18446744073709551616) : Own1 Go.Proofs.Tryz.prog 37 [sl (kI .u8) none none l, pl (.int .u64 (n0 : Int))] (kI .u8) 5 none (l ++ vb n0) := by
  intro s
  have hv := vb_len10 hn
  refine ac_of_aw s.boxes.length (s.fr.length + 1) Go.Proofs.Tryz.func37 rfl (by simp [Go.Proofs.Tryz.ntmps37]) ?_
  refine aw_ext0 ?_
  refine aw_keep [(0, _), (1, _)] ⟨lg ez, lg (es ez), trivial⟩ ?_
  refine aw_seq ?_
  refine aw_region (by decide) ?_
  refine rts _ rfl (opD_assign (ev_const _ _)) ?_
  refine .nil ?_
  refine aw_keep [(4, _), (0, _), (1, _)] ⟨lg lz, lg (ls rfl oz), lg (ls rfl (os rfl oz)), trivial⟩ ?_
  refine aw_seq ?_
  refine aw_region (by decide) ?_
  refine rts _ rfl (opD_toNil (kI .u8) (opD_assign (ev_const _ _))) ?_
  refine .nil ?_
  refine aw_keep [(5, _), (4, _), (0, _), (1, _)] ⟨lg lz, lg (ls rfl oz), lg (ls rfl (os rfl oz)), lg (ls rfl (os rfl (os rfl oz))), trivial⟩ ?_
  refine aw_seq ?_
  refine aw_region (by decide) ?_
  refine rts _ rfl (opD_move oz) ?_
  refine rts _ rfl (opD_move (ls rfl (os rfl (os rfl oz)))) ?_
  refine rts _ rfl ((by first | exact opD_appendX Go.Proofs.Tryz.underlying30 el5 (ls rfl lz) lz rfl (by first | omega | (simp only [List.length_cons, List.length_nil, List.length_append]; omega)) (by first | omega | (simp only [List.length_cons, List.length_nil, List.length_append]; omega)) (by first | (with_reducible exact List.nil_append _) | exact rfl) (by simp only [List.nil_append, List.cons_append, List.map_cons, List.map_nil, List.set_cons_zero, List.set_cons_succ, List.take_succ_cons, List.take_zero, List.drop_succ_cons, List.drop_zero]; rfl) | exact opD_appendN (k := kI .u8) Go.Proofs.Tryz.underlying30 el5 (ls rfl lz) lz (by first | omega | (simp only [List.length_cons, List.length_nil, List.length_append]; omega)) (by first | omega | (simp only [List.length_cons, List.length_nil, List.length_append]; omega)) (by first | exact List.length_nil | (simp only [List.length_cons, List.length_nil, Nat.zero_add, Nat.reduceAdd]; rfl)) (by simp only [List.nil_append, List.cons_append, List.map_cons, List.map_nil, List.set_cons_zero, List.set_cons_succ, List.take_succ_cons, List.take_zero, List.drop_succ_cons, List.drop_zero]; rfl))) ?_
  refine rts _ rfl (opD_assign lz) ?_
  refine .nil ?_
  refine aw_keep [(5, _), (4, _), (0, _), (1, _)] ⟨lg lz, lg (ls rfl (ls rfl (ls rfl (ls rfl (os rfl oz))))), lg (ls rfl (ls rfl (ls rfl (ls rfl (os rfl (os rfl oz)))))), lg (ls rfl (ls rfl (ls rfl (ls rfl (os rfl (os rfl (os rfl oz))))))), trivial⟩ ?_
  refine aw_seq ?_
  refine aw_block ?_
  refine aw_loop (fun n e st => ∃ (y : List Int), Holds e [(1, pl (.int .u64 (n : Int))), (5, sl (kI .u8) (some (s.fr.length + 0)) none y)] ∧ st = s.ext [] [⟨5, 1, y.length⟩] ∧ y ++ vb n = l ++ vb n0 ∧ n ≤ n0) (n0) (⟨l, ⟨le_of_eq (eg (os rfl (os rfl (os rfl oz)))), le_of_eq (eg oz), trivial⟩, rfl, rfl, Nat.le_refl _⟩) ?_
  rintro n e st ⟨y, hH, rfl, hy, hle⟩
  have hlen := congrArg List.length hy
  simp only [List.length_append] at hlen
  have hvn := vb_len10 (n := n) (by omega)
  refine aw_keep _ hH ?_
  refine aw_seq ?_
  refine aw_seq ?_
  refine aw_region (by decide) ?_
  refine rts _ rfl (opD_move oz) ?_
  refine rts _ rfl (opD_gtr lz (ev_const _ _)) ?_
  refine .nil ?_
  refine aw_keep [(10, _), (1, _), (5, _)] ⟨lg lz, lg (ls rfl (ls rfl oz)), lg (ls rfl (ls rfl (os rfl oz))), trivial⟩ ?_
  refine aw_cond _ oz (fun hc => ?_) (fun hc => ?_)
  · skip
    try simp only [decide_eq_true_eq, decide_eq_false_iff_not] at hc
    refine aw_skip ?_
    refine aw_keep [(10, _), (1, _), (5, _)] ⟨lg oz, lg (os rfl oz), lg (os rfl (os rfl oz)), trivial⟩ ?_
    refine aw_block ?_
    refine aw_seq ?_
    refine aw_region (by decide) ?_
    refine rts _ rfl (opD_move (os rfl (os rfl oz))) ?_
    refine rts _ rfl (opD_move (ls rfl (os rfl oz))) ?_
    refine rts _ rfl (opD_rem lz (ev_const _ _) (by first | decide | omega) (by first | exact IntWalk.rem_in _ _ (by omega) | exact rfl)) ?_
    refine rts _ rfl (opD_add (ev_const _ _) lz (by first | exact IntWalk.u64_in _ (by omega) | exact rfl)) ?_
    refine rts _ rfl (opD_conv_int Go.Proofs.Tryz.underlying22 Go.Proofs.Tryz.underlying5 lz (by first | exact IntWalk.u8_in _ (by omega) | exact rfl)) ?_
    refine rts _ rfl (opD_buildSlice (k := kI .u8) [_] Go.Proofs.Tryz.underlying30 sz5 zt5 (by decide) rfl (parts_cons (cells1 lz (by first | exact one_pl rfl | exact one_sl _ _ _ _ | exact one_ptr _ _ | exact one_ifc _ _)) parts_nil) rfl rfl) ?_
    refine rts _ rfl ((by first | exact opD_appendX Go.Proofs.Tryz.underlying30 el5 (ls rfl (ls rfl (ls rfl (ls rfl (ls rfl lz))))) lz rfl (by first | omega | (simp only [List.length_cons, List.length_nil, List.length_append]; omega)) (by first | omega | (simp only [List.length_cons, List.length_nil, List.length_append]; omega)) (by first | (with_reducible exact List.nil_append _) | exact rfl) (by simp only [List.nil_append, List.cons_append, List.map_cons, List.map_nil, List.set_cons_zero, List.set_cons_succ, List.take_succ_cons, List.take_zero, List.drop_succ_cons, List.drop_zero]; rfl) | exact opD_appendN (k := kI .u8) Go.Proofs.Tryz.underlying30 el5 (ls rfl (ls rfl (ls rfl (ls rfl (ls rfl lz))))) lz (by first | omega | (simp only [List.length_cons, List.length_nil, List.length_append]; omega)) (by first | omega | (simp only [List.length_cons, List.length_nil, List.length_append]; omega)) (by first | exact List.length_nil | (simp only [List.length_cons, List.length_nil, Nat.zero_add, Nat.reduceAdd]; rfl)) (by simp only [List.nil_append, List.cons_append, List.map_cons, List.map_nil, List.set_cons_zero, List.set_cons_succ, List.take_succ_cons, List.take_zero, List.drop_succ_cons, List.drop_zero]; rfl))) ?_
    refine rts _ rfl (opD_assign lz) ?_
    refine .nil ?_
    refine aw_keep [(5, _), (10, _), (1, _)] ⟨lg lz, lg (ls rfl (ls rfl (ls rfl (ls rfl (ls rfl (ls rfl (ls rfl (ls rfl oz)))))))), lg (ls rfl (ls rfl (ls rfl (ls rfl (ls rfl (ls rfl (ls rfl (ls rfl (os rfl oz))))))))), trivial⟩ ?_
    refine aw_region (by decide) ?_
    refine rts _ rfl (opD_move (os rfl (os rfl oz))) ?_
    refine rts _ rfl (opD_quo (r := ((n / 128 : Nat) : Int)) lz (ev_const _ _) (by decide) ((IntWalk.u64_quo _ _ (by omega)).trans (by omega))) ?_
    refine rts _ rfl (opD_assign lz) ?_
    refine .nil ?_
    refine ⟨n / 128, by omega, y ++ [128 + (n : Int) % 128], ⟨le_of_eq (eg lz), le_of_eq (eg (ls rfl (ls rfl (ls rfl oz)))), trivial⟩, rfl, ?_, by omega⟩
    rw [← hy, vb_big (n := n) (by omega), show (128 + (n : Int) % 128) = ((n % 128 + 128 : Nat) : Int) by omega]; simp
  · skip
    try simp only [decide_eq_true_eq, decide_eq_false_iff_not] at hc
    refine aw_exit ?_
    refine aw_keep [(10, _), (1, _), (5, _)] ⟨lg oz, lg (os rfl oz), lg (os rfl (os rfl oz)), trivial⟩ ?_
    refine aw_seq ?_
    refine aw_region (by decide) ?_
    refine rts _ rfl (opD_move (os rfl (os rfl oz))) ?_
    refine rts _ rfl (opD_move (ls rfl (os rfl oz))) ?_
    refine rts _ rfl (opD_conv_int Go.Proofs.Tryz.underlying22 Go.Proofs.Tryz.underlying5 lz (by first | exact IntWalk.u8_in _ (by omega) | exact rfl)) ?_
    refine rts _ rfl (opD_buildSlice (k := kI .u8) [_] Go.Proofs.Tryz.underlying30 sz5 zt5 (by decide) rfl (parts_cons (cells1 lz (by first | exact one_pl rfl | exact one_sl _ _ _ _ | exact one_ptr _ _ | exact one_ifc _ _)) parts_nil) rfl rfl) ?_
    refine rts _ rfl ((by first | exact opD_appendX Go.Proofs.Tryz.underlying30 el5 (ls rfl (ls rfl (ls rfl lz))) lz rfl (by first | omega | (simp only [List.length_cons, List.length_nil, List.length_append]; omega)) (by first | omega | (simp only [List.length_cons, List.length_nil, List.length_append]; omega)) (by first | (with_reducible exact List.nil_append _) | exact rfl) (by simp only [List.nil_append, List.cons_append, List.map_cons, List.map_nil, List.set_cons_zero, List.set_cons_succ, List.take_succ_cons, List.take_zero, List.drop_succ_cons, List.drop_zero]; rfl) | exact opD_appendN (k := kI .u8) Go.Proofs.Tryz.underlying30 el5 (ls rfl (ls rfl (ls rfl lz))) lz (by first | omega | (simp only [List.length_cons, List.length_nil, List.length_append]; omega)) (by first | omega | (simp only [List.length_cons, List.length_nil, List.length_append]; omega)) (by first | exact List.length_nil | (simp only [List.length_cons, List.length_nil, Nat.zero_add, Nat.reduceAdd]; rfl)) (by simp only [List.nil_append, List.cons_append, List.map_cons, List.map_nil, List.set_cons_zero, List.set_cons_succ, List.take_succ_cons, List.take_zero, List.drop_succ_cons, List.drop_zero]; rfl))) ?_
    refine rts _ rfl (opD_assign lz) ?_
    refine .nil ?_
    refine aw_keep [(4, _), (10, _), (1, _), (5, _)] ⟨lg lz, lg (ls rfl (ls rfl (ls rfl (ls rfl (ls rfl (ls rfl oz)))))), lg (ls rfl (ls rfl (ls rfl (ls rfl (ls rfl (ls rfl (os rfl oz))))))), lg (ls rfl (ls rfl (ls rfl (ls rfl (ls rfl (ls rfl (os rfl (os rfl oz)))))))), trivial⟩ ?_
    refine aw_ret ?_
    exact done_own (.inr rfl) ((res_1 rfl (eg oz)).le (sl_to rfl (by rw [← hy, vb_small (by omega)]))) (by rw [← hy, vb_small (by omega)]) (kI_bnd _ _ _ _)

set_option maxRecDepth 100000 in
set_option maxHeartbeats 1000000 in
theorem rputs {l m : List Int} (hl : l.length + m.length + 10 ≤ 140737488355328) : Own1 Go.Proofs.Tryz.prog 38 [sl (kI .u8) none none l, sl (kI .u8) none none m] (kI .u8) 5 none (l ++ (vb m.length ++ m)) := by
  intro s
  have hv := vb_len10 (n := m.length) (by omega)
  refine ac_of_aw s.boxes.length (s.fr.length + 1) Go.Proofs.Tryz.func38 rfl (by simp [Go.Proofs.Tryz.ntmps38]) ?_
  refine aw_ext0 ?_
  refine aw_keep [(0, _), (1, _)] ⟨lg ez, lg (es ez), trivial⟩ ?_
  refine aw_seq ?_
  refine aw_region (by decide) ?_
  refine rts _ rfl (opD_assign (ev_const _ _)) ?_
  refine .nil ?_
  refine aw_keep [(4, _), (0, _), (1, _)] ⟨lg lz, lg (ls rfl oz), lg (ls rfl (os rfl oz)), trivial⟩ ?_
  refine aw_seq ?_
  refine aw_region (by decide) ?_
  refine rts _ rfl (opD_move (os rfl oz)) ?_
  refine rts _ rfl (opD_move (ls rfl (os rfl (os rfl oz)))) ?_
  refine rts _ rfl (opD_len_sl Go.Proofs.Tryz.underlying30 lz) ?_
  refine rts _ rfl (opD_conv_int Go.Proofs.Tryz.underlying3 Go.Proofs.Tryz.underlying22 lz (by first | exact IntWalk.u64_in _ (by omega) | exact rfl)) ?_
  refine rts _ rfl (opD_own1 ht37 (rput (n0 := m.length) (by omega) (by omega)) ⟨le_sl (ls rfl (ls rfl (ls rfl lz))), le_of_eq lz, trivial⟩ (by first | exact List.length_nil | (simp only [List.length_cons, List.length_nil, Nat.zero_add, Nat.reduceAdd]; rfl)) (by simp only [List.nil_append, List.cons_append, List.map_cons, List.map_nil, List.set_cons_zero, List.set_cons_succ, List.take_succ_cons, List.take_zero, List.drop_succ_cons, List.drop_zero]; rfl)) ?_
  refine rts _ rfl (opD_move (ls rfl (ls rfl (ls rfl (ls rfl (ls rfl (os rfl (os rfl oz)))))))) ?_
  refine rts _ rfl ((by first | exact opD_appendX Go.Proofs.Tryz.underlying30 el5 (ls rfl lz) lz rfl (by first | omega | (simp only [List.length_cons, List.length_nil, List.length_append]; omega)) (by first | omega | (simp only [List.length_cons, List.length_nil, List.length_append]; omega)) (List.append_assoc _ _ _) (by simp only [List.nil_append, List.cons_append, List.map_cons, List.map_nil, List.set_cons_zero, List.set_cons_succ, List.take_succ_cons, List.take_zero, List.drop_succ_cons, List.drop_zero]; rfl) | exact opD_appendN (k := kI .u8) Go.Proofs.Tryz.underlying30 el5 (ls rfl lz) lz (by first | omega | (simp only [List.length_cons, List.length_nil, List.length_append]; omega)) (by first | omega | (simp only [List.length_cons, List.length_nil, List.length_append]; omega)) (by first | exact List.length_nil | (simp only [List.length_cons, List.length_nil, Nat.zero_add, Nat.reduceAdd]; rfl)) (by simp only [List.nil_append, List.cons_append, List.map_cons, List.map_nil, List.set_cons_zero, List.set_cons_succ, List.take_succ_cons, List.take_zero, List.drop_succ_cons, List.drop_zero]; rfl))) ?_
  refine rts _ rfl (opD_assign lz) ?_
  refine .nil ?_
  refine aw_keep [(4, _), (0, _), (1, _)] ⟨lg lz, lg (ls rfl (ls rfl (ls rfl (ls rfl (ls rfl (ls rfl (ls rfl (ls rfl (os rfl oz))))))))), lg (ls rfl (ls rfl (ls rfl (ls rfl (ls rfl (ls rfl (ls rfl (ls rfl (os rfl (os rfl oz)))))))))), trivial⟩ ?_
  refine aw_ret ?_
  exact done_own (.inr rfl) (res_1 rfl (eg oz)) rfl (kI_bnd _ _ _ _)


def numZ : Option Int → Int
  | none => 0
  | some c => c
def rgetP (x : Nat × Nat × Option Int) : Pd := tup [pl (.int .u64 (x.1 : Int)), pl (.int .i64 (x.2.1 : Int)), pl (.int .i64 (numZ x.2.2))]
theorem rgetP_bnd (x : Nat × Nat × Option Int) (n m : Nat) : (rgetP x).Bnd n m := tup_bnd (bnd_cons (pl_bnd _ _ _) (bnd_cons (pl_bnd _ _ _) (bnd_cons (pl_bnd _ _ _) bnd_nil)))
theorem rgetP_to {a b o : Int} {x : Nat × Nat × Option Int} (h1 : a = x.1) (h2 : b = x.2.1) (h3 : o = numZ x.2.2) : (tup [pl (.int .u64 a), pl (.int .i64 b), pl (.int .i64 o)]).le (rgetP x) := by subst h1; subst h2; subst h3; exact Pd.le_refl _
theorem at_lt {l : List Int} {i : Nat} (h : i < l.length) : ∃ c, l[i]? = some c ∧ c ∈ l := ⟨l[i], List.getElem?_eq_getElem h, List.getElem_mem h⟩

set_option maxRecDepth 100000 in
set_option maxHeartbeats 1000000 in
theorem rget {l : List Int} (hb : Bts l) (hl : l.length ≤ 9223372036854775807) : Pure Go.Proofs.Tryz.prog 84 [sl (kI .u8) none none l] (rgetP (vget l)) := by
  intro s
  refine ac_of_aw s.boxes.length s.fr.length Go.Proofs.Tryz.func84 rfl (by simp [Go.Proofs.Tryz.ntmps84]) ?_
  refine aw_ext0 ?_
  refine aw_keep [(0, _)] ⟨lg ez, trivial⟩ ?_
  refine aw_seq ?_
  refine aw_region (by decide) ?_
  refine rts _ rfl (opD_assign (ev_const _ _)) ?_
  refine rts _ rfl (opD_assign (ev_const _ _)) ?_
  refine rts _ rfl (opD_assign (ev_const _ _)) ?_
  refine .nil ?_
  refine aw_keep [(4, _), (3, _), (2, _), (0, _)] ⟨lg lz, lg (ls rfl lz), lg (ls rfl (ls rfl lz)), lg (ls rfl (ls rfl (ls rfl oz))), trivial⟩ ?_
  refine aw_seq ?_
  refine aw_region (by decide) ?_
  refine rts _ rfl (opD_assign (ev_const _ _)) ?_
  refine .nil ?_
  refine aw_keep [(5, _), (4, _), (3, _), (2, _), (0, _)] ⟨lg lz, lg (ls rfl oz), lg (ls rfl (os rfl oz)), lg (ls rfl (os rfl (os rfl oz))), lg (ls rfl (os rfl (os rfl (os rfl oz)))), trivial⟩ ?_
  refine aw_seq ?_
  refine aw_block ?_
  refine aw_loop (fun n e st => ∃ i : Nat, Holds e [(0, sl (kI .u8) none none l), (5, pl (.int .i64 (i : Int)))] ∧ st = s.ext [] [] ∧ n + i = 10 ∧ i ≤ l.length ∧ More l i) (10) (⟨0, ⟨le_of_eq (eg (os rfl (os rfl (os rfl (os rfl oz))))), le_of_eq (eg oz), trivial⟩, rfl, rfl, by omega, fun j hj => by omega⟩) ?_
  rintro n e st ⟨i, hH, rfl, hn, hil, hm⟩
  refine aw_keep _ hH ?_
  refine aw_seq ?_
  refine aw_seq ?_
  refine aw_region (by decide) ?_
  refine rts _ rfl (opD_move (os rfl oz)) ?_
  refine rts _ rfl (opD_move (ls rfl oz)) ?_
  refine rts _ rfl (opD_len_sl Go.Proofs.Tryz.underlying30 lz) ?_
  refine rts _ rfl (opD_lss (ls rfl (ls rfl lz)) lz) ?_
  refine rts _ rfl (opD_move lz) ?_
  refine rtg _ rfl lz (fun hg2_5 => by
      have hg2_5' := hg2_5
      have hlt : i < l.length := by simp only [beq_iff_eq, Bool.and_eq_true, decide_eq_true_eq] at hg2_5'; omega
      exact opD_move (ls rfl (ls rfl (ls rfl (ls rfl (ls rfl (os rfl oz))))))) ?_
  refine rtg _ rfl (ls rfl lz) (fun hg2_6 => by
      have hg2_6' := hg2_6
      have hlt : i < l.length := by simp only [beq_iff_eq, Bool.and_eq_true, decide_eq_true_eq] at hg2_6'; omega
      exact opD_lss (lz.trans (pif_pos hg2_6)) (ev_const _ _)) ?_
  refine rts _ rfl (opD_and (ls rfl (ls rfl lz)) lz) ?_
  refine rts _ rfl (opD_move lz) ?_
  refine rtg _ rfl lz (fun hg2_9 => by
      have hg2_9' := hg2_9
      try simp only [beq_iff_eq, decide_eq_true_eq, decide_eq_false_iff_not, Bool.and_eq_true, Bool.or_eq_true, Bool.or_eq_false_iff, Bool.and_eq_false_iff] at hg2_9'
      exact opD_move (ls rfl (ls rfl (ls rfl (ls rfl (ls rfl (ls rfl (ls rfl (ls rfl (ls rfl oz)))))))))) ?_
  refine rtg _ rfl (ls rfl lz) (fun hg2_10 => by
      have hg2_10' := hg2_10
      try simp only [beq_iff_eq, decide_eq_true_eq, decide_eq_false_iff_not, Bool.and_eq_true, Bool.or_eq_true, Bool.or_eq_false_iff, Bool.and_eq_false_iff] at hg2_10'
      exact opD_move (ls rfl (ls rfl (ls rfl (ls rfl (ls rfl (ls rfl (ls rfl (ls rfl (ls rfl (ls rfl (os rfl oz)))))))))))) ?_
  refine rtg _ rfl (ls rfl (ls rfl lz)) (fun hg2_11 => by
      have hg2_11' := hg2_11
      have hlt : i < l.length := by simp only [beq_iff_eq, Bool.and_eq_true, decide_eq_true_eq] at hg2_11'; omega
      exact opD_indexAddr_sl Go.Proofs.Tryz.underlying30 sz5 ((ls rfl lz).trans (pif_pos hg2_11)) (lz.trans (pif_pos hg2_11)) (by first | rfl | simp | omega) (by first | assumption | omega)) ?_
  refine rtg _ rfl (ls rfl (ls rfl (ls rfl lz))) (fun hg2_12 => by
      have hg2_12' := hg2_12
      have hlt : i < l.length := by simp only [beq_iff_eq, Bool.and_eq_true, decide_eq_true_eq] at hg2_12'; omega
      exact opD_load_el_one ag5 (lz.trans (pif_pos hg2_12)) (at_getD 0 hlt) rfl) ?_
  refine rtg _ rfl (ls rfl (ls rfl (ls rfl (ls rfl lz)))) (fun hg2_13 => by
      have hg2_13' := hg2_13
      try simp only [beq_iff_eq, decide_eq_true_eq, decide_eq_false_iff_not, Bool.and_eq_true, Bool.or_eq_true, Bool.or_eq_false_iff, Bool.and_eq_false_iff] at hg2_13'
      exact opD_gtr (lz.trans (pif_pos hg2_13)) (ev_const _ _)) ?_
  refine rts _ rfl (opD_and (ls rfl (ls rfl (ls rfl (ls rfl (ls rfl lz))))) lz) ?_
  refine .nil ?_
  refine aw_keep [(22, _), (0, _), (5, _)] ⟨lg lz, lg (ls rfl (ls rfl (ls rfl (ls rfl (ls rfl (ls rfl (ls rfl (ls rfl (ls rfl (ls rfl (ls rfl (ls rfl (ls rfl (ls rfl (ls rfl oz))))))))))))))), lg (ls rfl (ls rfl (ls rfl (ls rfl (ls rfl (ls rfl (ls rfl (ls rfl (ls rfl (ls rfl (ls rfl (ls rfl (ls rfl (ls rfl (ls rfl (os rfl oz)))))))))))))))), trivial⟩ ?_
  refine aw_cond _ oz (fun hc => ?_) (fun hc => ?_)
  · skip
    simp only [Bool.and_eq_true, decide_eq_true_eq] at hc
    obtain ⟨⟨h1, h2⟩, h3⟩ := hc
    obtain ⟨c, hcl, hmem⟩ := at_lt (l := l) (i := i) (by omega)
    rw [List.getD_eq_getElem?_getD, hcl] at h3
    simp only [Option.getD_some] at h3
    refine aw_skip ?_
    refine aw_keep [(22, _), (0, _), (5, _)] ⟨lg oz, lg (os rfl oz), lg (os rfl (os rfl oz)), trivial⟩ ?_
    refine aw_block ?_
    refine aw_region (by decide) ?_
    refine rts _ rfl (opD_move (os rfl (os rfl oz))) ?_
    refine rts _ rfl (opD_add lz (ev_const _ _) (by first | exact IntWalk.i64_in _ (by omega) | exact rfl)) ?_
    refine rts _ rfl (opD_assign lz) ?_
    refine .nil ?_
    refine ⟨n - 1, by omega, i + 1, ⟨le_of_eq (eg (ls rfl (ls rfl (ls rfl (os rfl oz))))), le_of_eq (eg lz), trivial⟩, rfl, by omega, by omega, fun j hj => ?_⟩
    by_cases hji : j = i
    · subst hji; exact ⟨c, hcl, by omega⟩
    · exact hm j (by omega)
  · skip
    simp only [Bool.and_eq_false_iff, decide_eq_false_iff_not] at hc
    have hstop := hc
    refine aw_exit ?_
    refine aw_keep [(22, _), (0, _), (5, _)] ⟨lg oz, lg (os rfl oz), lg (os rfl (os rfl oz)), trivial⟩ ?_
    refine aw_seq ?_
    refine aw_seq ?_
    refine aw_region (by decide) ?_
    refine rts _ rfl (opD_move (os rfl (os rfl oz))) ?_
    refine rts _ rfl (opD_eql lz (ev_const _ _)) ?_
    refine rts _ rfl (opD_move lz) ?_
    refine rtg _ rfl lz (fun hg4_3 => by
        have hg4_3' := hg4_3
        try simp only [beq_iff_eq, decide_eq_true_eq, decide_eq_false_iff_not, Bool.and_eq_true, Bool.or_eq_true, Bool.or_eq_false_iff, Bool.and_eq_false_iff] at hg4_3'
        exact opD_move (ls rfl (ls rfl (ls rfl (os rfl (os rfl oz)))))) ?_
    refine rtg _ rfl (ls rfl lz) (fun hg4_4 => by
        have hg4_4' := hg4_4
        try simp only [beq_iff_eq, decide_eq_true_eq, decide_eq_false_iff_not, Bool.and_eq_true, Bool.or_eq_true, Bool.or_eq_false_iff, Bool.and_eq_false_iff] at hg4_4'
        exact opD_eql (lz.trans (pif_pos hg4_4)) (ev_const _ _)) ?_
    refine rtg _ rfl (ls rfl (ls rfl lz)) (fun hg4_5 => by
        have hg4_5' := hg4_5
        try simp only [beq_iff_eq, decide_eq_true_eq, decide_eq_false_iff_not, Bool.and_eq_true, Bool.or_eq_true, Bool.or_eq_false_iff, Bool.and_eq_false_iff] at hg4_5'
        exact opD_move (lz.trans (pif_pos hg4_5))) ?_
    refine rtg2 _ rfl lz (fun hg4_6 => by
        have hg4_6' := hg4_6
        try simp only [beq_iff_eq, decide_eq_true_eq, decide_eq_false_iff_not, Bool.and_eq_true, Bool.or_eq_true, Bool.or_eq_false_iff, Bool.and_eq_false_iff] at hg4_6'
        exact opD_move (ls rfl (ls rfl (ls rfl (ls rfl (ls rfl (ls rfl (os rfl oz)))))))) ?_
    refine rtg2 _ rfl (ls rfl lz) (fun hg4_7 => by
        have hg4_7' := hg4_7
        try simp only [beq_iff_eq, decide_eq_true_eq, decide_eq_false_iff_not, Bool.and_eq_true, Bool.or_eq_true, Bool.or_eq_false_iff, Bool.and_eq_false_iff] at hg4_7'
        exact opD_len_sl Go.Proofs.Tryz.underlying30 (lz.trans (pif_pos hg4_7))) ?_
    refine rtg2 _ rfl (ls rfl (ls rfl lz)) (fun hg4_8 => by
        have hg4_8' := hg4_8
        try simp only [beq_iff_eq, decide_eq_true_eq, decide_eq_false_iff_not, Bool.and_eq_true, Bool.or_eq_true, Bool.or_eq_false_iff, Bool.and_eq_false_iff] at hg4_8'
        exact opD_gtr (lz.trans (pif_pos hg4_8)) (ev_const _ _)) ?_
    refine rtg _ rfl (ls rfl (ls rfl (ls rfl (ls rfl (ls rfl (ls rfl lz)))))) (fun hg4_9 => by
        have hg4_9' := hg4_9
        try simp only [beq_iff_eq, decide_eq_true_eq, decide_eq_false_iff_not, Bool.and_eq_true, Bool.or_eq_true, Bool.or_eq_false_iff, Bool.and_eq_false_iff] at hg4_9'
        exact opD_and ((ls rfl (ls rfl (ls rfl lz))).trans (pif_pos hg4_9)) (lz.trans (pif_and hg4_9))) ?_
    refine rtg _ rfl (ls rfl (ls rfl (ls rfl (ls rfl (ls rfl (ls rfl (ls rfl lz))))))) (fun hg4_10 => by
        have hg4_10' := hg4_10
        try simp only [beq_iff_eq, decide_eq_true_eq, decide_eq_false_iff_not, Bool.and_eq_true, Bool.or_eq_true, Bool.or_eq_false_iff, Bool.and_eq_false_iff] at hg4_10'
        exact opD_move (lz.trans (pif_pos hg4_10))) ?_
    refine rtg2 _ rfl lz (fun hg4_11 => by
        have hg4_11' := hg4_11
        try simp only [beq_iff_eq, decide_eq_true_eq, decide_eq_false_iff_not, Bool.and_eq_true, Bool.or_eq_true, Bool.or_eq_false_iff, Bool.and_eq_false_iff] at hg4_11'
        exact opD_move (ls rfl (ls rfl (ls rfl (ls rfl (ls rfl (ls rfl (ls rfl (ls rfl (ls rfl (ls rfl (ls rfl (os rfl oz))))))))))))) ?_
    refine rtg2 _ rfl (ls rfl lz) (fun hg4_12 => by
        have hg4_12' := hg4_12
        try simp only [beq_iff_eq, decide_eq_true_eq, decide_eq_false_iff_not, Bool.and_eq_true, Bool.or_eq_true, Bool.or_eq_false_iff, Bool.and_eq_false_iff] at hg4_12'
        exact opD_indexAddr_sl Go.Proofs.Tryz.underlying30 sz5 (lz.trans (pif_pos hg4_12)) (ev_const _ _) (show (9 : Int) = ((9 : Nat) : Int) from rfl) (by first | assumption | omega)) ?_
    refine rtg2 _ rfl (ls rfl (ls rfl lz)) (fun hg4_13 => by
        have hg4_13' := hg4_13
        try simp only [beq_iff_eq, decide_eq_true_eq, decide_eq_false_iff_not, Bool.and_eq_true, Bool.or_eq_true, Bool.or_eq_false_iff, Bool.and_eq_false_iff] at hg4_13'
        exact opD_load_el_one ag5 (lz.trans (pif_pos hg4_13)) (at_getD 0 (by omega)) rfl) ?_
    refine rtg2 _ rfl (ls rfl (ls rfl (ls rfl lz))) (fun hg4_14 => by
        have hg4_14' := hg4_14
        try simp only [beq_iff_eq, decide_eq_true_eq, decide_eq_false_iff_not, Bool.and_eq_true, Bool.or_eq_true, Bool.or_eq_false_iff, Bool.and_eq_false_iff] at hg4_14'
        exact opD_gtr (lz.trans (pif_pos hg4_14)) (ev_const _ _)) ?_
    refine rtg _ rfl (ls rfl (ls rfl (ls rfl (ls rfl (ls rfl (ls rfl (ls rfl (ls rfl (ls rfl (ls rfl (ls rfl (ls rfl lz)))))))))))) (fun hg4_15 => by
        have hg4_15' := hg4_15
        try simp only [beq_iff_eq, decide_eq_true_eq, decide_eq_false_iff_not, Bool.and_eq_true, Bool.or_eq_true, Bool.or_eq_false_iff, Bool.and_eq_false_iff] at hg4_15'
        exact opD_and ((ls rfl (ls rfl (ls rfl (ls rfl lz)))).trans (pif_pos hg4_15)) (lz.trans (pif_and hg4_15))) ?_
    refine rts _ rfl (opD_or (ls rfl (ls rfl (ls rfl (ls rfl (ls rfl (ls rfl (ls rfl (ls rfl (ls rfl (ls rfl (ls rfl (ls rfl (ls rfl lz))))))))))))) lz) ?_
    refine .nil ?_
    refine aw_keep [(41, _), (22, _), (0, _), (5, _)] ⟨lg lz, lg (ls rfl (ls rfl (ls rfl (ls rfl (ls rfl (ls rfl (ls rfl (ls rfl (ls rfl (ls rfl (ls rfl (ls rfl (ls rfl (ls rfl (ls rfl (ls rfl (ls rfl oz))))))))))))))))), lg (ls rfl (ls rfl (ls rfl (ls rfl (ls rfl (ls rfl (ls rfl (ls rfl (ls rfl (ls rfl (ls rfl (ls rfl (ls rfl (ls rfl (ls rfl (ls rfl (ls rfl (os rfl oz)))))))))))))))))), lg (ls rfl (ls rfl (ls rfl (ls rfl (ls rfl (ls rfl (ls rfl (ls rfl (ls rfl (ls rfl (ls rfl (ls rfl (ls rfl (ls rfl (ls rfl (ls rfl (ls rfl (os rfl (os rfl oz))))))))))))))))))), trivial⟩ ?_
    refine aw_cond _ oz (fun hc => ?_) (fun hc => ?_)
    · skip
      refine aw_seq ?_
      refine aw_region (by decide) ?_
      refine rts _ rfl (opD_assign (ev_const _ _)) ?_
      refine rts _ rfl (opD_assign (ev_const _ _)) ?_
      refine rts _ rfl (opD_assign (ev_const _ _)) ?_
      refine .nil ?_
      refine aw_keep [(4, _), (3, _), (2, _), (41, _), (22, _), (0, _), (5, _)] ⟨lg lz, lg (ls rfl lz), lg (ls rfl (ls rfl lz)), lg (ls rfl (ls rfl (ls rfl oz))), lg (ls rfl (ls rfl (ls rfl (os rfl oz)))), lg (ls rfl (ls rfl (ls rfl (os rfl (os rfl oz))))), lg (ls rfl (ls rfl (ls rfl (os rfl (os rfl (os rfl oz)))))), trivial⟩ ?_
      refine aw_ret ?_
      have hv : vget l = (0, 0, some 2) := by
        simp only [Bool.or_eq_true, Bool.and_eq_true, decide_eq_true_eq] at hc
        rcases hc with h | ⟨⟨h1, h2⟩, h3⟩
        · have : i = 10 := by omega
          subst this; exact vget_range10 hb hm
        · have : i = 9 := by omega
          subst this; exact vget_range9 hb hm (at_getD 0 (by omega)) h3
      exact done_ext (.inr rfl) ((res_3 rfl (eg (os rfl (os rfl oz))) (eg (os rfl oz)) (eg oz)).le (by rw [hv]; exact rgetP_to rfl rfl rfl)) (rgetP_bnd _ _ _)
    · skip
      simp only [Bool.or_eq_false_iff, Bool.and_eq_false_iff, decide_eq_false_iff_not] at hc
      have h41 := hc
      refine aw_skip ?_
      refine aw_keep [(41, _), (22, _), (0, _), (5, _)] ⟨lg oz, lg (os rfl oz), lg (os rfl (os rfl oz)), lg (os rfl (os rfl (os rfl oz))), trivial⟩ ?_
      refine aw_seq ?_
      refine aw_seq ?_
      refine aw_region (by decide) ?_
      refine rts _ rfl (opD_move (os rfl (os rfl (os rfl oz)))) ?_
      refine rts _ rfl (opD_move (ls rfl (os rfl (os rfl oz)))) ?_
      refine rts _ rfl (opD_len_sl Go.Proofs.Tryz.underlying30 lz) ?_
      refine rts _ rfl (opD_geq (ls rfl (ls rfl lz)) lz) ?_
      refine .nil ?_
      refine aw_keep [(45, _), (41, _), (22, _), (0, _), (5, _)] ⟨lg lz, lg (ls rfl (ls rfl (ls rfl (ls rfl oz)))), lg (ls rfl (ls rfl (ls rfl (ls rfl (os rfl oz))))), lg (ls rfl (ls rfl (ls rfl (ls rfl (os rfl (os rfl oz)))))), lg (ls rfl (ls rfl (ls rfl (ls rfl (os rfl (os rfl (os rfl oz))))))), trivial⟩ ?_
      refine aw_cond _ oz (fun hc => ?_) (fun hc => ?_)
      · skip
        refine aw_seq ?_
        refine aw_region (by decide) ?_
        refine rts _ rfl (opD_assign (ev_const _ _)) ?_
        refine rts _ rfl (opD_assign (ev_const _ _)) ?_
        refine rts _ rfl (opD_assign (ev_const _ _)) ?_
        refine .nil ?_
        refine aw_keep [(4, _), (3, _), (2, _), (45, _), (41, _), (22, _), (0, _), (5, _)] ⟨lg lz, lg (ls rfl lz), lg (ls rfl (ls rfl lz)), lg (ls rfl (ls rfl (ls rfl oz))), lg (ls rfl (ls rfl (ls rfl (os rfl oz)))), lg (ls rfl (ls rfl (ls rfl (os rfl (os rfl oz))))), lg (ls rfl (ls rfl (ls rfl (os rfl (os rfl (os rfl oz)))))), lg (ls rfl (ls rfl (ls rfl (os rfl (os rfl (os rfl (os rfl oz))))))), trivial⟩ ?_
        refine aw_ret ?_
        simp only [decide_eq_true_eq] at hc
        obtain rfl : i = l.length := by omega
        exact done_ext (.inr rfl) ((res_3 rfl (eg (os rfl (os rfl oz))) (eg (os rfl oz)) (eg oz)).le (by rw [vget_none hb (by omega) hm]; exact rgetP_to rfl rfl rfl)) (rgetP_bnd _ _ _)
      · skip
        simp only [decide_eq_false_iff_not] at hc
        have hilt : i < l.length := by omega
        obtain ⟨c, hcl, hmem⟩ := at_lt hilt
        have hcb := hb c hmem
        have hgd : l.getD i 0 = c := by rw [List.getD_eq_getElem?_getD, hcl]; rfl
        rw [hgd] at hstop
        have hc128 : c < 128 := by omega
        have h9 : i = 9 → c ≤ 1 := by intro h; subst h; rw [hgd] at h41; omega
        refine aw_skip ?_
        refine aw_keep [(45, _), (41, _), (22, _), (0, _), (5, _)] ⟨lg oz, lg (os rfl oz), lg (os rfl (os rfl oz)), lg (os rfl (os rfl (os rfl oz))), lg (os rfl (os rfl (os rfl (os rfl oz)))), trivial⟩ ?_
        refine aw_seq ?_
        refine aw_seq ?_
        refine aw_region (by decide) ?_
        refine rts _ rfl (opD_move (os rfl (os rfl (os rfl (os rfl oz))))) ?_
        refine rts _ rfl (opD_gtr lz (ev_const _ _)) ?_
        refine rts _ rfl (opD_move lz) ?_
        refine rtg _ rfl lz (fun hg8_3 => by
            have hg8_3' := hg8_3
            try simp only [beq_iff_eq, decide_eq_true_eq, decide_eq_false_iff_not, Bool.and_eq_true, Bool.or_eq_true, Bool.or_eq_false_iff, Bool.and_eq_false_iff] at hg8_3'
            exact opD_move (ls rfl (ls rfl (ls rfl (os rfl (os rfl (os rfl oz))))))) ?_
        refine rtg _ rfl (ls rfl lz) (fun hg8_4 => by
            have hg8_4' := hg8_4
            try simp only [beq_iff_eq, decide_eq_true_eq, decide_eq_false_iff_not, Bool.and_eq_true, Bool.or_eq_true, Bool.or_eq_false_iff, Bool.and_eq_false_iff] at hg8_4'
            exact opD_move (ls rfl (ls rfl (ls rfl (ls rfl (os rfl (os rfl (os rfl (os rfl oz))))))))) ?_
        refine rtg _ rfl (ls rfl (ls rfl lz)) (fun hg8_5 => by
            have hg8_5' := hg8_5
            try simp only [beq_iff_eq, decide_eq_true_eq, decide_eq_false_iff_not, Bool.and_eq_true, Bool.or_eq_true, Bool.or_eq_false_iff, Bool.and_eq_false_iff] at hg8_5'
            exact opD_indexAddr_sl Go.Proofs.Tryz.underlying30 sz5 ((ls rfl lz).trans (pif_pos hg8_5)) (lz.trans (pif_pos hg8_5)) (by first | rfl | simp | omega) (by first | assumption | omega)) ?_
        refine rtg _ rfl (ls rfl (ls rfl (ls rfl lz))) (fun hg8_6 => by
            have hg8_6' := hg8_6
            try simp only [beq_iff_eq, decide_eq_true_eq, decide_eq_false_iff_not, Bool.and_eq_true, Bool.or_eq_true, Bool.or_eq_false_iff, Bool.and_eq_false_iff] at hg8_6'
            exact opD_load_el_one ag5 (lz.trans (pif_pos hg8_6)) (at_getD 0 (by omega)) rfl) ?_
        refine rtg _ rfl (ls rfl (ls rfl (ls rfl (ls rfl lz)))) (fun hg8_7 => by
            have hg8_7' := hg8_7
            try simp only [beq_iff_eq, decide_eq_true_eq, decide_eq_false_iff_not, Bool.and_eq_true, Bool.or_eq_true, Bool.or_eq_false_iff, Bool.and_eq_false_iff] at hg8_7'
            exact opD_eql (lz.trans (pif_pos hg8_7)) (ev_const _ _)) ?_
        refine rts _ rfl (opD_and (ls rfl (ls rfl (ls rfl (ls rfl (ls rfl lz))))) lz) ?_
        refine .nil ?_
        refine aw_keep [(54, _), (45, _), (41, _), (22, _), (0, _), (5, _)] ⟨lg lz, lg (ls rfl (ls rfl (ls rfl (ls rfl (ls rfl (ls rfl (ls rfl (ls rfl (ls rfl oz))))))))), lg (ls rfl (ls rfl (ls rfl (ls rfl (ls rfl (ls rfl (ls rfl (ls rfl (ls rfl (os rfl oz)))))))))), lg (ls rfl (ls rfl (ls rfl (ls rfl (ls rfl (ls rfl (ls rfl (ls rfl (ls rfl (os rfl (os rfl oz))))))))))), lg (ls rfl (ls rfl (ls rfl (ls rfl (ls rfl (ls rfl (ls rfl (ls rfl (ls rfl (os rfl (os rfl (os rfl oz)))))))))))), lg (ls rfl (ls rfl (ls rfl (ls rfl (ls rfl (ls rfl (ls rfl (ls rfl (ls rfl (os rfl (os rfl (os rfl (os rfl oz))))))))))))), trivial⟩ ?_
        refine aw_cond _ oz (fun hc => ?_) (fun hc => ?_)
        · skip
          refine aw_seq ?_
          refine aw_region (by decide) ?_
          refine rts _ rfl (opD_assign (ev_const _ _)) ?_
          refine rts _ rfl (opD_assign (ev_const _ _)) ?_
          refine rts _ rfl (opD_assign (ev_const _ _)) ?_
          refine .nil ?_
          refine aw_keep [(4, _), (3, _), (2, _), (54, _), (45, _), (41, _), (22, _), (0, _), (5, _)] ⟨lg lz, lg (ls rfl lz), lg (ls rfl (ls rfl lz)), lg (ls rfl (ls rfl (ls rfl oz))), lg (ls rfl (ls rfl (ls rfl (os rfl oz)))), lg (ls rfl (ls rfl (ls rfl (os rfl (os rfl oz))))), lg (ls rfl (ls rfl (ls rfl (os rfl (os rfl (os rfl oz)))))), lg (ls rfl (ls rfl (ls rfl (os rfl (os rfl (os rfl (os rfl oz))))))), lg (ls rfl (ls rfl (ls rfl (os rfl (os rfl (os rfl (os rfl (os rfl oz)))))))), trivial⟩ ?_
          refine aw_ret ?_
          simp only [Bool.and_eq_true, decide_eq_true_eq] at hc
          rw [hgd] at hc
          rw [hc.2] at hcl
          exact done_ext (.inr rfl) ((res_3 rfl (eg (os rfl (os rfl oz))) (eg (os rfl oz)) (eg oz)).le (by rw [vget_form hb (by omega) (by omega) hm hcl]; exact rgetP_to rfl rfl rfl)) (rgetP_bnd _ _ _)
        · skip
          simp only [Bool.and_eq_false_iff, decide_eq_false_iff_not] at hc
          rw [hgd] at hc
          have hval := vget_val hb (by omega) hm hcl hc128 h9 (by omega)
          refine aw_skip ?_
          refine aw_keep [(54, _), (45, _), (41, _), (22, _), (0, _), (5, _)] ⟨lg oz, lg (os rfl oz), lg (os rfl (os rfl oz)), lg (os rfl (os rfl (os rfl oz))), lg (os rfl (os rfl (os rfl (os rfl oz)))), lg (os rfl (os rfl (os rfl (os rfl (os rfl oz))))), trivial⟩ ?_
          refine aw_seq ?_
          refine aw_region (by decide) ?_
          refine rts _ rfl (opD_assign (ev_const _ _)) ?_
          refine .nil ?_
          refine aw_keep [(6, _), (54, _), (45, _), (41, _), (22, _), (0, _), (5, _)] ⟨lg lz, lg (ls rfl oz), lg (ls rfl (os rfl oz)), lg (ls rfl (os rfl (os rfl oz))), lg (ls rfl (os rfl (os rfl (os rfl oz)))), lg (ls rfl (os rfl (os rfl (os rfl (os rfl oz))))), lg (ls rfl (os rfl (os rfl (os rfl (os rfl (os rfl oz)))))), trivial⟩ ?_
          refine aw_seq ?_
          refine aw_seq ?_
          refine aw_region (by decide) ?_
          refine rts _ rfl (opD_move (os rfl (os rfl (os rfl (os rfl (os rfl (os rfl oz))))))) ?_
          refine rts _ rfl (opD_assign lz) ?_
          refine .nil ?_
          refine aw_keep [(7, _), (6, _), (54, _), (45, _), (41, _), (22, _), (0, _), (5, _)] ⟨lg lz, lg (ls rfl (ls rfl oz)), lg (ls rfl (ls rfl (os rfl oz))), lg (ls rfl (ls rfl (os rfl (os rfl oz)))), lg (ls rfl (ls rfl (os rfl (os rfl (os rfl oz))))), lg (ls rfl (ls rfl (os rfl (os rfl (os rfl (os rfl oz)))))), lg (ls rfl (ls rfl (os rfl (os rfl (os rfl (os rfl (os rfl oz))))))), lg (ls rfl (ls rfl (os rfl (os rfl (os rfl (os rfl (os rfl (os rfl oz)))))))), trivial⟩ ?_
          refine aw_block ?_
          refine aw_loop (fun n e st => ∃ (j : Nat), Holds e [(0, sl (kI .u8) none none l), (5, pl (.int .i64 (i : Int))), (6, pl (.int .u64 ((val ((l.take (i + 1)).drop j) : Nat) : Int))), (7, pl (.int .i64 ((j : Int) - 1)))] ∧ st = s.ext [] [] ∧ n = j ∧ j ≤ i + 1) (i + 1) (⟨i + 1, ⟨le_of_eq (eg (os rfl (os rfl (os rfl (os rfl (os rfl (os rfl oz))))))), le_of_eq (eg (os rfl (os rfl (os rfl (os rfl (os rfl (os rfl (os rfl oz)))))))), (le_of_eq (eg (os rfl oz))).trans (le_of_eq (by rw [List.drop_eq_nil_of_le (by rw [List.length_take]; omega)]; rfl)), (le_of_eq (eg oz)).trans (le_of_eq (by congr 2; omega)), trivial⟩, rfl, rfl, by omega⟩) ?_
          rintro n e st ⟨j, hH, rfl, rfl, hji⟩
          refine aw_keep _ hH ?_
          refine aw_seq ?_
          refine aw_seq ?_
          refine aw_region (by decide) ?_
          refine rts _ rfl (opD_move (os rfl (os rfl (os rfl oz)))) ?_
          refine rts _ rfl (opD_geq lz (ev_const _ _)) ?_
          refine .nil ?_
          refine aw_keep [(57, _), (0, _), (5, _), (6, _), (7, _)] ⟨lg lz, lg (ls rfl (ls rfl oz)), lg (ls rfl (ls rfl (os rfl oz))), lg (ls rfl (ls rfl (os rfl (os rfl oz)))), lg (ls rfl (ls rfl (os rfl (os rfl (os rfl oz))))), trivial⟩ ?_
          refine aw_cond _ oz (fun hc => ?_) (fun hc => ?_)
          · skip
            try simp only [decide_eq_true_eq, decide_eq_false_iff_not] at hc
            refine aw_skip ?_
            refine aw_keep [(57, _), (0, _), (5, _), (6, _), (7, _)] ⟨lg oz, lg (os rfl oz), lg (os rfl (os rfl oz)), lg (os rfl (os rfl (os rfl oz))), lg (os rfl (os rfl (os rfl (os rfl oz)))), trivial⟩ ?_
            refine aw_seq ?_
            refine aw_block ?_
            obtain ⟨j, rfl⟩ : ∃ j, n = j + 1 := ⟨n - 1, by omega⟩
            obtain ⟨d, hdl, hdm⟩ := at_lt (l := l) (i := j) (by omega)
            have hdb := hb d hdm
            have hdd : l.getD j 0 = d := by rw [List.getD_eq_getElem?_getD, hdl]; rfl
            have hvs := val_step (l := l) (e := i) (j := j) (by omega) hdl
            have hvf := val_fits hb (e := i) (by omega) hcl h9 j (by omega)
            refine aw_region (by decide) ?_
            refine rts _ rfl (opD_move (os rfl (os rfl (os rfl oz)))) ?_
            refine rts _ rfl (opD_mul (ev_const _ _) lz (by first | exact IntWalk.u64_in _ (by omega) | exact rfl)) ?_
            refine rts _ rfl (opD_move (ls rfl (ls rfl (os rfl oz)))) ?_
            refine rts _ rfl (opD_move (ls rfl (ls rfl (ls rfl (os rfl (os rfl (os rfl (os rfl oz)))))))) ?_
            refine rts _ rfl (opD_indexAddr_sl (i := j) Go.Proofs.Tryz.underlying30 sz5 (ls rfl lz) lz (by omega) (by omega)) ?_
            refine rts _ rfl (opD_load_el_one ag5 lz hdl rfl) ?_
            refine rts _ rfl (opD_rem lz (ev_const _ _) (by first | decide | omega) (by first | exact IntWalk.rem_in _ _ (by omega) | exact rfl)) ?_
            refine rts _ rfl (opD_conv_int (r := (((d % 128).toNat : Nat) : Int)) Go.Proofs.Tryz.underlying5 Go.Proofs.Tryz.underlying22 lz ((IntWalk.u64_in _ (by omega)).trans (by omega))) ?_
            refine rts _ rfl (opD_add (r := ((val ((l.take (i + 1)).drop j) : Nat) : Int)) (ls rfl (ls rfl (ls rfl (ls rfl (ls rfl (ls rfl lz)))))) lz ((IntWalk.u64_in _ (by omega)).trans (by omega))) ?_
            refine rts _ rfl (opD_assign lz) ?_
            refine .nil ?_
            refine aw_keep [(6, _), (57, _), (0, _), (5, _), (7, _)] ⟨lg lz, lg (ls rfl (ls rfl (ls rfl (ls rfl (ls rfl (ls rfl (ls rfl (ls rfl (ls rfl (ls rfl oz)))))))))), lg (ls rfl (ls rfl (ls rfl (ls rfl (ls rfl (ls rfl (ls rfl (ls rfl (ls rfl (ls rfl (os rfl oz))))))))))), lg (ls rfl (ls rfl (ls rfl (ls rfl (ls rfl (ls rfl (ls rfl (ls rfl (ls rfl (ls rfl (os rfl (os rfl oz)))))))))))), lg (ls rfl (ls rfl (ls rfl (ls rfl (ls rfl (ls rfl (ls rfl (ls rfl (ls rfl (ls rfl (os rfl (os rfl (os rfl (os rfl oz)))))))))))))), trivial⟩ ?_
            refine aw_region (by decide) ?_
            refine rts _ rfl (opD_move (os rfl (os rfl (os rfl (os rfl oz))))) ?_
            refine rts _ rfl (opD_sub lz (ev_const _ _) (by first | exact IntWalk.i64_in _ (by omega) | exact rfl)) ?_
            refine rts _ rfl (opD_assign lz) ?_
            refine .nil ?_
            refine ⟨j, by omega, j, ⟨le_of_eq (eg (ls rfl (ls rfl (ls rfl (os rfl (os rfl oz)))))), le_of_eq (eg (ls rfl (ls rfl (ls rfl (os rfl (os rfl (os rfl oz))))))), le_of_eq (eg (ls rfl (ls rfl (ls rfl oz)))), (le_of_eq (eg lz)).trans (le_of_eq (by congr 2; omega)), trivial⟩, rfl, rfl, by omega⟩
          · skip
            simp only [decide_eq_false_iff_not] at hc
            have hj0 : n = 0 := by omega
            subst hj0
            refine aw_exit ?_
            refine aw_keep [(57, _), (0, _), (5, _), (6, _), (7, _)] ⟨lg oz, lg (os rfl oz), lg (os rfl (os rfl oz)), lg (os rfl (os rfl (os rfl oz))), lg (os rfl (os rfl (os rfl (os rfl oz)))), trivial⟩ ?_
            refine aw_seq ?_
            refine aw_region (by decide) ?_
            refine rts _ rfl (opD_move (os rfl (os rfl (os rfl oz)))) ?_
            refine rts _ rfl (opD_move (ls rfl (os rfl (os rfl oz)))) ?_
            refine rts _ rfl (opD_add lz (ev_const _ _) (by first | exact IntWalk.i64_in _ (by omega) | exact rfl)) ?_
            refine rts _ rfl (opD_assign (ls rfl (ls rfl lz))) ?_
            refine rts _ rfl (opD_assign (ls rfl lz)) ?_
            refine rts _ rfl (opD_assign (ev_const _ _)) ?_
            refine .nil ?_
            refine aw_keep [(4, _), (3, _), (2, _), (57, _), (0, _), (5, _), (6, _), (7, _)] ⟨lg lz, lg (ls rfl lz), lg (ls rfl (ls rfl lz)), lg (ls rfl (ls rfl (ls rfl (ls rfl (ls rfl (ls rfl oz)))))), lg (ls rfl (ls rfl (ls rfl (ls rfl (ls rfl (ls rfl (os rfl oz))))))), lg (ls rfl (ls rfl (ls rfl (ls rfl (ls rfl (ls rfl (os rfl (os rfl oz)))))))), lg (ls rfl (ls rfl (ls rfl (ls rfl (ls rfl (ls rfl (os rfl (os rfl (os rfl oz))))))))), lg (ls rfl (ls rfl (ls rfl (ls rfl (ls rfl (ls rfl (os rfl (os rfl (os rfl (os rfl oz)))))))))), trivial⟩ ?_
            refine aw_ret ?_
            exact done_ext (.inr rfl) ((res_3 rfl (eg (os rfl (os rfl oz))) (eg (os rfl oz)) (eg oz)).le (by rw [hval]; exact rgetP_to rfl (by simp) rfl)) (rgetP_bnd _ _ _)


/-- The document's reader. -/
def refP (l : List Int) (b : Bool) : Pd := agg [sl (kI .u8) none none l, pl (.bool b)]
theorem refP_bnd (l : List Int) (b : Bool) (n m : Nat) : (refP l b).Bnd n m := agg_bnd (bnd_cons (sl_bnd (kI_bnd _ _ _ _)) (bnd_cons (pl_bnd _ _ _) bnd_nil))
theorem rp_bnd {l : List Int} {b : Bool} {p : Pd} (hp : p.Bnd 0 0) (n m : Nat) : (tup [refP l b, p]).Bnd n m := tup_bnd (bnd_cons (refP_bnd _ _ _ _) (bnd_cons (hp.up (Nat.zero_le _) (Nat.zero_le _)) bnd_nil))
theorem refP_le {p q : Pd} {l : List Int} {b b' : Bool} {x y : Pd} (h : p = sl (kI .u8) none none l ∨ (p = pl (.slice none 0 0) ∧ l = [])) (hb : b = b') (hx : x.le y) : (tup [agg [p, pl (.bool b)], x]).le (tup [refP l b', y]) := by
  subst hb
  refine tup_le ⟨agg_le ⟨?_, Pd.le_refl _, trivial⟩, hx, trivial⟩
  rcases h with rfl | ⟨rfl, rfl⟩
  · exact Pd.le_refl _
  · exact le_nil rfl

set_option maxRecDepth 100000 in
set_option maxHeartbeats 1000000 in
theorem ref_byte {l : List Int} {b : Bool} : Pure Go.Proofs.Tryz.prog 46 [refP l b] (tup [refP (rdByte l false).2.1 (rdByte l false).2.2, pl (.int .u8 (rdByte l false).1)]) := by
  intro s
  show AC _ _ _ s _ s
  unfold refP
  refine ac_of_aw s.boxes.length s.fr.length Go.Proofs.Tryz.func46 rfl (by simp [Go.Proofs.Tryz.ntmps46]) ?_
  refine aw_ext0 ?_
  refine aw_keep [(0, _)] ⟨lg ez, trivial⟩ ?_
  refine aw_seq ?_
  refine aw_region (by decide) ?_
  refine rts _ rfl (opD_boxA oz (by repeat (first | exact bnd_nil | refine bnd_cons (by first | exact pl_bnd _ _ _ | exact sl_bnd (kI_bnd _ _ _ _) | exact ptr_bnd _ (by omega)) ?_)) (by first | exact List.length_nil | (simp only [List.length_cons, List.length_nil, Nat.zero_add, Nat.reduceAdd]; rfl)) (by simp only [List.nil_append, List.cons_append, List.map_cons, List.map_nil, List.set_cons_zero, List.set_cons_succ, List.take_succ_cons, List.take_zero, List.drop_succ_cons, List.drop_zero]; rfl)) ?_
  refine rts _ rfl (opD_allocX zt115 (by first | exact List.length_nil | (simp only [List.length_cons, List.length_nil, Nat.zero_add, Nat.reduceAdd]; rfl)) (by simp only [List.nil_append, List.cons_append, List.map_cons, List.map_nil, List.set_cons_zero, List.set_cons_succ, List.take_succ_cons, List.take_zero, List.drop_succ_cons, List.drop_zero]; rfl)) ?_
  refine rts _ rfl (opD_assign (ev_const _ _)) ?_
  refine .nil ?_
  refine aw_keep [(3, _), (2, _), (1, _), (0, _)] ⟨lg lz, lg (ls rfl lz), lg (ls rfl (ls rfl lz)), lg (ls rfl (ls rfl (ls rfl oz))), trivial⟩ ?_
  refine aw_seq ?_
  refine aw_seq ?_
  refine aw_region (by decide) ?_
  refine rts _ rfl ((by first | exact opD_fieldAddr fo115_0 (os rfl (os rfl oz)) | exact opD_fieldAddr_el fo115_0 (os rfl (os rfl oz)))) ?_
  refine rts _ rfl ((by first | exact opD_load_one ag30 lz (by first | exact loc_get rfl | exact old_get (by assumption)) rfl | exact opD_load_el_one ag30 lz (by first | assumption | simp) rfl)) ?_
  refine rts _ rfl (opD_len_sl Go.Proofs.Tryz.underlying30 lz) ?_
  refine rts _ rfl (opD_eql lz (ev_const _ _)) ?_
  refine .nil ?_
  refine aw_keep [(7, _), (3, _), (2, _), (1, _), (0, _)] ⟨lg lz, lg (ls rfl (ls rfl (ls rfl (ls rfl oz)))), lg (ls rfl (ls rfl (ls rfl (ls rfl (os rfl oz))))), lg (ls rfl (ls rfl (ls rfl (ls rfl (os rfl (os rfl oz)))))), lg (ls rfl (ls rfl (ls rfl (ls rfl (os rfl (os rfl (os rfl oz))))))), trivial⟩ ?_
  refine aw_cond _ oz (fun hc => ?_) (fun hc => ?_)
  · skip
    simp only [decide_eq_true_eq] at hc
    obtain rfl : l = [] := List.length_eq_zero_iff.1 (by omega)
    refine aw_seq ?_
    refine aw_region (by decide) ?_
    refine rts _ rfl (opD_build_struct (rs := [_, _]) Go.Proofs.Tryz.underlying115 pt115 zt115 (parts_cons (cells1 (ev_const _ _) (by first | exact one_pl rfl | exact one_sl _ _ _ _ | exact one_ptr _ _ | exact one_ifc _ _)) (parts_cons (cells1 (ev_const _ _) (by first | exact one_pl rfl | exact one_sl _ _ _ _ | exact one_ptr _ _ | exact one_ifc _ _)) parts_nil)) rfl) ?_
    refine rts _ rfl (opD_storeA sz115 (ls rfl (os rfl (os rfl oz))) lz (by repeat (first | exact ones_nil | refine ones_cons (by first | exact one_pl rfl | exact one_sl _ _ _ _ | exact one_ptr _ _) ?_)) rfl rfl (Nat.le_of_ble_eq_true rfl) (List.cons_ne_nil _ _) (by repeat (first | exact bnd_nil | refine bnd_cons (by first | exact pl_bnd _ _ _ | exact sl_bnd (kI_bnd _ _ _ _) | exact ptr_bnd _ (by omega)) ?_)) (by simp only [List.nil_append, List.cons_append, List.map_cons, List.map_nil, List.set_cons_zero, List.set_cons_succ, List.take_succ_cons, List.take_zero, List.drop_succ_cons, List.drop_zero]; rfl) (by simp only [List.nil_append, List.cons_append, List.map_cons, List.map_nil, List.set_cons_zero, List.set_cons_succ, List.take_succ_cons, List.take_zero, List.drop_succ_cons, List.drop_zero]; rfl)) ?_
    refine rts _ rfl (opD_assign (ev_const _ _)) ?_
    refine .nil ?_
    refine aw_keep [(3, _), (7, _), (2, _), (1, _), (0, _)] ⟨lg lz, lg (ls rfl (lx (ls rfl oz))), lg (ls rfl (lx (ls rfl (os rfl (os rfl oz))))), lg (ls rfl (lx (ls rfl (os rfl (os rfl (os rfl oz)))))), lg (ls rfl (lx (ls rfl (os rfl (os rfl (os rfl (os rfl oz))))))), trivial⟩ ?_
    refine aw_ret ?_
    exact done_ext (.inr rfl) ((res_c1 rfl ag115 sz115 (eg (os rfl (os rfl oz))) (loc_get (i := 1) rfl) rfl (eg oz)).le (refP_le (q := any) (by first | exact .inl rfl | exact .inr ⟨rfl, rfl⟩) rfl (Pd.le_refl _))) (rp_bnd (by first | exact pl_bnd _ _ _ | exact sl_bnd (kI_bnd _ _ _ _)) _ _)
  · skip
    simp only [decide_eq_false_iff_not] at hc
    obtain ⟨c, t, rfl⟩ : ∃ c t, l = c :: t := by cases l with
        | nil => simp at hc
        | cons c t => exact ⟨c, t, rfl⟩
    refine aw_skip ?_
    refine aw_keep [(7, _), (3, _), (2, _), (1, _), (0, _)] ⟨lg oz, lg (os rfl oz), lg (os rfl (os rfl oz)), lg (os rfl (os rfl (os rfl oz))), lg (os rfl (os rfl (os rfl (os rfl oz)))), trivial⟩ ?_
    refine aw_seq ?_
    refine aw_drawn [false, false, false, false, false, false, false, false, true, false] [[0], [0], [0], [0], [0, 1], [0, 1], [0, 1], [0, 1], [0, 1], [1]] mixed (by decide +kernel) ?_
    refine dtp _ rfl (fun s => (by first | exact opD_fieldAddr fo115_0 (os rfl (os rfl (os rfl oz))) | exact opD_fieldAddr_el fo115_0 (os rfl (os rfl (os rfl oz))))) ?_
    refine dtl1 ag30 lz rfl rfl rfl ?_
    refine dtp _ rfl (fun s => opD_slice_from 1 Go.Proofs.Tryz.underlying30 sz5 lz (ev_const _ _) rfl (by simp)) ?_
    refine dtp _ rfl (fun s => opD_build_struct (rs := [_, _]) Go.Proofs.Tryz.underlying115 pt115 zt115 (parts_cons (cells1 lz (by first | exact one_pl rfl | exact one_sl _ _ _ _ | exact one_ptr _ _ | exact one_ifc _ _)) (parts_cons (cells1 (ev_const _ _) (by first | exact one_pl rfl | exact one_sl _ _ _ _ | exact one_ptr _ _ | exact one_ifc _ _)) parts_nil)) rfl) ?_
    refine dtp _ rfl (fun s => (by first | exact opD_fieldAddr fo115_0 (ls rfl (ls rfl (ls rfl (ls rfl (os rfl (os rfl (os rfl oz))))))) | exact opD_fieldAddr_el fo115_0 (ls rfl (ls rfl (ls rfl (ls rfl (os rfl (os rfl (os rfl oz))))))))) ?_
    refine dtl1 ag30 lz rfl rfl rfl ?_
    refine dtp _ rfl (fun s => opD_indexAddr_sl Go.Proofs.Tryz.underlying30 sz5 lz (ev_const _ _) (show (0 : Int) = ((0 : Nat) : Int) from rfl) (by simp)) ?_
    refine dtp _ rfl (fun s => opD_load_el_one ag5 lz (List.getElem?_cons_zero) rfl) ?_
    refine dta _ rfl (opD_storeA sz115 (ls rfl (ls rfl (ls rfl (ls rfl (ls rfl (ls rfl (ls rfl (ls rfl (os rfl (os rfl oz)))))))))) (ls rfl (ls rfl (ls rfl (ls rfl lz)))) (by repeat (first | exact ones_nil | refine ones_cons (by first | exact one_pl rfl | exact one_sl _ _ _ _ | exact one_ptr _ _) ?_)) rfl rfl (Nat.le_of_ble_eq_true rfl) (List.cons_ne_nil _ _) (by repeat (first | exact bnd_nil | refine bnd_cons (by first | exact pl_bnd _ _ _ | exact sl_bnd (kI_bnd _ _ _ _) | exact ptr_bnd _ (by omega)) ?_)) (by simp only [List.nil_append, List.cons_append, List.map_cons, List.map_nil, List.set_cons_zero, List.set_cons_succ, List.take_succ_cons, List.take_zero, List.drop_succ_cons, List.drop_zero]; rfl) (by simp only [List.nil_append, List.cons_append, List.map_cons, List.map_nil, List.set_cons_zero, List.set_cons_succ, List.take_succ_cons, List.take_zero, List.drop_succ_cons, List.drop_zero]; rfl)) ?_
    refine dtp _ rfl (fun s => opD_assign (lx lz)) ?_
    refine .nil ?_
    dsimp only [List.nil_append, List.cons_append]
    refine ⟨rfl, ⟨trivial, ⟨(by first | exact loc_get rfl | exact old_get (by assumption)), trivial⟩, trivial, trivial, trivial, ⟨(by first | exact loc_get rfl | exact old_get (by assumption)), (by first | exact loc_get rfl | exact old_get (by assumption)), trivial⟩, trivial, trivial, trivial, trivial, trivial⟩, ?_⟩
    refine aw_keep [(3, _), (7, _), (2, _), (1, _), (0, _)] ⟨lg lz, lg (ls rfl (lx (ls rfl (ls rfl (ls rfl (ls rfl (ls rfl (ls rfl (ls rfl (ls rfl oz)))))))))), lg (ls rfl (lx (ls rfl (ls rfl (ls rfl (ls rfl (ls rfl (ls rfl (ls rfl (ls rfl (os rfl (os rfl oz)))))))))))), lg (ls rfl (lx (ls rfl (ls rfl (ls rfl (ls rfl (ls rfl (ls rfl (ls rfl (ls rfl (os rfl (os rfl (os rfl oz))))))))))))), lg (ls rfl (lx (ls rfl (ls rfl (ls rfl (ls rfl (ls rfl (ls rfl (ls rfl (ls rfl (os rfl (os rfl (os rfl (os rfl oz)))))))))))))), trivial⟩ ?_
    refine aw_ret ?_
    exact done_ext (.inr rfl) ((res_c1 rfl ag115 sz115 (eg (os rfl (os rfl oz))) (loc_get (i := 1) rfl) rfl (eg oz)).le (refP_le (q := any) (by first | exact .inl rfl | exact .inr ⟨rfl, rfl⟩) rfl (Pd.le_refl _))) (rp_bnd (by first | exact pl_bnd _ _ _ | exact sl_bnd (kI_bnd _ _ _ _)) _ _)


theorem refNum_bad {most : Nat} {l : List Int} (h : ¬ (numZ (vget l).2.2) = 0 ∨ (most : Int) < ((vget l).1 : Int)) : rdNum most l false = (0, [], true) := by
  refine rdNum_err ?_
  rcases h with h | h
  · left; cases ho : (vget l).2.2 with
    | none => rw [ho] at h; exact absurd rfl h
    | some e => rfl
  · exact .inr h
theorem refNum_good {most : Nat} {l : List Int} (h : (numZ (vget l).2.2) = 0 ∧ ¬ (most : Int) < ((vget l).1 : Int)) : rdNum most l false = ((vget l).1, l.drop (vget l).2.1, false) ∧ (vget l).2.1 ≤ l.length := by
  refine rdNum_ok ⟨?_, h.2⟩
  cases ho : (vget l).2.2 with
  | none => rfl
  | some e => rw [ho] at h; exact absurd h.1 (vget_err_ne (l := l) (x := (vget l).1) (n := (vget l).2.1) (e := e) (by rw [← ho]))

set_option maxRecDepth 100000 in
set_option maxHeartbeats 1000000 in
theorem ref_num {l : List Int} {b : Bool} {most : Nat} (hb : Bts l) (hl : l.length ≤ 9223372036854775807) (hm : most < 18446744073709551616) : Pure Go.Proofs.Tryz.prog 45 [refP l b, pl (.int .u64 (most : Int))] (tup [refP (rdNum most l false).2.1 (rdNum most l false).2.2, pl (.int .u64 ((rdNum most l false).1 : Int))]) := by
  intro s
  unfold refP
  refine ac_of_aw s.boxes.length s.fr.length Go.Proofs.Tryz.func45 rfl (by simp [Go.Proofs.Tryz.ntmps45]) ?_
  refine aw_ext0 ?_
  refine aw_keep [(0, _), (1, _)] ⟨lg ez, lg (es ez), trivial⟩ ?_
  refine aw_seq ?_
  refine aw_region (by decide) ?_
  refine rts _ rfl (opD_boxA oz (by repeat (first | exact bnd_nil | refine bnd_cons (by first | exact pl_bnd _ _ _ | exact sl_bnd (kI_bnd _ _ _ _) | exact ptr_bnd _ (by omega)) ?_)) (by first | exact List.length_nil | (simp only [List.length_cons, List.length_nil, Nat.zero_add, Nat.reduceAdd]; rfl)) (by simp only [List.nil_append, List.cons_append, List.map_cons, List.map_nil, List.set_cons_zero, List.set_cons_succ, List.take_succ_cons, List.take_zero, List.drop_succ_cons, List.drop_zero]; rfl)) ?_
  refine rts _ rfl (opD_allocX zt115 (by first | exact List.length_nil | (simp only [List.length_cons, List.length_nil, Nat.zero_add, Nat.reduceAdd]; rfl)) (by simp only [List.nil_append, List.cons_append, List.map_cons, List.map_nil, List.set_cons_zero, List.set_cons_succ, List.take_succ_cons, List.take_zero, List.drop_succ_cons, List.drop_zero]; rfl)) ?_
  refine rts _ rfl (opD_assign (ev_const _ _)) ?_
  refine .nil ?_
  refine aw_keep [(5, _), (4, _), (2, _), (0, _), (1, _)] ⟨lg lz, lg (ls rfl lz), lg (ls rfl (ls rfl lz)), lg (ls rfl (ls rfl (ls rfl oz))), lg (ls rfl (ls rfl (ls rfl (os rfl oz)))), trivial⟩ ?_
  refine aw_seq ?_
  refine aw_region (by decide) ?_
  refine rts _ rfl ((by first | exact opD_fieldAddr fo115_0 (os rfl (os rfl oz)) | exact opD_fieldAddr_el fo115_0 (os rfl (os rfl oz)))) ?_
  refine rts _ rfl ((by first | exact opD_load_one ag30 lz (by first | exact loc_get rfl | exact old_get (by assumption)) rfl | exact opD_load_el_one ag30 lz (by first | assumption | simp) rfl)) ?_
  refine rts _ rfl (opD_pure ht84 (rget hb hl) ⟨le_sl lz, trivial⟩) ?_
  refine rts _ rfl (opD_move lz) ?_
  refine rts _ rfl (opD_extract lz rfl) ?_
  refine rts _ rfl (opD_extract (ls rfl lz) rfl) ?_
  refine rts _ rfl (opD_extract (ls rfl (ls rfl lz)) rfl) ?_
  refine rts _ rfl (opD_assign (ls rfl (ls rfl lz))) ?_
  refine rts _ rfl (opD_assign (ls rfl (ls rfl lz))) ?_
  refine rts _ rfl (opD_assign (ls rfl (ls rfl lz))) ?_
  refine .nil ?_
  refine aw_keep [(8, _), (7, _), (6, _), (5, _), (4, _), (2, _), (0, _), (1, _)] ⟨lg lz, lg (ls rfl lz), lg (ls rfl (ls rfl lz)), lg (ls rfl (ls rfl (ls rfl (ls rfl (ls rfl (ls rfl (ls rfl (ls rfl (ls rfl (ls rfl oz)))))))))), lg (ls rfl (ls rfl (ls rfl (ls rfl (ls rfl (ls rfl (ls rfl (ls rfl (ls rfl (ls rfl (os rfl oz))))))))))), lg (ls rfl (ls rfl (ls rfl (ls rfl (ls rfl (ls rfl (ls rfl (ls rfl (ls rfl (ls rfl (os rfl (os rfl oz)))))))))))), lg (ls rfl (ls rfl (ls rfl (ls rfl (ls rfl (ls rfl (ls rfl (ls rfl (ls rfl (ls rfl (os rfl (os rfl (os rfl oz))))))))))))), lg (ls rfl (ls rfl (ls rfl (ls rfl (ls rfl (ls rfl (ls rfl (ls rfl (ls rfl (ls rfl (os rfl (os rfl (os rfl (os rfl oz)))))))))))))), trivial⟩ ?_
  refine aw_seq ?_
  refine aw_seq ?_
  refine aw_region (by decide) ?_
  refine rts _ rfl (opD_move oz) ?_
  refine rts _ rfl (opD_neq lz (ev_const _ _)) ?_
  refine rts _ rfl (opD_move lz) ?_
  refine rtg _ rfl lz (fun hg2_3 => by
      have hg2_3' := hg2_3
      try simp only [beq_iff_eq, decide_eq_true_eq, decide_eq_false_iff_not, Bool.and_eq_true, Bool.or_eq_true, Bool.or_eq_false_iff, Bool.and_eq_false_iff] at hg2_3'
      exact opD_move (ls rfl (ls rfl (ls rfl (os rfl (os rfl oz)))))) ?_
  refine rtg _ rfl (ls rfl lz) (fun hg2_4 => by
      have hg2_4' := hg2_4
      try simp only [beq_iff_eq, decide_eq_true_eq, decide_eq_false_iff_not, Bool.and_eq_true, Bool.or_eq_true, Bool.or_eq_false_iff, Bool.and_eq_false_iff] at hg2_4'
      exact opD_move (ls rfl (ls rfl (ls rfl (ls rfl (os rfl (os rfl (os rfl (os rfl (os rfl (os rfl (os rfl oz)))))))))))) ?_
  refine rtg _ rfl (ls rfl (ls rfl lz)) (fun hg2_5 => by
      have hg2_5' := hg2_5
      try simp only [beq_iff_eq, decide_eq_true_eq, decide_eq_false_iff_not, Bool.and_eq_true, Bool.or_eq_true, Bool.or_eq_false_iff, Bool.and_eq_false_iff] at hg2_5'
      exact opD_gtr ((ls rfl lz).trans (pif_pos hg2_5)) (lz.trans (pif_pos hg2_5))) ?_
  refine rts _ rfl (opD_or (ls rfl (ls rfl (ls rfl lz))) lz) ?_
  refine .nil ?_
  refine aw_keep [(22, _), (8, _), (7, _), (6, _), (5, _), (4, _), (2, _), (0, _), (1, _)] ⟨lg lz, lg (ls rfl (ls rfl (ls rfl (ls rfl (ls rfl (ls rfl (ls rfl oz))))))), lg (ls rfl (ls rfl (ls rfl (ls rfl (ls rfl (ls rfl (ls rfl (os rfl oz)))))))), lg (ls rfl (ls rfl (ls rfl (ls rfl (ls rfl (ls rfl (ls rfl (os rfl (os rfl oz))))))))), lg (ls rfl (ls rfl (ls rfl (ls rfl (ls rfl (ls rfl (ls rfl (os rfl (os rfl (os rfl oz)))))))))), lg (ls rfl (ls rfl (ls rfl (ls rfl (ls rfl (ls rfl (ls rfl (os rfl (os rfl (os rfl (os rfl oz))))))))))), lg (ls rfl (ls rfl (ls rfl (ls rfl (ls rfl (ls rfl (ls rfl (os rfl (os rfl (os rfl (os rfl (os rfl oz)))))))))))), lg (ls rfl (ls rfl (ls rfl (ls rfl (ls rfl (ls rfl (ls rfl (os rfl (os rfl (os rfl (os rfl (os rfl (os rfl oz))))))))))))), lg (ls rfl (ls rfl (ls rfl (ls rfl (ls rfl (ls rfl (ls rfl (os rfl (os rfl (os rfl (os rfl (os rfl (os rfl (os rfl oz)))))))))))))), trivial⟩ ?_
  refine aw_cond _ oz (fun hc => ?_) (fun hc => ?_)
  · skip
    simp only [Bool.or_eq_true, decide_eq_true_eq] at hc
    rw [refNum_bad hc]
    refine aw_seq ?_
    refine aw_region (by decide) ?_
    refine rts _ rfl (opD_build_struct (rs := [_, _]) Go.Proofs.Tryz.underlying115 pt115 zt115 (parts_cons (cells1 (ev_const _ _) (by first | exact one_pl rfl | exact one_sl _ _ _ _ | exact one_ptr _ _ | exact one_ifc _ _)) (parts_cons (cells1 (ev_const _ _) (by first | exact one_pl rfl | exact one_sl _ _ _ _ | exact one_ptr _ _ | exact one_ifc _ _)) parts_nil)) rfl) ?_
    refine rts _ rfl (opD_storeA sz115 (ls rfl (os rfl (os rfl (os rfl (os rfl (os rfl oz)))))) lz (by repeat (first | exact ones_nil | refine ones_cons (by first | exact one_pl rfl | exact one_sl _ _ _ _ | exact one_ptr _ _) ?_)) rfl rfl (Nat.le_of_ble_eq_true rfl) (List.cons_ne_nil _ _) (by repeat (first | exact bnd_nil | refine bnd_cons (by first | exact pl_bnd _ _ _ | exact sl_bnd (kI_bnd _ _ _ _) | exact ptr_bnd _ (by omega)) ?_)) (by simp only [List.nil_append, List.cons_append, List.map_cons, List.map_nil, List.set_cons_zero, List.set_cons_succ, List.take_succ_cons, List.take_zero, List.drop_succ_cons, List.drop_zero]; rfl) (by simp only [List.nil_append, List.cons_append, List.map_cons, List.map_nil, List.set_cons_zero, List.set_cons_succ, List.take_succ_cons, List.take_zero, List.drop_succ_cons, List.drop_zero]; rfl)) ?_
    refine rts _ rfl (opD_assign (ev_const _ _)) ?_
    refine .nil ?_
    refine aw_keep [(5, _), (22, _), (8, _), (7, _), (6, _), (4, _), (2, _), (0, _), (1, _)] ⟨lg lz, lg (ls rfl (lx (ls rfl oz))), lg (ls rfl (lx (ls rfl (os rfl oz)))), lg (ls rfl (lx (ls rfl (os rfl (os rfl oz))))), lg (ls rfl (lx (ls rfl (os rfl (os rfl (os rfl oz)))))), lg (ls rfl (lx (ls rfl (os rfl (os rfl (os rfl (os rfl (os rfl oz)))))))), lg (ls rfl (lx (ls rfl (os rfl (os rfl (os rfl (os rfl (os rfl (os rfl oz))))))))), lg (ls rfl (lx (ls rfl (os rfl (os rfl (os rfl (os rfl (os rfl (os rfl (os rfl oz)))))))))), lg (ls rfl (lx (ls rfl (os rfl (os rfl (os rfl (os rfl (os rfl (os rfl (os rfl (os rfl oz))))))))))), trivial⟩ ?_
    refine aw_ret ?_
    exact done_ext (.inr rfl) ((res_c1 rfl ag115 sz115 (eg (os rfl (os rfl (os rfl (os rfl (os rfl oz)))))) (loc_get (i := 1) rfl) rfl (eg oz)).le (refP_le (q := any) (by first | exact .inl rfl | exact .inr ⟨rfl, rfl⟩) rfl (Pd.le_refl _))) (rp_bnd (by first | exact pl_bnd _ _ _ | exact sl_bnd (kI_bnd _ _ _ _)) _ _)
  · skip
    simp only [Bool.or_eq_false_iff, decide_eq_false_iff_not, Decidable.not_not, ne_eq] at hc
    obtain ⟨he, hn2⟩ := refNum_good hc
    rw [he]
    refine aw_skip ?_
    refine aw_keep [(22, _), (8, _), (7, _), (6, _), (5, _), (4, _), (2, _), (0, _), (1, _)] ⟨lg oz, lg (os rfl oz), lg (os rfl (os rfl oz)), lg (os rfl (os rfl (os rfl oz))), lg (os rfl (os rfl (os rfl (os rfl oz)))), lg (os rfl (os rfl (os rfl (os rfl (os rfl oz))))), lg (os rfl (os rfl (os rfl (os rfl (os rfl (os rfl oz)))))), lg (os rfl (os rfl (os rfl (os rfl (os rfl (os rfl (os rfl oz))))))), lg (os rfl (os rfl (os rfl (os rfl (os rfl (os rfl (os rfl (os rfl oz)))))))), trivial⟩ ?_
    refine aw_seq ?_
    refine aw_region (by decide) ?_
    refine rts _ rfl ((by first | exact opD_fieldAddr fo115_0 (os rfl (os rfl (os rfl (os rfl (os rfl (os rfl oz)))))) | exact opD_fieldAddr_el fo115_0 (os rfl (os rfl (os rfl (os rfl (os rfl (os rfl oz)))))))) ?_
    refine rts _ rfl ((by first | exact opD_load_one ag30 lz (by first | exact loc_get rfl | exact old_get (by assumption)) rfl | exact opD_load_el_one ag30 lz (by first | assumption | simp) rfl)) ?_
    refine rts _ rfl (opD_move (ls rfl (ls rfl (os rfl (os rfl oz))))) ?_
    refine rts _ rfl (opD_slice_from _ Go.Proofs.Tryz.underlying30 sz5 (ls rfl lz) lz rfl hn2) ?_
    refine rts _ rfl (opD_build_struct (rs := [_, _]) Go.Proofs.Tryz.underlying115 pt115 zt115 (parts_cons (cells1 lz (by first | exact one_pl rfl | exact one_sl _ _ _ _ | exact one_ptr _ _ | exact one_ifc _ _)) (parts_cons (cells1 (ev_const _ _) (by first | exact one_pl rfl | exact one_sl _ _ _ _ | exact one_ptr _ _ | exact one_ifc _ _)) parts_nil)) rfl) ?_
    refine rts _ rfl (opD_move (ls rfl (ls rfl (ls rfl (ls rfl (ls rfl (os rfl (os rfl (os rfl oz))))))))) ?_
    refine rts _ rfl (opD_storeA sz115 (ls rfl (ls rfl (ls rfl (ls rfl (ls rfl (ls rfl (os rfl (os rfl (os rfl (os rfl (os rfl oz))))))))))) (ls rfl lz) (by repeat (first | exact ones_nil | refine ones_cons (by first | exact one_pl rfl | exact one_sl _ _ _ _ | exact one_ptr _ _) ?_)) rfl rfl (Nat.le_of_ble_eq_true rfl) (List.cons_ne_nil _ _) (by repeat (first | exact bnd_nil | refine bnd_cons (by first | exact pl_bnd _ _ _ | exact sl_bnd (kI_bnd _ _ _ _) | exact ptr_bnd _ (by omega)) ?_)) (by simp only [List.nil_append, List.cons_append, List.map_cons, List.map_nil, List.set_cons_zero, List.set_cons_succ, List.take_succ_cons, List.take_zero, List.drop_succ_cons, List.drop_zero]; rfl) (by simp only [List.nil_append, List.cons_append, List.map_cons, List.map_nil, List.set_cons_zero, List.set_cons_succ, List.take_succ_cons, List.take_zero, List.drop_succ_cons, List.drop_zero]; rfl)) ?_
    refine rts _ rfl (opD_assign (lx lz)) ?_
    refine .nil ?_
    refine aw_keep [(5, _), (22, _), (8, _), (7, _), (6, _), (4, _), (2, _), (0, _), (1, _)] ⟨lg lz, lg (ls rfl (lx (ls rfl (ls rfl (ls rfl (ls rfl (ls rfl (ls rfl oz)))))))), lg (ls rfl (lx (ls rfl (ls rfl (ls rfl (ls rfl (ls rfl (ls rfl (os rfl oz))))))))), lg (ls rfl (lx (ls rfl (ls rfl (ls rfl (ls rfl (ls rfl (ls rfl (os rfl (os rfl oz)))))))))), lg (ls rfl (lx (ls rfl (ls rfl (ls rfl (ls rfl (ls rfl (ls rfl (os rfl (os rfl (os rfl oz))))))))))), lg (ls rfl (lx (ls rfl (ls rfl (ls rfl (ls rfl (ls rfl (ls rfl (os rfl (os rfl (os rfl (os rfl (os rfl oz))))))))))))), lg (ls rfl (lx (ls rfl (ls rfl (ls rfl (ls rfl (ls rfl (ls rfl (os rfl (os rfl (os rfl (os rfl (os rfl (os rfl oz)))))))))))))), lg (ls rfl (lx (ls rfl (ls rfl (ls rfl (ls rfl (ls rfl (ls rfl (os rfl (os rfl (os rfl (os rfl (os rfl (os rfl (os rfl oz))))))))))))))), lg (ls rfl (lx (ls rfl (ls rfl (ls rfl (ls rfl (ls rfl (ls rfl (os rfl (os rfl (os rfl (os rfl (os rfl (os rfl (os rfl (os rfl oz)))))))))))))))), trivial⟩ ?_
    refine aw_ret ?_
    exact done_ext (.inr rfl) ((res_c1 rfl ag115 sz115 (eg (os rfl (os rfl (os rfl (os rfl (os rfl oz)))))) (loc_get (i := 1) rfl) rfl (eg oz)).le (refP_le (q := any) (by first | exact .inl rfl | exact .inr ⟨rfl, rfl⟩) rfl (Pd.le_refl _))) (rp_bnd (by first | exact pl_bnd _ _ _ | exact sl_bnd (kI_bnd _ _ _ _)) _ _)

set_option maxRecDepth 100000 in
set_option maxHeartbeats 1000000 in
theorem ref_done {l : List Int} {b : Bool} : Pure Go.Proofs.Tryz.prog 48 [refP l b] (pl (.bool (!b && decide ((l.length : Int) = 0)))) := by
  intro s
  unfold refP
  refine ac_of_aw s.boxes.length s.fr.length Go.Proofs.Tryz.func48 rfl (by simp [Go.Proofs.Tryz.ntmps48]) ?_
  refine aw_ext0 ?_
  refine aw_keep [(0, _)] ⟨lg ez, trivial⟩ ?_
  refine aw_seq ?_
  refine aw_region (by decide) ?_
  refine rts _ rfl (opD_boxA oz (by repeat (first | exact bnd_nil | refine bnd_cons (by first | exact pl_bnd _ _ _ | exact sl_bnd (kI_bnd _ _ _ _) | exact ptr_bnd _ (by omega)) ?_)) (by first | exact List.length_nil | (simp only [List.length_cons, List.length_nil, Nat.zero_add, Nat.reduceAdd]; rfl)) (by simp only [List.nil_append, List.cons_append, List.map_cons, List.map_nil, List.set_cons_zero, List.set_cons_succ, List.take_succ_cons, List.take_zero, List.drop_succ_cons, List.drop_zero]; rfl)) ?_
  refine rts _ rfl (opD_assign (ev_const _ _)) ?_
  refine .nil ?_
  refine aw_keep [(2, _), (1, _), (0, _)] ⟨lg lz, lg (ls rfl lz), lg (ls rfl (ls rfl oz)), trivial⟩ ?_
  refine aw_seq ?_
  refine aw_region (by decide) ?_
  refine rts _ rfl ((by first | exact opD_fieldAddr fo115_1 (os rfl oz) | exact opD_fieldAddr_el fo115_1 (os rfl oz))) ?_
  refine rts _ rfl ((by first | exact opD_load_one ag4 lz (by first | exact loc_get rfl | exact old_get (by assumption)) rfl | exact opD_load_el_one ag4 lz (by first | assumption | simp) rfl)) ?_
  refine rts _ rfl (opD_not lz) ?_
  refine rts _ rfl (opD_move lz) ?_
  refine rtg _ rfl lz (fun hg1_4 => by
      have hg1_4' := hg1_4
      try simp only [beq_iff_eq, decide_eq_true_eq, decide_eq_false_iff_not, Bool.and_eq_true, Bool.or_eq_true, Bool.or_eq_false_iff, Bool.and_eq_false_iff] at hg1_4'
      exact (by first | exact opD_fieldAddr fo115_0 (ls rfl (ls rfl (ls rfl (ls rfl (os rfl oz))))) | exact opD_fieldAddr_el fo115_0 (ls rfl (ls rfl (ls rfl (ls rfl (os rfl oz))))))) ?_
  refine rtg _ rfl (ls rfl lz) (fun hg1_5 => by
      have hg1_5' := hg1_5
      try simp only [beq_iff_eq, decide_eq_true_eq, decide_eq_false_iff_not, Bool.and_eq_true, Bool.or_eq_true, Bool.or_eq_false_iff, Bool.and_eq_false_iff] at hg1_5'
      exact (by first | exact opD_load_one ag30 (lz.trans (pif_pos hg1_5)) (by first | exact loc_get rfl | exact old_get (by assumption) | exact hB) rfl | exact opD_load_el_one ag30 (lz.trans (pif_pos hg1_5)) (by first | assumption | simp) rfl)) ?_
  refine rtg _ rfl (ls rfl (ls rfl lz)) (fun hg1_6 => by
      have hg1_6' := hg1_6
      try simp only [beq_iff_eq, decide_eq_true_eq, decide_eq_false_iff_not, Bool.and_eq_true, Bool.or_eq_true, Bool.or_eq_false_iff, Bool.and_eq_false_iff] at hg1_6'
      exact opD_len_sl Go.Proofs.Tryz.underlying30 (lz.trans (pif_pos hg1_6))) ?_
  refine rtg _ rfl (ls rfl (ls rfl (ls rfl lz))) (fun hg1_7 => by
      have hg1_7' := hg1_7
      try simp only [beq_iff_eq, decide_eq_true_eq, decide_eq_false_iff_not, Bool.and_eq_true, Bool.or_eq_true, Bool.or_eq_false_iff, Bool.and_eq_false_iff] at hg1_7'
      exact opD_eql (lz.trans (pif_pos hg1_7)) (ev_const _ _)) ?_
  refine rts _ rfl (opD_and (ls rfl (ls rfl (ls rfl (ls rfl lz)))) lz) ?_
  refine rts _ rfl (opD_assign lz) ?_
  refine .nil ?_
  refine aw_keep [(2, _), (1, _), (0, _)] ⟨lg lz, lg (ls rfl (ls rfl (ls rfl (ls rfl (ls rfl (ls rfl (ls rfl (ls rfl (ls rfl (ls rfl (os rfl oz))))))))))), lg (ls rfl (ls rfl (ls rfl (ls rfl (ls rfl (ls rfl (ls rfl (ls rfl (ls rfl (ls rfl (os rfl (os rfl oz)))))))))))), trivial⟩ ?_
  refine aw_ret ?_
  exact done_ext (.inr rfl) (res_1 rfl (eg oz)) (pl_bnd _ _ _)


theorem rdNum_wrong {most : Nat} {l : List Int} (h : (rdNum most l false).2.2 = true) : rdNum most l false = (0, [], true) := by
  unfold rdNum at h ⊢
  by_cases hc : (vget l).2.2 = none ∧ (vget l).1 ≤ most
  · rw [if_pos hc] at h; cases h
  · rw [if_neg hc]
theorem refBytes_bad {most : Nat} {l : List Int} (h : (rdNum most l false).2.2 = true ∨ (((rdNum most l false).2.1.length : Nat) : Int) < (((rdNum most l false).1 : Nat) : Int)) : rdBytes most l false = ([], [], true) := by
  unfold rdBytes
  rcases h with h | h
  · rw [rdNum_wrong h]; rfl
  · rw [if_neg (by omega)]
theorem refBytes_good {most : Nat} {l : List Int} (h : (rdNum most l false).2.2 = false ∧ ¬ (((rdNum most l false).2.1.length : Nat) : Int) < (((rdNum most l false).1 : Nat) : Int)) : rdBytes most l false = ((rdNum most l false).2.1.take (rdNum most l false).1, (rdNum most l false).2.1.drop (rdNum most l false).1, false) ∧ (rdNum most l false).1 ≤ (rdNum most l false).2.1.length := by
  unfold rdBytes
  rw [if_pos (by omega), h.1]; exact ⟨rfl, by omega⟩

set_option maxRecDepth 100000 in
set_option maxHeartbeats 1000000 in
theorem ref_bytes {l : List Int} {b : Bool} {m : Int} (hb : Bts l) (hl : l.length ≤ 9223372036854775807) (hm : -9223372036854775808 ≤ m ∧ m ≤ 9223372036854775807) : Pure Go.Proofs.Tryz.prog 47 [refP l b, pl (.int .i64 m)] (tup [refP (rdBytes m.toNat l false).2.1 (rdBytes m.toNat l false).2.2, sl (kI .u8) none none (rdBytes m.toNat l false).1]) := by
  intro s
  unfold refP
  have hnl := rdNum_le m.toNat l false
  refine ac_of_aw s.boxes.length s.fr.length Go.Proofs.Tryz.func47 rfl (by simp [Go.Proofs.Tryz.ntmps47]) ?_
  refine aw_ext0 ?_
  refine aw_keep [(0, _), (1, _)] ⟨lg ez, lg (es ez), trivial⟩ ?_
  refine aw_seq ?_
  refine aw_region (by decide) ?_
  refine rts _ rfl (opD_boxA oz (by repeat (first | exact bnd_nil | refine bnd_cons (by first | exact pl_bnd _ _ _ | exact sl_bnd (kI_bnd _ _ _ _) | exact ptr_bnd _ (by omega)) ?_)) (by first | exact List.length_nil | (simp only [List.length_cons, List.length_nil, Nat.zero_add, Nat.reduceAdd]; rfl)) (by simp only [List.nil_append, List.cons_append, List.map_cons, List.map_nil, List.set_cons_zero, List.set_cons_succ, List.take_succ_cons, List.take_zero, List.drop_succ_cons, List.drop_zero]; rfl)) ?_
  refine rts _ rfl (opD_allocX zt115 (by first | exact List.length_nil | (simp only [List.length_cons, List.length_nil, Nat.zero_add, Nat.reduceAdd]; rfl)) (by simp only [List.nil_append, List.cons_append, List.map_cons, List.map_nil, List.set_cons_zero, List.set_cons_succ, List.take_succ_cons, List.take_zero, List.drop_succ_cons, List.drop_zero]; rfl)) ?_
  refine rts _ rfl (opD_assign (ev_const _ _)) ?_
  refine .nil ?_
  refine aw_keep [(5, _), (4, _), (2, _), (0, _), (1, _)] ⟨lg lz, lg (ls rfl lz), lg (ls rfl (ls rfl lz)), lg (ls rfl (ls rfl (ls rfl oz))), lg (ls rfl (ls rfl (ls rfl (os rfl oz)))), trivial⟩ ?_
  refine aw_seq ?_
  refine aw_seq ?_
  refine aw_region (by decide) ?_
  refine rts _ rfl (opD_move (os rfl (os rfl (os rfl (os rfl oz))))) ?_
  refine rts _ rfl (opD_lss lz (ev_const _ _)) ?_
  refine .nil ?_
  refine aw_keep [(8, _), (5, _), (4, _), (2, _), (0, _), (1, _)] ⟨lg lz, lg (ls rfl (ls rfl oz)), lg (ls rfl (ls rfl (os rfl oz))), lg (ls rfl (ls rfl (os rfl (os rfl oz)))), lg (ls rfl (ls rfl (os rfl (os rfl (os rfl oz))))), lg (ls rfl (ls rfl (os rfl (os rfl (os rfl (os rfl oz)))))), trivial⟩ ?_
  refine aw_cond _ oz (fun hc => ?_) (fun hc => ?_)
  · skip
    try simp only [decide_eq_true_eq, decide_eq_false_iff_not] at hc
    refine aw_region (by decide) ?_
    refine rts _ rfl (opD_assign (ev_const _ _)) ?_
    refine .nil ?_
    refine aw_keep [(1, _), (8, _), (5, _), (4, _), (2, _), (0, _)] ⟨lg lz, lg (ls rfl oz), lg (ls rfl (os rfl oz)), lg (ls rfl (os rfl (os rfl oz))), lg (ls rfl (os rfl (os rfl (os rfl oz)))), lg (ls rfl (os rfl (os rfl (os rfl (os rfl oz))))), trivial⟩ ?_
    refine aw_seq ?_
    refine aw_region (by decide) ?_
    refine rts _ rfl ((by first | exact opD_load_agg ag115 sz115 (os rfl (os rfl (os rfl (os rfl oz)))) (by first | exact loc_get rfl | exact old_get (by assumption)) (by simp) | exact opD_load_el_agg ag115 sz115 (os rfl (os rfl (os rfl (os rfl oz)))) (by first | assumption | simp) (by decide))) ?_
    refine rts _ rfl (opD_move (ls rfl oz)) ?_
    refine rts _ rfl (opD_conv_int (r := ((m.toNat : Nat) : Int)) Go.Proofs.Tryz.underlying3 Go.Proofs.Tryz.underlying22 lz ((IntWalk.u64_in _ (by omega)).trans (by omega))) ?_
    refine rts _ rfl (opD_pure ht45 (ref_num (most := m.toNat) hb hl (by omega)) ⟨le_of_eq (ls rfl (ls rfl lz)), le_of_eq lz, trivial⟩) ?_
    refine rts _ rfl (opD_move lz) ?_
    refine rts _ rfl (opD_extract lz rfl) ?_
    refine rts _ rfl (opD_extract (ls rfl lz) rfl) ?_
    refine rts _ rfl (opD_storeA sz115 (ls rfl (ls rfl (ls rfl (ls rfl (ls rfl (ls rfl (ls rfl (os rfl (os rfl (os rfl (os rfl oz))))))))))) (ls rfl lz) (by repeat (first | exact ones_nil | refine ones_cons (by first | exact one_pl rfl | exact one_sl _ _ _ _ | exact one_ptr _ _) ?_)) rfl rfl (Nat.le_of_ble_eq_true rfl) (List.cons_ne_nil _ _) (by repeat (first | exact bnd_nil | refine bnd_cons (by first | exact pl_bnd _ _ _ | exact sl_bnd (kI_bnd _ _ _ _) | exact ptr_bnd _ (by omega)) ?_)) (by simp only [List.nil_append, List.cons_append, List.map_cons, List.map_nil, List.set_cons_zero, List.set_cons_succ, List.take_succ_cons, List.take_zero, List.drop_succ_cons, List.drop_zero]; rfl) (by simp only [List.nil_append, List.cons_append, List.map_cons, List.map_nil, List.set_cons_zero, List.set_cons_succ, List.take_succ_cons, List.take_zero, List.drop_succ_cons, List.drop_zero]; rfl)) ?_
    refine rts _ rfl (opD_assign (lx lz)) ?_
    refine .nil ?_
    refine aw_keep [(6, _), (1, _), (8, _), (5, _), (4, _), (2, _), (0, _)] ⟨lg lz, lg (ls rfl (lx (ls rfl (ls rfl (ls rfl (ls rfl (ls rfl (ls rfl (ls rfl oz))))))))), lg (ls rfl (lx (ls rfl (ls rfl (ls rfl (ls rfl (ls rfl (ls rfl (ls rfl (os rfl oz)))))))))), lg (ls rfl (lx (ls rfl (ls rfl (ls rfl (ls rfl (ls rfl (ls rfl (ls rfl (os rfl (os rfl oz))))))))))), lg (ls rfl (lx (ls rfl (ls rfl (ls rfl (ls rfl (ls rfl (ls rfl (ls rfl (os rfl (os rfl (os rfl oz)))))))))))), lg (ls rfl (lx (ls rfl (ls rfl (ls rfl (ls rfl (ls rfl (ls rfl (ls rfl (os rfl (os rfl (os rfl (os rfl oz))))))))))))), lg (ls rfl (lx (ls rfl (ls rfl (ls rfl (ls rfl (ls rfl (ls rfl (ls rfl (os rfl (os rfl (os rfl (os rfl (os rfl oz)))))))))))))), trivial⟩ ?_
    refine aw_seq ?_
    refine aw_seq ?_
    refine aw_region (by decide) ?_
    refine rts _ rfl ((by first | exact opD_fieldAddr fo115_1 (os rfl (os rfl (os rfl (os rfl (os rfl oz))))) | exact opD_fieldAddr_el fo115_1 (os rfl (os rfl (os rfl (os rfl (os rfl oz))))))) ?_
    refine rts _ rfl ((by first | exact opD_load_one ag4 lz (by first | exact loc_get rfl | exact old_get (by assumption)) rfl | exact opD_load_el_one ag4 lz (by first | assumption | simp) rfl)) ?_
    refine rts _ rfl (opD_move lz) ?_
    refine rtg _ rfl lz (fun hg4_3 => by
        have hg4_3' := hg4_3
        try simp only [beq_iff_eq, decide_eq_true_eq, decide_eq_false_iff_not, Bool.and_eq_true, Bool.or_eq_true, Bool.or_eq_false_iff, Bool.and_eq_false_iff] at hg4_3'
        exact opD_move (ls rfl (ls rfl (ls rfl oz)))) ?_
    refine rtg _ rfl (ls rfl lz) (fun hg4_4 => by
        have hg4_4' := hg4_4
        try simp only [beq_iff_eq, decide_eq_true_eq, decide_eq_false_iff_not, Bool.and_eq_true, Bool.or_eq_true, Bool.or_eq_false_iff, Bool.and_eq_false_iff] at hg4_4'
        exact (by first | exact opD_fieldAddr fo115_0 (ls rfl (ls rfl (ls rfl (ls rfl (os rfl (os rfl (os rfl (os rfl (os rfl oz))))))))) | exact opD_fieldAddr_el fo115_0 (ls rfl (ls rfl (ls rfl (ls rfl (os rfl (os rfl (os rfl (os rfl (os rfl oz))))))))))) ?_
    refine rtg _ rfl (ls rfl (ls rfl lz)) (fun hg4_5 => by
        have hg4_5' := hg4_5
        try simp only [beq_iff_eq, decide_eq_true_eq, decide_eq_false_iff_not, Bool.and_eq_true, Bool.or_eq_true, Bool.or_eq_false_iff, Bool.and_eq_false_iff] at hg4_5'
        exact (by first | exact opD_load_one ag30 (lz.trans (pif_pos hg4_5)) (by first | exact loc_get rfl | exact old_get (by assumption) | exact hB) rfl | exact opD_load_el_one ag30 (lz.trans (pif_pos hg4_5)) (by first | assumption | simp) rfl)) ?_
    refine rtg _ rfl (ls rfl (ls rfl (ls rfl lz))) (fun hg4_6 => by
        have hg4_6' := hg4_6
        try simp only [beq_iff_eq, decide_eq_true_eq, decide_eq_false_iff_not, Bool.and_eq_true, Bool.or_eq_true, Bool.or_eq_false_iff, Bool.and_eq_false_iff] at hg4_6'
        exact opD_len_sl Go.Proofs.Tryz.underlying30 (lz.trans (pif_pos hg4_6))) ?_
    refine rtg _ rfl (ls rfl (ls rfl (ls rfl (ls rfl lz)))) (fun hg4_7 => by
        have hg4_7' := hg4_7
        try simp only [beq_iff_eq, decide_eq_true_eq, decide_eq_false_iff_not, Bool.and_eq_true, Bool.or_eq_true, Bool.or_eq_false_iff, Bool.and_eq_false_iff] at hg4_7'
        exact opD_conv_int Go.Proofs.Tryz.underlying3 Go.Proofs.Tryz.underlying22 (lz.trans (pif_pos hg4_7)) (by first | exact IntWalk.u64_in _ (by omega) | exact rfl)) ?_
    refine rtg _ rfl (ls rfl (ls rfl (ls rfl (ls rfl (ls rfl lz))))) (fun hg4_8 => by
        have hg4_8' := hg4_8
        try simp only [beq_iff_eq, decide_eq_true_eq, decide_eq_false_iff_not, Bool.and_eq_true, Bool.or_eq_true, Bool.or_eq_false_iff, Bool.and_eq_false_iff] at hg4_8'
        exact opD_gtr ((ls rfl (ls rfl (ls rfl (ls rfl lz)))).trans (pif_pos hg4_8)) (lz.trans (pif_pos hg4_8))) ?_
    refine rts _ rfl (opD_or (ls rfl (ls rfl (ls rfl (ls rfl (ls rfl (ls rfl lz)))))) lz) ?_
    refine .nil ?_
    refine aw_keep [(25, _), (6, _), (1, _), (8, _), (5, _), (4, _), (2, _), (0, _)] ⟨lg lz, lg (ls rfl (ls rfl (ls rfl (ls rfl (ls rfl (ls rfl (ls rfl (ls rfl (ls rfl (ls rfl oz)))))))))), lg (ls rfl (ls rfl (ls rfl (ls rfl (ls rfl (ls rfl (ls rfl (ls rfl (ls rfl (ls rfl (os rfl oz))))))))))), lg (ls rfl (ls rfl (ls rfl (ls rfl (ls rfl (ls rfl (ls rfl (ls rfl (ls rfl (ls rfl (os rfl (os rfl oz)))))))))))), lg (ls rfl (ls rfl (ls rfl (ls rfl (ls rfl (ls rfl (ls rfl (ls rfl (ls rfl (ls rfl (os rfl (os rfl (os rfl oz))))))))))))), lg (ls rfl (ls rfl (ls rfl (ls rfl (ls rfl (ls rfl (ls rfl (ls rfl (ls rfl (ls rfl (os rfl (os rfl (os rfl (os rfl oz)))))))))))))), lg (ls rfl (ls rfl (ls rfl (ls rfl (ls rfl (ls rfl (ls rfl (ls rfl (ls rfl (ls rfl (os rfl (os rfl (os rfl (os rfl (os rfl oz))))))))))))))), lg (ls rfl (ls rfl (ls rfl (ls rfl (ls rfl (ls rfl (ls rfl (ls rfl (ls rfl (ls rfl (os rfl (os rfl (os rfl (os rfl (os rfl (os rfl oz)))))))))))))))), trivial⟩ ?_
    refine aw_cond _ oz (fun hc => ?_) (fun hc => ?_)
    · skip
      simp only [Bool.or_eq_true, decide_eq_true_eq] at hc
      rw [refBytes_bad hc]
      refine aw_seq ?_
      refine aw_region (by decide) ?_
      refine rts _ rfl (opD_build_struct (rs := [_, _]) Go.Proofs.Tryz.underlying115 pt115 zt115 (parts_cons (cells1 (ev_const _ _) (by first | exact one_pl rfl | exact one_sl _ _ _ _ | exact one_ptr _ _ | exact one_ifc _ _)) (parts_cons (cells1 (ev_const _ _) (by first | exact one_pl rfl | exact one_sl _ _ _ _ | exact one_ptr _ _ | exact one_ifc _ _)) parts_nil)) rfl) ?_
      refine rts _ rfl (opD_storeA sz115 (ls rfl (os rfl (os rfl (os rfl (os rfl (os rfl oz)))))) lz (by repeat (first | exact ones_nil | refine ones_cons (by first | exact one_pl rfl | exact one_sl _ _ _ _ | exact one_ptr _ _) ?_)) rfl rfl (Nat.le_of_ble_eq_true rfl) (List.cons_ne_nil _ _) (by repeat (first | exact bnd_nil | refine bnd_cons (by first | exact pl_bnd _ _ _ | exact sl_bnd (kI_bnd _ _ _ _) | exact ptr_bnd _ (by omega)) ?_)) (by simp only [List.nil_append, List.cons_append, List.map_cons, List.map_nil, List.set_cons_zero, List.set_cons_succ, List.take_succ_cons, List.take_zero, List.drop_succ_cons, List.drop_zero]; rfl) (by simp only [List.nil_append, List.cons_append, List.map_cons, List.map_nil, List.set_cons_zero, List.set_cons_succ, List.take_succ_cons, List.take_zero, List.drop_succ_cons, List.drop_zero]; rfl)) ?_
      refine rts _ rfl (opD_assign (ev_const _ _)) ?_
      refine .nil ?_
      refine aw_keep [(5, _), (25, _), (6, _), (1, _), (8, _), (4, _), (2, _), (0, _)] ⟨lg lz, lg (ls rfl (lx (ls rfl oz))), lg (ls rfl (lx (ls rfl (os rfl oz)))), lg (ls rfl (lx (ls rfl (os rfl (os rfl oz))))), lg (ls rfl (lx (ls rfl (os rfl (os rfl (os rfl oz)))))), lg (ls rfl (lx (ls rfl (os rfl (os rfl (os rfl (os rfl (os rfl oz)))))))), lg (ls rfl (lx (ls rfl (os rfl (os rfl (os rfl (os rfl (os rfl (os rfl oz))))))))), lg (ls rfl (lx (ls rfl (os rfl (os rfl (os rfl (os rfl (os rfl (os rfl (os rfl oz)))))))))), trivial⟩ ?_
      refine aw_ret ?_
      exact done_ext (.inr rfl) ((res_c1 rfl ag115 sz115 (eg (os rfl (os rfl (os rfl (os rfl (os rfl oz)))))) (loc_get (i := 1) rfl) rfl (eg oz)).le (refP_le (q := any) (by first | exact .inl rfl | exact .inr ⟨rfl, rfl⟩) rfl (by first | exact le_nil rfl | exact le_sl rfl))) (rp_bnd (by first | exact pl_bnd _ _ _ | exact sl_bnd (kI_bnd _ _ _ _)) _ _)
    · skip
      simp only [Bool.or_eq_false_iff, decide_eq_false_iff_not] at hc
      obtain ⟨he, hle⟩ := refBytes_good hc
      rw [he]
      refine aw_skip ?_
      refine aw_keep [(25, _), (6, _), (1, _), (8, _), (5, _), (4, _), (2, _), (0, _)] ⟨lg oz, lg (os rfl oz), lg (os rfl (os rfl oz)), lg (os rfl (os rfl (os rfl oz))), lg (os rfl (os rfl (os rfl (os rfl oz)))), lg (os rfl (os rfl (os rfl (os rfl (os rfl oz))))), lg (os rfl (os rfl (os rfl (os rfl (os rfl (os rfl oz)))))), lg (os rfl (os rfl (os rfl (os rfl (os rfl (os rfl (os rfl oz))))))), trivial⟩ ?_
      refine aw_seq ?_
      refine aw_drawn [false, false, false, false, false, false, false, false, false, true, false] [[0], [0], [0], [0], [0], [0, 1], [0, 1], [0, 1], [0, 1], [0, 1], [1]] mixed (by decide +kernel) ?_
      refine dtp _ rfl (fun s => (by first | exact opD_fieldAddr fo115_0 (os rfl (os rfl (os rfl (os rfl (os rfl (os rfl oz)))))) | exact opD_fieldAddr_el fo115_0 (os rfl (os rfl (os rfl (os rfl (os rfl (os rfl oz)))))))) ?_
      refine dtl1 ag30 lz rfl rfl rfl ?_
      refine dtp _ rfl (fun s => opD_move (ls rfl (ls rfl (os rfl oz)))) ?_
      refine dtp _ rfl (fun s => opD_slice_from _ Go.Proofs.Tryz.underlying30 sz5 (ls rfl lz) lz rfl hle) ?_
      refine dtp _ rfl (fun s => opD_build_struct (rs := [_, _]) Go.Proofs.Tryz.underlying115 pt115 zt115 (parts_cons (cells1 lz (by first | exact one_pl rfl | exact one_sl _ _ _ _ | exact one_ptr _ _ | exact one_ifc _ _)) (parts_cons (cells1 (ev_const _ _) (by first | exact one_pl rfl | exact one_sl _ _ _ _ | exact one_ptr _ _ | exact one_ifc _ _)) parts_nil)) rfl) ?_
      refine dtp _ rfl (fun s => (by first | exact opD_fieldAddr fo115_0 (ls rfl (ls rfl (ls rfl (ls rfl (ls rfl (os rfl (os rfl (os rfl (os rfl (os rfl (os rfl oz))))))))))) | exact opD_fieldAddr_el fo115_0 (ls rfl (ls rfl (ls rfl (ls rfl (ls rfl (os rfl (os rfl (os rfl (os rfl (os rfl (os rfl oz))))))))))))) ?_
      refine dtl1 ag30 lz rfl rfl rfl ?_
      refine dtp _ rfl (fun s => opD_move (ls rfl (ls rfl (ls rfl (ls rfl (ls rfl (ls rfl (ls rfl (os rfl oz))))))))) ?_
      refine dtp _ rfl (fun s => opD_slice_to _ Go.Proofs.Tryz.underlying30 sz5 (ls rfl lz) lz rfl hle) ?_
      refine dta _ rfl (opD_storeA sz115 (ls rfl (ls rfl (ls rfl (ls rfl (ls rfl (ls rfl (ls rfl (ls rfl (ls rfl (os rfl (os rfl (os rfl (os rfl (os rfl oz)))))))))))))) (ls rfl (ls rfl (ls rfl (ls rfl lz)))) (by repeat (first | exact ones_nil | refine ones_cons (by first | exact one_pl rfl | exact one_sl _ _ _ _ | exact one_ptr _ _) ?_)) rfl rfl (Nat.le_of_ble_eq_true rfl) (List.cons_ne_nil _ _) (by repeat (first | exact bnd_nil | refine bnd_cons (by first | exact pl_bnd _ _ _ | exact sl_bnd (kI_bnd _ _ _ _) | exact ptr_bnd _ (by omega)) ?_)) (by simp only [List.nil_append, List.cons_append, List.map_cons, List.map_nil, List.set_cons_zero, List.set_cons_succ, List.take_succ_cons, List.take_zero, List.drop_succ_cons, List.drop_zero]; rfl) (by simp only [List.nil_append, List.cons_append, List.map_cons, List.map_nil, List.set_cons_zero, List.set_cons_succ, List.take_succ_cons, List.take_zero, List.drop_succ_cons, List.drop_zero]; rfl)) ?_
      refine dtp _ rfl (fun s => opD_assign (lx lz)) ?_
      refine .nil ?_
      dsimp only [List.nil_append, List.cons_append]
      refine ⟨rfl, ⟨trivial, ⟨(by first | exact loc_get rfl | exact old_get (by assumption)), trivial⟩, trivial, trivial, trivial, trivial, ⟨(by first | exact loc_get rfl | exact old_get (by assumption)), (by first | exact loc_get rfl | exact old_get (by assumption)), trivial⟩, trivial, trivial, trivial, trivial, trivial⟩, ?_⟩
      refine aw_keep [(5, _), (25, _), (6, _), (1, _), (8, _), (4, _), (2, _), (0, _)] ⟨lg lz, lg (ls rfl (lx (ls rfl (ls rfl (ls rfl (ls rfl (ls rfl (ls rfl (ls rfl (ls rfl (ls rfl oz))))))))))), lg (ls rfl (lx (ls rfl (ls rfl (ls rfl (ls rfl (ls rfl (ls rfl (ls rfl (ls rfl (ls rfl (os rfl oz)))))))))))), lg (ls rfl (lx (ls rfl (ls rfl (ls rfl (ls rfl (ls rfl (ls rfl (ls rfl (ls rfl (ls rfl (os rfl (os rfl oz))))))))))))), lg (ls rfl (lx (ls rfl (ls rfl (ls rfl (ls rfl (ls rfl (ls rfl (ls rfl (ls rfl (ls rfl (os rfl (os rfl (os rfl oz)))))))))))))), lg (ls rfl (lx (ls rfl (ls rfl (ls rfl (ls rfl (ls rfl (ls rfl (ls rfl (ls rfl (ls rfl (os rfl (os rfl (os rfl (os rfl (os rfl oz)))))))))))))))), lg (ls rfl (lx (ls rfl (ls rfl (ls rfl (ls rfl (ls rfl (ls rfl (ls rfl (ls rfl (ls rfl (os rfl (os rfl (os rfl (os rfl (os rfl (os rfl oz))))))))))))))))), lg (ls rfl (lx (ls rfl (ls rfl (ls rfl (ls rfl (ls rfl (ls rfl (ls rfl (ls rfl (ls rfl (os rfl (os rfl (os rfl (os rfl (os rfl (os rfl (os rfl oz)))))))))))))))))), trivial⟩ ?_
      refine aw_ret ?_
      exact done_ext (.inr rfl) ((res_c1 rfl ag115 sz115 (eg (os rfl (os rfl (os rfl (os rfl (os rfl oz)))))) (loc_get (i := 1) rfl) rfl (eg oz)).le (refP_le (q := any) (by first | exact .inl rfl | exact .inr ⟨rfl, rfl⟩) rfl (by first | exact le_nil rfl | exact le_sl rfl))) (rp_bnd (by first | exact pl_bnd _ _ _ | exact sl_bnd (kI_bnd _ _ _ _)) _ _)
  · skip
    try simp only [decide_eq_true_eq, decide_eq_false_iff_not] at hc
    refine aw_skip ?_
    refine aw_keep [(8, _), (5, _), (4, _), (2, _), (0, _), (1, _)] ⟨lg oz, lg (os rfl oz), lg (os rfl (os rfl oz)), lg (os rfl (os rfl (os rfl oz))), lg (os rfl (os rfl (os rfl (os rfl oz)))), lg (os rfl (os rfl (os rfl (os rfl (os rfl oz))))), trivial⟩ ?_
    refine aw_seq ?_
    refine aw_region (by decide) ?_
    refine rts _ rfl ((by first | exact opD_load_agg ag115 sz115 (os rfl (os rfl (os rfl oz))) (by first | exact loc_get rfl | exact old_get (by assumption)) (by simp) | exact opD_load_el_agg ag115 sz115 (os rfl (os rfl (os rfl oz))) (by first | assumption | simp) (by decide))) ?_
    refine rts _ rfl (opD_move (ls rfl (os rfl (os rfl (os rfl (os rfl (os rfl oz))))))) ?_
    refine rts _ rfl (opD_conv_int (r := ((m.toNat : Nat) : Int)) Go.Proofs.Tryz.underlying3 Go.Proofs.Tryz.underlying22 lz ((IntWalk.u64_in _ (by omega)).trans (by omega))) ?_
    refine rts _ rfl (opD_pure ht45 (ref_num (most := m.toNat) hb hl (by omega)) ⟨le_of_eq (ls rfl (ls rfl lz)), le_of_eq lz, trivial⟩) ?_
    refine rts _ rfl (opD_move lz) ?_
    refine rts _ rfl (opD_extract lz rfl) ?_
    refine rts _ rfl (opD_extract (ls rfl lz) rfl) ?_
    refine rts _ rfl (opD_storeA sz115 (ls rfl (ls rfl (ls rfl (ls rfl (ls rfl (ls rfl (ls rfl (os rfl (os rfl (os rfl oz)))))))))) (ls rfl lz) (by repeat (first | exact ones_nil | refine ones_cons (by first | exact one_pl rfl | exact one_sl _ _ _ _ | exact one_ptr _ _) ?_)) rfl rfl (Nat.le_of_ble_eq_true rfl) (List.cons_ne_nil _ _) (by repeat (first | exact bnd_nil | refine bnd_cons (by first | exact pl_bnd _ _ _ | exact sl_bnd (kI_bnd _ _ _ _) | exact ptr_bnd _ (by omega)) ?_)) (by simp only [List.nil_append, List.cons_append, List.map_cons, List.map_nil, List.set_cons_zero, List.set_cons_succ, List.take_succ_cons, List.take_zero, List.drop_succ_cons, List.drop_zero]; rfl) (by simp only [List.nil_append, List.cons_append, List.map_cons, List.map_nil, List.set_cons_zero, List.set_cons_succ, List.take_succ_cons, List.take_zero, List.drop_succ_cons, List.drop_zero]; rfl)) ?_
    refine rts _ rfl (opD_assign (lx lz)) ?_
    refine .nil ?_
    refine aw_keep [(6, _), (8, _), (5, _), (4, _), (2, _), (0, _), (1, _)] ⟨lg lz, lg (ls rfl (lx (ls rfl (ls rfl (ls rfl (ls rfl (ls rfl (ls rfl (ls rfl oz))))))))), lg (ls rfl (lx (ls rfl (ls rfl (ls rfl (ls rfl (ls rfl (ls rfl (ls rfl (os rfl oz)))))))))), lg (ls rfl (lx (ls rfl (ls rfl (ls rfl (ls rfl (ls rfl (ls rfl (ls rfl (os rfl (os rfl oz))))))))))), lg (ls rfl (lx (ls rfl (ls rfl (ls rfl (ls rfl (ls rfl (ls rfl (ls rfl (os rfl (os rfl (os rfl oz)))))))))))), lg (ls rfl (lx (ls rfl (ls rfl (ls rfl (ls rfl (ls rfl (ls rfl (ls rfl (os rfl (os rfl (os rfl (os rfl oz))))))))))))), lg (ls rfl (lx (ls rfl (ls rfl (ls rfl (ls rfl (ls rfl (ls rfl (ls rfl (os rfl (os rfl (os rfl (os rfl (os rfl oz)))))))))))))), trivial⟩ ?_
    refine aw_seq ?_
    refine aw_seq ?_
    refine aw_region (by decide) ?_
    refine rts _ rfl ((by first | exact opD_fieldAddr fo115_1 (os rfl (os rfl (os rfl (os rfl oz)))) | exact opD_fieldAddr_el fo115_1 (os rfl (os rfl (os rfl (os rfl oz)))))) ?_
    refine rts _ rfl ((by first | exact opD_load_one ag4 lz (by first | exact loc_get rfl | exact old_get (by assumption)) rfl | exact opD_load_el_one ag4 lz (by first | assumption | simp) rfl)) ?_
    refine rts _ rfl (opD_move lz) ?_
    refine rtg _ rfl lz (fun hg4_3 => by
        have hg4_3' := hg4_3
        try simp only [beq_iff_eq, decide_eq_true_eq, decide_eq_false_iff_not, Bool.and_eq_true, Bool.or_eq_true, Bool.or_eq_false_iff, Bool.and_eq_false_iff] at hg4_3'
        exact opD_move (ls rfl (ls rfl (ls rfl oz)))) ?_
    refine rtg _ rfl (ls rfl lz) (fun hg4_4 => by
        have hg4_4' := hg4_4
        try simp only [beq_iff_eq, decide_eq_true_eq, decide_eq_false_iff_not, Bool.and_eq_true, Bool.or_eq_true, Bool.or_eq_false_iff, Bool.and_eq_false_iff] at hg4_4'
        exact (by first | exact opD_fieldAddr fo115_0 (ls rfl (ls rfl (ls rfl (ls rfl (os rfl (os rfl (os rfl (os rfl oz)))))))) | exact opD_fieldAddr_el fo115_0 (ls rfl (ls rfl (ls rfl (ls rfl (os rfl (os rfl (os rfl (os rfl oz)))))))))) ?_
    refine rtg _ rfl (ls rfl (ls rfl lz)) (fun hg4_5 => by
        have hg4_5' := hg4_5
        try simp only [beq_iff_eq, decide_eq_true_eq, decide_eq_false_iff_not, Bool.and_eq_true, Bool.or_eq_true, Bool.or_eq_false_iff, Bool.and_eq_false_iff] at hg4_5'
        exact (by first | exact opD_load_one ag30 (lz.trans (pif_pos hg4_5)) (by first | exact loc_get rfl | exact old_get (by assumption) | exact hB) rfl | exact opD_load_el_one ag30 (lz.trans (pif_pos hg4_5)) (by first | assumption | simp) rfl)) ?_
    refine rtg _ rfl (ls rfl (ls rfl (ls rfl lz))) (fun hg4_6 => by
        have hg4_6' := hg4_6
        try simp only [beq_iff_eq, decide_eq_true_eq, decide_eq_false_iff_not, Bool.and_eq_true, Bool.or_eq_true, Bool.or_eq_false_iff, Bool.and_eq_false_iff] at hg4_6'
        exact opD_len_sl Go.Proofs.Tryz.underlying30 (lz.trans (pif_pos hg4_6))) ?_
    refine rtg _ rfl (ls rfl (ls rfl (ls rfl (ls rfl lz)))) (fun hg4_7 => by
        have hg4_7' := hg4_7
        try simp only [beq_iff_eq, decide_eq_true_eq, decide_eq_false_iff_not, Bool.and_eq_true, Bool.or_eq_true, Bool.or_eq_false_iff, Bool.and_eq_false_iff] at hg4_7'
        exact opD_conv_int Go.Proofs.Tryz.underlying3 Go.Proofs.Tryz.underlying22 (lz.trans (pif_pos hg4_7)) (by first | exact IntWalk.u64_in _ (by omega) | exact rfl)) ?_
    refine rtg _ rfl (ls rfl (ls rfl (ls rfl (ls rfl (ls rfl lz))))) (fun hg4_8 => by
        have hg4_8' := hg4_8
        try simp only [beq_iff_eq, decide_eq_true_eq, decide_eq_false_iff_not, Bool.and_eq_true, Bool.or_eq_true, Bool.or_eq_false_iff, Bool.and_eq_false_iff] at hg4_8'
        exact opD_gtr ((ls rfl (ls rfl (ls rfl (ls rfl lz)))).trans (pif_pos hg4_8)) (lz.trans (pif_pos hg4_8))) ?_
    refine rts _ rfl (opD_or (ls rfl (ls rfl (ls rfl (ls rfl (ls rfl (ls rfl lz)))))) lz) ?_
    refine .nil ?_
    refine aw_keep [(25, _), (6, _), (8, _), (5, _), (4, _), (2, _), (0, _), (1, _)] ⟨lg lz, lg (ls rfl (ls rfl (ls rfl (ls rfl (ls rfl (ls rfl (ls rfl (ls rfl (ls rfl (ls rfl oz)))))))))), lg (ls rfl (ls rfl (ls rfl (ls rfl (ls rfl (ls rfl (ls rfl (ls rfl (ls rfl (ls rfl (os rfl oz))))))))))), lg (ls rfl (ls rfl (ls rfl (ls rfl (ls rfl (ls rfl (ls rfl (ls rfl (ls rfl (ls rfl (os rfl (os rfl oz)))))))))))), lg (ls rfl (ls rfl (ls rfl (ls rfl (ls rfl (ls rfl (ls rfl (ls rfl (ls rfl (ls rfl (os rfl (os rfl (os rfl oz))))))))))))), lg (ls rfl (ls rfl (ls rfl (ls rfl (ls rfl (ls rfl (ls rfl (ls rfl (ls rfl (ls rfl (os rfl (os rfl (os rfl (os rfl oz)))))))))))))), lg (ls rfl (ls rfl (ls rfl (ls rfl (ls rfl (ls rfl (ls rfl (ls rfl (ls rfl (ls rfl (os rfl (os rfl (os rfl (os rfl (os rfl oz))))))))))))))), lg (ls rfl (ls rfl (ls rfl (ls rfl (ls rfl (ls rfl (ls rfl (ls rfl (ls rfl (ls rfl (os rfl (os rfl (os rfl (os rfl (os rfl (os rfl oz)))))))))))))))), trivial⟩ ?_
    refine aw_cond _ oz (fun hc => ?_) (fun hc => ?_)
    · skip
      simp only [Bool.or_eq_true, decide_eq_true_eq] at hc
      rw [refBytes_bad hc]
      refine aw_seq ?_
      refine aw_region (by decide) ?_
      refine rts _ rfl (opD_build_struct (rs := [_, _]) Go.Proofs.Tryz.underlying115 pt115 zt115 (parts_cons (cells1 (ev_const _ _) (by first | exact one_pl rfl | exact one_sl _ _ _ _ | exact one_ptr _ _ | exact one_ifc _ _)) (parts_cons (cells1 (ev_const _ _) (by first | exact one_pl rfl | exact one_sl _ _ _ _ | exact one_ptr _ _ | exact one_ifc _ _)) parts_nil)) rfl) ?_
      refine rts _ rfl (opD_storeA sz115 (ls rfl (os rfl (os rfl (os rfl (os rfl oz))))) lz (by repeat (first | exact ones_nil | refine ones_cons (by first | exact one_pl rfl | exact one_sl _ _ _ _ | exact one_ptr _ _) ?_)) rfl rfl (Nat.le_of_ble_eq_true rfl) (List.cons_ne_nil _ _) (by repeat (first | exact bnd_nil | refine bnd_cons (by first | exact pl_bnd _ _ _ | exact sl_bnd (kI_bnd _ _ _ _) | exact ptr_bnd _ (by omega)) ?_)) (by simp only [List.nil_append, List.cons_append, List.map_cons, List.map_nil, List.set_cons_zero, List.set_cons_succ, List.take_succ_cons, List.take_zero, List.drop_succ_cons, List.drop_zero]; rfl) (by simp only [List.nil_append, List.cons_append, List.map_cons, List.map_nil, List.set_cons_zero, List.set_cons_succ, List.take_succ_cons, List.take_zero, List.drop_succ_cons, List.drop_zero]; rfl)) ?_
      refine rts _ rfl (opD_assign (ev_const _ _)) ?_
      refine .nil ?_
      refine aw_keep [(5, _), (25, _), (6, _), (8, _), (4, _), (2, _), (0, _), (1, _)] ⟨lg lz, lg (ls rfl (lx (ls rfl oz))), lg (ls rfl (lx (ls rfl (os rfl oz)))), lg (ls rfl (lx (ls rfl (os rfl (os rfl oz))))), lg (ls rfl (lx (ls rfl (os rfl (os rfl (os rfl (os rfl oz))))))), lg (ls rfl (lx (ls rfl (os rfl (os rfl (os rfl (os rfl (os rfl oz)))))))), lg (ls rfl (lx (ls rfl (os rfl (os rfl (os rfl (os rfl (os rfl (os rfl oz))))))))), lg (ls rfl (lx (ls rfl (os rfl (os rfl (os rfl (os rfl (os rfl (os rfl (os rfl oz)))))))))), trivial⟩ ?_
      refine aw_ret ?_
      exact done_ext (.inr rfl) ((res_c1 rfl ag115 sz115 (eg (os rfl (os rfl (os rfl (os rfl oz))))) (loc_get (i := 1) rfl) rfl (eg oz)).le (refP_le (q := any) (by first | exact .inl rfl | exact .inr ⟨rfl, rfl⟩) rfl (by first | exact le_nil rfl | exact le_sl rfl))) (rp_bnd (by first | exact pl_bnd _ _ _ | exact sl_bnd (kI_bnd _ _ _ _)) _ _)
    · skip
      simp only [Bool.or_eq_false_iff, decide_eq_false_iff_not] at hc
      obtain ⟨he, hle⟩ := refBytes_good hc
      rw [he]
      refine aw_skip ?_
      refine aw_keep [(25, _), (6, _), (8, _), (5, _), (4, _), (2, _), (0, _), (1, _)] ⟨lg oz, lg (os rfl oz), lg (os rfl (os rfl oz)), lg (os rfl (os rfl (os rfl oz))), lg (os rfl (os rfl (os rfl (os rfl oz)))), lg (os rfl (os rfl (os rfl (os rfl (os rfl oz))))), lg (os rfl (os rfl (os rfl (os rfl (os rfl (os rfl oz)))))), lg (os rfl (os rfl (os rfl (os rfl (os rfl (os rfl (os rfl oz))))))), trivial⟩ ?_
      refine aw_seq ?_
      refine aw_drawn [false, false, false, false, false, false, false, false, false, true, false] [[0], [0], [0], [0], [0], [0, 1], [0, 1], [0, 1], [0, 1], [0, 1], [1]] mixed (by decide +kernel) ?_
      refine dtp _ rfl (fun s => (by first | exact opD_fieldAddr fo115_0 (os rfl (os rfl (os rfl (os rfl (os rfl oz))))) | exact opD_fieldAddr_el fo115_0 (os rfl (os rfl (os rfl (os rfl (os rfl oz))))))) ?_
      refine dtl1 ag30 lz rfl rfl rfl ?_
      refine dtp _ rfl (fun s => opD_move (ls rfl (ls rfl (os rfl oz)))) ?_
      refine dtp _ rfl (fun s => opD_slice_from _ Go.Proofs.Tryz.underlying30 sz5 (ls rfl lz) lz rfl hle) ?_
      refine dtp _ rfl (fun s => opD_build_struct (rs := [_, _]) Go.Proofs.Tryz.underlying115 pt115 zt115 (parts_cons (cells1 lz (by first | exact one_pl rfl | exact one_sl _ _ _ _ | exact one_ptr _ _ | exact one_ifc _ _)) (parts_cons (cells1 (ev_const _ _) (by first | exact one_pl rfl | exact one_sl _ _ _ _ | exact one_ptr _ _ | exact one_ifc _ _)) parts_nil)) rfl) ?_
      refine dtp _ rfl (fun s => (by first | exact opD_fieldAddr fo115_0 (ls rfl (ls rfl (ls rfl (ls rfl (ls rfl (os rfl (os rfl (os rfl (os rfl (os rfl oz)))))))))) | exact opD_fieldAddr_el fo115_0 (ls rfl (ls rfl (ls rfl (ls rfl (ls rfl (os rfl (os rfl (os rfl (os rfl (os rfl oz)))))))))))) ?_
      refine dtl1 ag30 lz rfl rfl rfl ?_
      refine dtp _ rfl (fun s => opD_move (ls rfl (ls rfl (ls rfl (ls rfl (ls rfl (ls rfl (ls rfl (os rfl oz))))))))) ?_
      refine dtp _ rfl (fun s => opD_slice_to _ Go.Proofs.Tryz.underlying30 sz5 (ls rfl lz) lz rfl hle) ?_
      refine dta _ rfl (opD_storeA sz115 (ls rfl (ls rfl (ls rfl (ls rfl (ls rfl (ls rfl (ls rfl (ls rfl (ls rfl (os rfl (os rfl (os rfl (os rfl oz))))))))))))) (ls rfl (ls rfl (ls rfl (ls rfl lz)))) (by repeat (first | exact ones_nil | refine ones_cons (by first | exact one_pl rfl | exact one_sl _ _ _ _ | exact one_ptr _ _) ?_)) rfl rfl (Nat.le_of_ble_eq_true rfl) (List.cons_ne_nil _ _) (by repeat (first | exact bnd_nil | refine bnd_cons (by first | exact pl_bnd _ _ _ | exact sl_bnd (kI_bnd _ _ _ _) | exact ptr_bnd _ (by omega)) ?_)) (by simp only [List.nil_append, List.cons_append, List.map_cons, List.map_nil, List.set_cons_zero, List.set_cons_succ, List.take_succ_cons, List.take_zero, List.drop_succ_cons, List.drop_zero]; rfl) (by simp only [List.nil_append, List.cons_append, List.map_cons, List.map_nil, List.set_cons_zero, List.set_cons_succ, List.take_succ_cons, List.take_zero, List.drop_succ_cons, List.drop_zero]; rfl)) ?_
      refine dtp _ rfl (fun s => opD_assign (lx lz)) ?_
      refine .nil ?_
      dsimp only [List.nil_append, List.cons_append]
      refine ⟨rfl, ⟨trivial, ⟨(by first | exact loc_get rfl | exact old_get (by assumption)), trivial⟩, trivial, trivial, trivial, trivial, ⟨(by first | exact loc_get rfl | exact old_get (by assumption)), (by first | exact loc_get rfl | exact old_get (by assumption)), trivial⟩, trivial, trivial, trivial, trivial, trivial⟩, ?_⟩
      refine aw_keep [(5, _), (25, _), (6, _), (8, _), (4, _), (2, _), (0, _), (1, _)] ⟨lg lz, lg (ls rfl (lx (ls rfl (ls rfl (ls rfl (ls rfl (ls rfl (ls rfl (ls rfl (ls rfl (ls rfl oz))))))))))), lg (ls rfl (lx (ls rfl (ls rfl (ls rfl (ls rfl (ls rfl (ls rfl (ls rfl (ls rfl (ls rfl (os rfl oz)))))))))))), lg (ls rfl (lx (ls rfl (ls rfl (ls rfl (ls rfl (ls rfl (ls rfl (ls rfl (ls rfl (ls rfl (os rfl (os rfl oz))))))))))))), lg (ls rfl (lx (ls rfl (ls rfl (ls rfl (ls rfl (ls rfl (ls rfl (ls rfl (ls rfl (ls rfl (os rfl (os rfl (os rfl (os rfl oz))))))))))))))), lg (ls rfl (lx (ls rfl (ls rfl (ls rfl (ls rfl (ls rfl (ls rfl (ls rfl (ls rfl (ls rfl (os rfl (os rfl (os rfl (os rfl (os rfl oz)))))))))))))))), lg (ls rfl (lx (ls rfl (ls rfl (ls rfl (ls rfl (ls rfl (ls rfl (ls rfl (ls rfl (ls rfl (os rfl (os rfl (os rfl (os rfl (os rfl (os rfl oz))))))))))))))))), lg (ls rfl (lx (ls rfl (ls rfl (ls rfl (ls rfl (ls rfl (ls rfl (ls rfl (ls rfl (ls rfl (os rfl (os rfl (os rfl (os rfl (os rfl (os rfl (os rfl oz)))))))))))))))))), trivial⟩ ?_
      refine aw_ret ?_
      exact done_ext (.inr rfl) ((res_c1 rfl ag115 sz115 (eg (os rfl (os rfl (os rfl (os rfl oz))))) (loc_get (i := 1) rfl) rfl (eg oz)).le (refP_le (q := any) (by first | exact .inl rfl | exact .inr ⟨rfl, rfl⟩) rfl (by first | exact le_nil rfl | exact le_sl rfl))) (rp_bnd (by first | exact pl_bnd _ _ _ | exact sl_bnd (kI_bnd _ _ _ _)) _ _)
end Go.Proofs.YtokcgacehdgkcaaGreatDoor.Eng.Rf06

