/- TLg: what the functions of one package do, walked; used by the laws of this seat. -/
import Derived.Test.YtmnhfpcbfdgbcaaDoorTRf
import Derived.Test.YtmnhfpcbfdgbcaaDoorEngS
namespace Go.Proofs.YtmnhfpcbfdgbcaaDoor.Eng.Lg
set_option linter.unusedVariables false
set_option linter.unusedSimpArgs false
open Go.RowKit Go.Proofs.YtmnhfpcbfdgbcaaDoor.Plain Go.Proofs.YtmnhfpcbfdgbcaaDoor.Eng

theorem ag22 : aggT Go.Proofs.Tryd.prog 22 = some false := by kernel_rfl
theorem ag5 : aggT Go.Proofs.Tryd.prog 5 = some false := by kernel_rfl
theorem ag58 : aggT Go.Proofs.Tryd.prog 58 = some false := by kernel_rfl
theorem ag9 : aggT Go.Proofs.Tryd.prog 9 = some false := by kernel_rfl
theorem sz63 : sizeT Go.Proofs.Tryd.prog 63 = some 5 := by kernel_rfl
theorem zt63 : zeroT Go.Proofs.Tryd.prog 63 = some [.int .u64 0, .int .u64 0, .int .u8 0, .int .u16 0, .string ⟨#[]⟩] := by kernel_rfl
theorem el63 : elT Go.Proofs.Tryd.prog 63 = some (5, 40) := by kernel_rfl
theorem fo63_1 : fieldOff Go.Proofs.Tryd.prog 63 1 = some 1 := by kernel_rfl
theorem fo63_4 : fieldOff Go.Proofs.Tryd.prog 63 4 = some 4 := by kernel_rfl
theorem fo60_1 : fieldOff Go.Proofs.Tryd.prog 60 1 = some 1 := by kernel_rfl
theorem fo60_4 : fieldOff Go.Proofs.Tryd.prog 60 4 = some 4 := by kernel_rfl

open Go.Proofs.YtmnhfpcbfdgbcaaDoor.Eng.Pk Go.Proofs.YtmnhfpcbfdgbcaaDoor.Eng.Rd Go.Proofs.YtmnhfpcbfdgbcaaDoor.Eng.Pb Go.Proofs.YtmnhfpcbfdgbcaaDoor.Eng.Er Go.Proofs.YtmnhfpcbfdgbcaaDoor.Eng.Rf06
/-- A line. -/
@[ext] structure Ln where
  seq : Nat
  who : Nat
  what : Int
  code : Nat
  key : ByteArray
instance : DecidableEq Ln := fun x y => decidable_of_iff (x.seq = y.seq ∧ x.who = y.who ∧ x.what = y.what ∧ x.code = y.code ∧ x.key = y.key) Ln.ext_iff.symm
def kL : Kn Ln := ⟨5, fun x => [pl (.int .u64 (x.seq : Int)), pl (.int .u64 (x.who : Int)), pl (.int .u8 x.what), pl (.int .u16 (x.code : Int)), pl (.string x.key)], fun _ => rfl, fun x p hp g w v h => by
  simp only [List.mem_cons, List.not_mem_nil, or_false] at hp
  rcases hp with rfl | rfl | rfl | rfl | rfl <;> (rw [show v = _ from h]; rfl)⟩
theorem kL_bnd (l : List Ln) (n m : Nat) : ∀ x ∈ l, ∀ p ∈ kL.cs x, p.Bnd n m := fun x _ p hp => by
  simp only [kL, List.mem_cons, List.not_mem_nil, or_false] at hp
  rcases hp with rfl | rfl | rfl | rfl | rfl <;> exact pl_bnd _ _ _
def lnP (x : Ln) : Pd := agg [pl (.int .u64 (x.seq : Int)), pl (.int .u64 (x.who : Int)), pl (.int .u8 x.what), pl (.int .u16 (x.code : Int)), pl (.string x.key)]
def lnA (x : Ln) : Array Value := [.int .u64 (x.seq : Int), .int .u64 (x.who : Int), .int .u8 x.what, .int .u16 (x.code : Int), .string x.key].toArray
theorem lnP_bnd (x : Ln) (n m : Nat) : (lnP x).Bnd n m := agg_bnd (kL_bnd [x] n m x List.mem_cons_self)
def lgP (d : Nat) (l : List Ln) : Pd := agg [pl (.int .u64 (d : Int)), sl kL none none l]
theorem lgP_bnd (d : Nat) (l : List Ln) (n m : Nat) : (lgP d l).Bnd n m := agg_bnd (bnd_cons (pl_bnd _ _ _) (bnd_cons (sl_bnd (kL_bnd _ _ _)) bnd_nil))
def LnOk (x : Ln) : Prop := x.seq < 18446744073709551616 ∧ x.who < 18446744073709551616 ∧ (0 ≤ x.what ∧ x.what < 256) ∧ x.code < 65536 ∧ x.key.size ≤ 9223372036854775807
def mayB (x : Ln) : Bool := decide (x.who ≤ 4611686018427387904) && decide (x.key.size ≤ 40)
def LgOk (d : Nat) (l : List Ln) : Prop := d ≤ 4611686018427387904 ∧ l.length ≤ 32 ∧ (l.length < 32 → d = 0) ∧ ∀ (i : Nat) (x : Ln), l[i]? = some x → mayB x = true ∧ x.seq = d + i + 1
noncomputable def lgOk (d : Nat) (l : List Ln) : Bool := @decide (LgOk d l) (Classical.propDecidable _)
theorem lgOk_t {d : Nat} {l : List Ln} (h : LgOk d l) : lgOk d l = true := by unfold lgOk; exact @decide_eq_true _ (Classical.propDecidable _) h
theorem lgOk_f {d : Nat} {l : List Ln} (h : ¬ LgOk d l) : lgOk d l = false := by unfold lgOk; exact @decide_eq_false _ (Classical.propDecidable _) h
theorem lgOk_iff {d : Nat} {l : List Ln} : lgOk d l = true ↔ LgOk d l := by
  by_cases h : LgOk d l
  · simp [lgOk_t h, h]
  · simp [lgOk_f h, h]
/-- What a check of a ledger says. -/
noncomputable def lgE (d : Nat) (l : List Ln) : Option Int := if lgOk d l = true then none else some 1
theorem lgE_f {d : Nat} {l : List Ln} (h : ¬ LgOk d l) : lgE d l = some 1 := by simp [lgE, lgOk_f h]
theorem lgE_t {d : Nat} {l : List Ln} (h : LgOk d l) : lgE d l = none := by simp [lgE, lgOk_t h]
theorem ln_at {l : List Ln} (h : ∀ x ∈ l, LnOk x) {i : Nat} (hi : i < l.length) : ∃ x, l[i]? = some x ∧ LnOk x := ⟨l[i], List.getElem?_eq_getElem hi, h _ (List.getElem_mem hi)⟩
theorem ln_cmp (x y : Ln) (w : World) : (binOp .eql 63 (.agg (lnA x)) (.agg (lnA y))).run Go.Proofs.Tryd.prog w = .ok (.bool (decide (x = y))) w ∧ (binOp .neq 63 (.agg (lnA x)) (.agg (lnA y))).run Go.Proofs.Tryd.prog w = .ok (.bool (!decide (x = y))) w := by
  have h := eqS (xs := lnA x) (ys := lnA y) (w := w) Go.Proofs.Tryd.underlying63 (by kernel_rfl) (eqf_cons (by decide) (run_part_one ag22 rfl w) (run_part_one ag22 rfl w) (run_equalIn_int w _ _ _ _ _ _ Go.Proofs.Tryd.underlying22)
    (eqf_cons (by decide) (run_part_one ag22 rfl w) (run_part_one ag22 rfl w) (run_equalIn_int w _ _ _ _ _ _ Go.Proofs.Tryd.underlying22) (eqf_cons (by decide) (run_part_one ag5 rfl w) (run_part_one ag5 rfl w) (run_equalIn_int w _ _ _ _ _ _ Go.Proofs.Tryd.underlying5)
    (eqf_cons (by decide) (run_part_one ag58 rfl w) (run_part_one ag58 rfl w) (run_equalIn_int w _ _ _ _ _ _ Go.Proofs.Tryd.underlying58) (eqf_cons (by decide) (run_part_one ag9 rfl w) (run_part_one ag9 rfl w) (run_equalIn_string w _ _ _ _ Go.Proofs.Tryd.underlying9) eqf_nil)))))
  have he : ((((x.seq : Int) == (y.seq : Int)) && (((x.who : Int) == (y.who : Int)) && ((x.what == y.what) && (((x.code : Int) == (y.code : Int)) && ((x.key.toList == y.key.toList) && true)))))) = decide (x = y) := by
    rw [str_beq, Bool.eq_iff_iff]
    simp only [Bool.and_eq_true, beq_iff_eq, decide_eq_true_eq, Ln.ext_iff, Int.natCast_inj, and_true]
  rw [he] at h
  exact h

set_option maxRecDepth 100000 in
set_option maxHeartbeats 1000000 in
theorem clone_l_nil : Own1 Go.Proofs.Tryd.prog 93 [sl kL none (some true) ([] : List Ln)] kL 63 none ([] : List Ln) := by
  intro s
  refine ac_of_aw s.boxes.length (s.fr.length + 1) Go.Proofs.Tryd.func93 rfl (by simp [Go.Proofs.Tryd.ntmps93]) ?_
  refine aw_ext0 ?_
  refine aw_keep [(0, _)] ⟨lg ez, trivial⟩ ?_
  refine aw_seq ?_
  refine aw_region (by decide) ?_
  refine rts _ rfl (opD_assign (ev_const _ _)) ?_
  refine .nil ?_
  refine aw_keep [(2, _), (0, _)] ⟨lg lz, lg (ls rfl oz), trivial⟩ ?_
  refine aw_seq ?_
  refine aw_seq ?_
  refine aw_region (by decide) ?_
  refine rts _ rfl (opD_move (os rfl oz)) ?_
  refine rts _ rfl (opD_eqnil Go.Proofs.Tryd.underlying55 lz) ?_
  refine .nil ?_
  refine aw_keep [(4, _), (2, _), (0, _)] ⟨lg lz, lg (ls rfl (ls rfl oz)), lg (ls rfl (ls rfl (os rfl oz))), trivial⟩ ?_
  refine aw_cond _ oz (fun hc => ?_) (fun hc => ?_)
  · skip
    refine aw_fr ⟨63, 5, 0⟩ ?_
    refine aw_seq ?_
    refine aw_region (by decide) ?_
    refine rts _ rfl (opD_assign (ev_const _ _)) ?_
    refine .nil ?_
    refine aw_keep [(2, _), (4, _), (0, _)] ⟨lg lz, lg (ls rfl oz), lg (ls rfl (os rfl (os rfl oz))), trivial⟩ ?_
    refine aw_ret ?_
    exact done_own (.inr rfl) ((res_1 rfl (eg oz)).le ((nil_le _ _).trans (sl_nl _ _ _ _))) rfl (kL_bnd _ _ _)
  · skip
    exfalso; revert hc; simp

set_option maxRecDepth 100000 in
set_option maxHeartbeats 1000000 in
theorem clone_l_some {l : List Ln} (hl : l.length * 40 ≤ 140737488355328) (hl2 : l.length ≤ 140737488355328) : Own1 Go.Proofs.Tryd.prog 93 [sl kL none (some false) l] kL 63 none l := by
  intro s
  refine ac_of_aw s.boxes.length (s.fr.length + 1) Go.Proofs.Tryd.func93 rfl (by simp [Go.Proofs.Tryd.ntmps93]) ?_
  refine aw_ext0 ?_
  refine aw_keep [(0, _)] ⟨lg ez, trivial⟩ ?_
  refine aw_seq ?_
  refine aw_region (by decide) ?_
  refine rts _ rfl (opD_assign (ev_const _ _)) ?_
  refine .nil ?_
  refine aw_keep [(2, _), (0, _)] ⟨lg lz, lg (ls rfl oz), trivial⟩ ?_
  refine aw_seq ?_
  refine aw_seq ?_
  refine aw_region (by decide) ?_
  refine rts _ rfl (opD_move (os rfl oz)) ?_
  refine rts _ rfl (opD_eqnil Go.Proofs.Tryd.underlying55 lz) ?_
  refine .nil ?_
  refine aw_keep [(4, _), (2, _), (0, _)] ⟨lg lz, lg (ls rfl (ls rfl oz)), lg (ls rfl (ls rfl (os rfl oz))), trivial⟩ ?_
  refine aw_cond _ oz (fun hc => ?_) (fun hc => ?_)
  · skip
    exfalso; revert hc; simp
  · skip
    refine aw_skip ?_
    refine aw_keep [(4, _), (2, _), (0, _)] ⟨lg oz, lg (os rfl oz), lg (os rfl (os rfl oz)), trivial⟩ ?_
    refine aw_seq ?_
    refine aw_region (by decide) ?_
    refine rts _ rfl (opD_buildEmpty (k := kL) Go.Proofs.Tryd.underlying55 sz63 zt63 rfl (by first | exact List.length_nil | (simp only [List.length_cons, List.length_nil, Nat.zero_add, Nat.reduceAdd]; rfl)) (by simp only [List.nil_append, List.cons_append, List.map_cons, List.map_nil, List.set_cons_zero, List.set_cons_succ, List.take_succ_cons, List.take_zero, List.drop_succ_cons, List.drop_zero]; rfl)) ?_
    refine rts _ rfl (opD_move (ls rfl (os rfl (os rfl oz)))) ?_
    refine rts _ rfl ((by first | exact opD_appendX Go.Proofs.Tryd.underlying55 el63 (ls rfl lz) lz rfl (by first | omega | (simp only [List.length_cons, List.length_nil, List.length_append]; omega)) (by first | omega | (simp only [List.length_cons, List.length_nil, List.length_append]; omega)) (by first | (with_reducible exact List.nil_append _) | exact rfl) (by simp only [List.nil_append, List.cons_append, List.map_cons, List.map_nil, List.set_cons_zero, List.set_cons_succ, List.take_succ_cons, List.take_zero, List.drop_succ_cons, List.drop_zero]; rfl) | exact opD_appendN (k := kL) Go.Proofs.Tryd.underlying55 el63 (ls rfl lz) lz (by first | omega | (simp only [List.length_cons, List.length_nil, List.length_append]; omega)) (by first | omega | (simp only [List.length_cons, List.length_nil, List.length_append]; omega)) (by first | exact List.length_nil | (simp only [List.length_cons, List.length_nil, Nat.zero_add, Nat.reduceAdd]; rfl)) (by simp only [List.nil_append, List.cons_append, List.map_cons, List.map_nil, List.set_cons_zero, List.set_cons_succ, List.take_succ_cons, List.take_zero, List.drop_succ_cons, List.drop_zero]; rfl))) ?_
    refine rts _ rfl (opD_assign lz) ?_
    refine .nil ?_
    refine aw_keep [(2, _), (4, _), (0, _)] ⟨lg lz, lg (ls rfl (ls rfl (ls rfl (ls rfl oz)))), lg (ls rfl (ls rfl (ls rfl (ls rfl (os rfl (os rfl oz)))))), trivial⟩ ?_
    refine aw_ret ?_
    exact done_own (.inr rfl) (res_1 rfl (eg oz)) rfl (kL_bnd _ _ _)

theorem clone_l {l : List Ln} (hl : l.length * 40 ≤ 140737488355328) (hl2 : l.length ≤ 140737488355328) : Own1 Go.Proofs.Tryd.prog 93 [sl kL none none l] kL 63 none l := fun s => ac_nl (fun h => by subst h; exact clone_l_nil s) (clone_l_some hl hl2 s)

set_option maxRecDepth 100000 in
set_option maxHeartbeats 1000000 in
theorem ln_may {x : Ln} (hx : LnOk x) : Pure Go.Proofs.Tryd.prog 92 [lnP x] (pl (.bool (mayB x))) := by
  intro s
  unfold lnP
  obtain ⟨h1, h2, h3, h4, h5⟩ := hx
  refine ac_of_aw s.boxes.length s.fr.length Go.Proofs.Tryd.func92 rfl (by simp [Go.Proofs.Tryd.ntmps92]) ?_
  refine aw_ext0 ?_
  refine aw_keep [(0, _)] ⟨lg ez, trivial⟩ ?_
  refine aw_seq ?_
  refine aw_region (by decide) ?_
  refine rts _ rfl (opD_boxA oz (by repeat (first | exact bnd_nil | refine bnd_cons (by first | exact pl_bnd _ _ _ | exact sl_bnd (kL_bnd _ _ _) | exact sl_bnd (kI_bnd _ _ _ _) | exact ptr_bnd _ (by omega) | exact any_bnd _ _) ?_)) (by first | exact List.length_nil | (simp only [List.length_cons, List.length_nil, Nat.zero_add, Nat.reduceAdd]; rfl)) (by simp only [List.nil_append, List.cons_append, List.map_cons, List.map_nil, List.set_cons_zero, List.set_cons_succ, List.take_succ_cons, List.take_zero, List.drop_succ_cons, List.drop_zero]; rfl)) ?_
  refine rts _ rfl (opD_assign (ev_const _ _)) ?_
  refine .nil ?_
  refine aw_keep [(2, _), (1, _), (0, _)] ⟨lg lz, lg (ls rfl lz), lg (ls rfl (ls rfl oz)), trivial⟩ ?_
  refine aw_seq ?_
  refine aw_region (by decide) ?_
  refine rts _ rfl ((by first | exact opD_fieldAddr fo63_1 (os rfl oz) | exact opD_fieldAddr_el fo63_1 (os rfl oz))) ?_
  refine rts _ rfl ((by first | exact opD_load_one ag22 lz (by first | exact loc_get rfl | exact old_get (by assumption)) rfl | exact opD_load_el_one ag22 lz (by first | assumption | simp) rfl)) ?_
  refine rts _ rfl (opD_leq lz (ev_const _ _)) ?_
  refine rts _ rfl (opD_move lz) ?_
  refine rtg _ rfl lz (fun hg1_4 => by
      have hg1_4' := hg1_4
      try simp only [beq_iff_eq, decide_eq_true_eq, decide_eq_false_iff_not, Bool.and_eq_true, Bool.or_eq_true, Bool.or_eq_false_iff, Bool.and_eq_false_iff] at hg1_4'
      exact (by first | exact opD_fieldAddr fo63_4 (ls rfl (ls rfl (ls rfl (ls rfl (os rfl oz))))) | exact opD_fieldAddr_el fo63_4 (ls rfl (ls rfl (ls rfl (ls rfl (os rfl oz))))))) ?_
  refine rtg _ rfl (ls rfl lz) (fun hg1_5 => by
      have hg1_5' := hg1_5
      try simp only [beq_iff_eq, decide_eq_true_eq, decide_eq_false_iff_not, Bool.and_eq_true, Bool.or_eq_true, Bool.or_eq_false_iff, Bool.and_eq_false_iff] at hg1_5'
      exact (by first | exact opD_load_one ag9 (lz.trans (pif_pos hg1_5)) (by first | exact loc_get rfl | exact old_get (by assumption) | exact hB) rfl | exact opD_load_el_one ag9 (lz.trans (pif_pos hg1_5)) (by first | assumption | simp) rfl)) ?_
  refine rtg _ rfl (ls rfl (ls rfl lz)) (fun hg1_6 => by
      have hg1_6' := hg1_6
      try simp only [beq_iff_eq, decide_eq_true_eq, decide_eq_false_iff_not, Bool.and_eq_true, Bool.or_eq_true, Bool.or_eq_false_iff, Bool.and_eq_false_iff] at hg1_6'
      exact opD_len_str Go.Proofs.Tryd.underlying9 (lz.trans (pif_pos hg1_6))) ?_
  refine rtg _ rfl (ls rfl (ls rfl (ls rfl lz))) (fun hg1_7 => by
      have hg1_7' := hg1_7
      try simp only [beq_iff_eq, decide_eq_true_eq, decide_eq_false_iff_not, Bool.and_eq_true, Bool.or_eq_true, Bool.or_eq_false_iff, Bool.and_eq_false_iff] at hg1_7'
      exact opD_leq (lz.trans (pif_pos hg1_7)) (ev_const _ _)) ?_
  refine rts _ rfl (opD_and (ls rfl (ls rfl (ls rfl (ls rfl lz)))) lz) ?_
  refine rts _ rfl (opD_assign lz) ?_
  refine .nil ?_
  refine aw_keep [(2, _), (1, _), (0, _)] ⟨lg lz, lg (ls rfl (ls rfl (ls rfl (ls rfl (ls rfl (ls rfl (ls rfl (ls rfl (ls rfl (ls rfl (os rfl oz))))))))))), lg (ls rfl (ls rfl (ls rfl (ls rfl (ls rfl (ls rfl (ls rfl (ls rfl (ls rfl (ls rfl (os rfl (os rfl oz)))))))))))), trivial⟩ ?_
  refine aw_ret ?_
  exact done_ext (.inr rfl) ((res_1 rfl (eg oz)).le (le_of_eq (congrArg (fun b => pl (.bool b)) (by unfold mayB; rw [Bool.eq_iff_iff]; simp only [Bool.and_eq_true, decide_eq_true_eq]; omega)))) (pl_bnd _ _ _)

set_option maxRecDepth 100000 in
set_option maxHeartbeats 1000000 in
theorem ln_one {x : Ln} (hx : LnOk x) : Pure Go.Proofs.Tryd.prog 95 [lnP x] (pl (.bool (mayB x))) := by
  intro s
  unfold lnP
  obtain ⟨h1, h2, h3, h4, h5⟩ := hx
  refine ac_of_aw s.boxes.length s.fr.length Go.Proofs.Tryd.func95 rfl (by simp [Go.Proofs.Tryd.ntmps95]) ?_
  refine aw_ext0 ?_
  refine aw_keep [(0, _)] ⟨lg ez, trivial⟩ ?_
  refine aw_seq ?_
  refine aw_region (by decide) ?_
  refine rts _ rfl (opD_boxA oz (by repeat (first | exact bnd_nil | refine bnd_cons (by first | exact pl_bnd _ _ _ | exact sl_bnd (kL_bnd _ _ _) | exact sl_bnd (kI_bnd _ _ _ _) | exact ptr_bnd _ (by omega) | exact any_bnd _ _) ?_)) (by first | exact List.length_nil | (simp only [List.length_cons, List.length_nil, Nat.zero_add, Nat.reduceAdd]; rfl)) (by simp only [List.nil_append, List.cons_append, List.map_cons, List.map_nil, List.set_cons_zero, List.set_cons_succ, List.take_succ_cons, List.take_zero, List.drop_succ_cons, List.drop_zero]; rfl)) ?_
  refine rts _ rfl (opD_assign (ev_const _ _)) ?_
  refine .nil ?_
  refine aw_keep [(2, _), (1, _), (0, _)] ⟨lg lz, lg (ls rfl lz), lg (ls rfl (ls rfl oz)), trivial⟩ ?_
  refine aw_seq ?_
  refine aw_region (by decide) ?_
  refine rts _ rfl ((by first | exact opD_fieldAddr fo60_1 (os rfl oz) | exact opD_fieldAddr_el fo60_1 (os rfl oz))) ?_
  refine rts _ rfl ((by first | exact opD_load_one ag22 lz (by first | exact loc_get rfl | exact old_get (by assumption)) rfl | exact opD_load_el_one ag22 lz (by first | assumption | simp) rfl)) ?_
  refine rts _ rfl (opD_leq lz (ev_const _ _)) ?_
  refine rts _ rfl (opD_move lz) ?_
  refine rtg _ rfl lz (fun hg1_4 => by
      have hg1_4' := hg1_4
      try simp only [beq_iff_eq, decide_eq_true_eq, decide_eq_false_iff_not, Bool.and_eq_true, Bool.or_eq_true, Bool.or_eq_false_iff, Bool.and_eq_false_iff] at hg1_4'
      exact (by first | exact opD_fieldAddr fo60_4 (ls rfl (ls rfl (ls rfl (ls rfl (os rfl oz))))) | exact opD_fieldAddr_el fo60_4 (ls rfl (ls rfl (ls rfl (ls rfl (os rfl oz))))))) ?_
  refine rtg _ rfl (ls rfl lz) (fun hg1_5 => by
      have hg1_5' := hg1_5
      try simp only [beq_iff_eq, decide_eq_true_eq, decide_eq_false_iff_not, Bool.and_eq_true, Bool.or_eq_true, Bool.or_eq_false_iff, Bool.and_eq_false_iff] at hg1_5'
      exact (by first | exact opD_load_one ag9 (lz.trans (pif_pos hg1_5)) (by first | exact loc_get rfl | exact old_get (by assumption) | exact hB) rfl | exact opD_load_el_one ag9 (lz.trans (pif_pos hg1_5)) (by first | assumption | simp) rfl)) ?_
  refine rtg _ rfl (ls rfl (ls rfl lz)) (fun hg1_6 => by
      have hg1_6' := hg1_6
      try simp only [beq_iff_eq, decide_eq_true_eq, decide_eq_false_iff_not, Bool.and_eq_true, Bool.or_eq_true, Bool.or_eq_false_iff, Bool.and_eq_false_iff] at hg1_6'
      exact opD_len_str Go.Proofs.Tryd.underlying9 (lz.trans (pif_pos hg1_6))) ?_
  refine rtg _ rfl (ls rfl (ls rfl (ls rfl lz))) (fun hg1_7 => by
      have hg1_7' := hg1_7
      try simp only [beq_iff_eq, decide_eq_true_eq, decide_eq_false_iff_not, Bool.and_eq_true, Bool.or_eq_true, Bool.or_eq_false_iff, Bool.and_eq_false_iff] at hg1_7'
      exact opD_leq (lz.trans (pif_pos hg1_7)) (ev_const _ _)) ?_
  refine rts _ rfl (opD_and (ls rfl (ls rfl (ls rfl (ls rfl lz)))) lz) ?_
  refine rts _ rfl (opD_assign lz) ?_
  refine .nil ?_
  refine aw_keep [(2, _), (1, _), (0, _)] ⟨lg lz, lg (ls rfl (ls rfl (ls rfl (ls rfl (ls rfl (ls rfl (ls rfl (ls rfl (ls rfl (ls rfl (os rfl oz))))))))))), lg (ls rfl (ls rfl (ls rfl (ls rfl (ls rfl (ls rfl (ls rfl (ls rfl (ls rfl (ls rfl (os rfl (os rfl oz)))))))))))), trivial⟩ ?_
  refine aw_ret ?_
  exact done_ext (.inr rfl) ((res_1 rfl (eg oz)).le (le_of_eq (congrArg (fun b => pl (.bool b)) (by unfold mayB; rw [Bool.eq_iff_iff]; simp only [Bool.and_eq_true, decide_eq_true_eq]; omega)))) (pl_bnd _ _ _)
end Go.Proofs.YtmnhfpcbfdgbcaaDoor.Eng.Lg

