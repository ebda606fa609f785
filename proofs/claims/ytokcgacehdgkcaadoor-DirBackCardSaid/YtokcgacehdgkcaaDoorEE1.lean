/- EE1: what functions do, walked; used by the laws of this seat. -/
import Derived.Test.YtokcgacehdgkcaaDoorEW2
import Derived.Test.YtokcgacehdgkcaaDoorEngX4
import Derived.Test.YtokcgacehdgkcaaDoorEngX3
import Derived.Test.YtokcgacehdgkcaaDoorEX9
import Derived.Test.YtokcgacehdgkcaaDoorEX5
import Derived.Test.YtokcgacehdgkcaaDoorEX8
namespace Go.Proofs.YtokcgacehdgkcaaDoor.Eng
open Go.RowKit
theorem zLr {p : Pd} : p.le p := Pd.le_refl _
theorem zPb {v : Value} {n m : Nat} : (pl v).Bnd n m := pl_bnd _ _ _
theorem zNb {n m : Nat} (h : Nat.ble n m = true) : n ≤ m := Nat.le_of_ble_eq_true h
theorem zbc {p : Pd} {ps : List Pd} {n m : Nat} (h : p.Bnd n m) (h2 : ∀ q ∈ ps, q.Bnd n m) : ∀ q ∈ p :: ps, q.Bnd n m := bnd_cons h h2
set_option linter.defProp false in
def znz := And.intro @na (And.intro @nb (And.intro @nc (And.intro @nd (And.intro @nf (And.intro @ng (And.intro @nh (And.intro @ni (And.intro @nj @nk))))))))
end Go.Proofs.YtokcgacehdgkcaaDoor.Eng
namespace Go.Proofs.YtokcgacehdgkcaaDoor.Eng.A
set_option linter.unusedVariables false
set_option linter.unusedSimpArgs false
open Go.RowKit Go.Proofs.YtokcgacehdgkcaaDoor.Plain Go.Proofs.YtokcgacehdgkcaaDoor.Eng Go.Proofs.YtokcgacehdgkcaaDoor.Eng.Pk Go.Proofs.YtokcgacehdgkcaaDoor.Eng.Rd




theorem errV_eql (o : Option Int) (w : World) : (binOp .eql 28 (errV o) .nilIface).run Tryd.prog w = .ok (.bool o.isNone) w := by cases o <;> simp [errV, go_sem]
theorem errV_geql (o : Option Int) (w : World) (x : Operand) : (eqGuard .eql 28 x (.const .nilIface) (errV o) .nilIface).run Tryd.prog w = .ok () w := by cases o <;> simp [errV, go_sem]
theorem beq_dec (a b : Int) : (a == b) = decide (a = b) := rfl

structure Stx where
  From : Int
  Many : Int
  deriving DecidableEq
instance : Inhabited Stx := ⟨⟨0, 0⟩⟩
def kStx : Kn Stx := ⟨2, fun x => [pl (.int .i64 x.From), pl (.int .i64 x.Many)], fun _ => rfl, fun x p hp => by
  have h : ∀ p ∈ [pl (.int .i64 x.From), pl (.int .i64 x.Many)], Pd.One p := (ones_cons (one_pl rfl) (ones_cons (one_pl rfl) ones_nil))
  exact h p hp⟩
theorem kb_Stx : KB kStx := fun x n m p hp => ((zbc zPb (zbc zPb bnd_nil)) : ∀ p ∈ [pl (.int .i64 x.From), pl (.int .i64 x.Many)], p.Bnd n m) p hp

end Go.Proofs.YtokcgacehdgkcaaDoor.Eng.A

namespace Go.Proofs.YtokcgacehdgkcaaDoor.Eng.A
set_option linter.unusedVariables false
set_option linter.unusedSimpArgs false
open Go.RowKit Go.Proofs.YtokcgacehdgkcaaDoor.Plain Go.Proofs.YtokcgacehdgkcaaDoor.Eng Go.Proofs.YtokcgacehdgkcaaDoor.Eng.Pk Go.Proofs.YtokcgacehdgkcaaDoor.Eng.Rd

theorem ag3_W1 : aggT Tryd.prog 3 = some false := by kernel_rfl
theorem fo114_0_W1 : fieldOff Tryd.prog 114 0 = some 0 := by kernel_rfl
theorem fo114_1_W1 : fieldOff Tryd.prog 114 1 = some 1 := by kernel_rfl

open Go.Proofs.YtokcgacehdgkcaaDoor.Eng.Er Go.Proofs.YtokcgacehdgkcaaDoor.Eng.Er2

theorem eq_Stx (a0 : Int) (a1 : Int) (b0 : Int) (b1 : Int) (w : World) : (binOp .eql 114 (.agg [.int .i64 a0, .int .i64 a1].toArray) (.agg [.int .i64 b0, .int .i64 b1].toArray)).run Tryd.prog w = .ok (.bool (decide (a0 = b0) && (decide (a1 = b1) && true))) w ∧ (binOp .neq 114 (.agg [.int .i64 a0, .int .i64 a1].toArray) (.agg [.int .i64 b0, .int .i64 b1].toArray)).run Tryd.prog w = .ok (.bool (!(decide (a0 = b0) && (decide (a1 = b1) && true)))) w := by
  have h := eqS (P := Tryd.prog) (t := 114) (xs := [.int .i64 a0, .int .i64 a1].toArray) (ys := [.int .i64 b0, .int .i64 b1].toArray) (w := w) Tryd.underlying114 (by kernel_rfl) (eqf_cons (by decide) (run_part_one ag3_W1 rfl w) (run_part_one ag3_W1 rfl w) (run_equalIn_int w _ _ _ _ _ _ Tryd.underlying3) (eqf_cons (by decide) (run_part_one ag3_W1 rfl w) (run_part_one ag3_W1 rfl w) (run_equalIn_int w _ _ _ _ _ _ Tryd.underlying3) eqf_nil))
  simp only [str_beq, beq_dec, Bool.and_assoc, Bool.true_and] at h
  exact h

theorem eq_Stx_g (op : BinOp) (t u : Operand) (xs ys : Array Value) (w : World) : (eqGuard op 114 t u (.agg xs) (.agg ys)).run Tryd.prog w = .ok () w := run_eqGuard_agg w op 114 t u _ _ (by kernel_rfl)

def F_xend (p0 : Stx) : Option (Int) :=
  some (IntKind.i64.wrap (p0.From + p0.Many))
set_option maxRecDepth 100000 in
set_option maxHeartbeats 2000000 in
theorem c_xend {p0 : Stx} {R : Int} (h0 : F_xend p0 = some R) : Pure Tryd.prog 103 [agg [pl (.int .i64 p0.From), pl (.int .i64 p0.Many)]] (pl (.int .i64 R)) := by
  intro s
  unfold F_xend at h0
  refine ac_of_aw s.boxes.length s.fr.length Tryd.func103 rfl (by simp [Tryd.ntmps103]) ?_
  refine aw_ext0 ?_
  refine aw_keep [(0, _)] ⟨lg ez, trivial⟩ ?_
  refine aw_seq ?_
  refine aw_region (by decide) ?_
  refine rts _ rfl (boxAN (n := 0) rfl oz (zbc zPb (zbc zPb bnd_nil)) (by first | exact List.length_nil | (simp only [List.length_cons, List.length_nil, Nat.zero_add, Nat.reduceAdd] <;> rfl)) (by simp only [znz] <;> rfl)) ?_
  refine rts _ rfl (opD_assign (ev_const _ _)) ?_
  refine .nil ?_
  refine aw_keep [(1, _)] ⟨lg (ls rfl lz), trivial⟩ ?_
  refine aw_seq ?_
  refine aw_region (by decide) ?_
  refine rts _ rfl (opD_fieldAddr fo114_0_W1 oz) ?_
  refine rts _ rfl (opD_load_one ag3_W1 lz (loc_getN rfl rfl) rfl) ?_
  refine rts _ rfl (opD_fieldAddr fo114_1_W1 (ls rfl (ls rfl oz))) ?_
  refine rts _ rfl (opD_load_one ag3_W1 lz (loc_getN rfl rfl) rfl) ?_
  refine rts _ rfl (opD_add (ls rfl (ls rfl lz)) lz rfl) ?_
  refine rts _ rfl (opD_assign lz) ?_
  refine .nil ?_
  refine aw_keep [(2, _)] ⟨lg lz, trivial⟩ ?_
  refine aw_ret ?_
  obtain rfl := some_of h0
  exact done_ext (.inr rfl) ((res_one rfl (it_tmp oz)).le zLr) zPb
end Go.Proofs.YtokcgacehdgkcaaDoor.Eng.A

namespace Go.Proofs.YtokcgacehdgkcaaDoor.Eng.Ha
open Go.RowKit Go.Proofs.YtokcgacehdgkcaaDoor.Plain Go.Proofs.YtokcgacehdgkcaaDoor.Eng

theorem sz114 : sizeT Tryd.prog 114 = some 2 := by kernel_rfl
theorem zt114 : zeroT Tryd.prog 114 = some [.int .i64 0, .int .i64 0] := by kernel_rfl
theorem el114 : elT Tryd.prog 114 = some (2, 16) := by kernel_rfl

open Go.Proofs.YtokcgacehdgkcaaDoor.Eng.A

set_option maxRecDepth 100000 in
set_option maxHeartbeats 1000000 in
theorem clhX_nil {s : St} : AC Tryd.prog 171 [sl kStx none (some true) ([] : List Stx)] s (hsl s.boxes.length 4 0 ([] : List Stx).length kStx.sz) (s.ext [⟨hot 114 4, flat kStx ([] : List Stx)⟩] []) := by
  refine ac_of_aw (s.boxes.length + 1) s.fr.length Tryd.func171 rfl (by simp [Tryd.ntmps171]) ?_
  refine aw_ext0 ?_
  refine aw_keep [(0, _)] ⟨lg ez, trivial⟩ ?_
  refine aw_seq ?_
  refine aw_region (by decide) ?_
  refine rts _ rfl (opD_assign (ev_const _ _)) ?_
  refine .nil ?_
  refine aw_keep [(2, _), (0, _)] ⟨lg lz, lg (ls rfl oz), trivial⟩ ?_
  refine aw_seq ?_
  refine aw_seq ?_
  refine aw_region (by decide) ?_
  refine rts _ rfl (opD_move (os rfl oz)) ?_
  refine rts _ rfl (opD_eqnil Tryd.underlying79 lz) ?_
  refine .nil ?_
  refine aw_keep [(4, _), (2, _), (0, _)] ⟨lg lz, lg (ls rfl (ls rfl oz)), lg (ls rfl (ls rfl (os rfl oz))), trivial⟩ ?_
  refine aw_cond _ oz (fun hc => ?_) (fun hc => ?_)
  · skip
    refine aw_seq ?_
    refine aw_region (by decide) ?_
    refine rts _ rfl (nilHN rfl kStx (n := 0) (r := 4) (te := 114) rfl rfl (ev_const _ _) rfl) ?_
    refine .nil ?_
    refine aw_keep [(2, _), (4, _), (0, _)] ⟨lg lz, lg (ls rfl oz), lg (ls rfl (os rfl (os rfl oz))), trivial⟩ ?_
    refine aw_ret ?_
    exact done_newP (.inr rfl) (res_1 rfl (eg oz)) (hsl_bnd _ (by omega)) (flatKB kb_Stx)
  · skip
    exfalso; revert hc; simp

set_option maxRecDepth 100000 in
set_option maxHeartbeats 1000000 in
theorem clhX_some {s : St} {l : List Stx} (hl : l.length * 16 ≤ 140737488355328) (hl2 : l.length ≤ 140737488355328) : AC Tryd.prog 171 [sl kStx none (some false) l] s (hsl s.boxes.length 4 0 l.length kStx.sz) (s.ext [⟨hot 114 4, flat kStx l⟩] []) := by
  refine ac_of_aw (s.boxes.length + 1) s.fr.length Tryd.func171 rfl (by simp [Tryd.ntmps171]) ?_
  refine aw_ext0 ?_
  refine aw_keep [(0, _)] ⟨lg ez, trivial⟩ ?_
  refine aw_seq ?_
  refine aw_region (by decide) ?_
  refine rts _ rfl (opD_assign (ev_const _ _)) ?_
  refine .nil ?_
  refine aw_keep [(2, _), (0, _)] ⟨lg lz, lg (ls rfl oz), trivial⟩ ?_
  refine aw_seq ?_
  refine aw_seq ?_
  refine aw_region (by decide) ?_
  refine rts _ rfl (opD_move (os rfl oz)) ?_
  refine rts _ rfl (opD_eqnil Tryd.underlying79 lz) ?_
  refine .nil ?_
  refine aw_keep [(4, _), (2, _), (0, _)] ⟨lg lz, lg (ls rfl (ls rfl oz)), lg (ls rfl (ls rfl (os rfl oz))), trivial⟩ ?_
  refine aw_cond _ oz (fun hc => ?_) (fun hc => ?_)
  · skip
    exfalso; revert hc; simp
  · skip
    refine aw_skip ?_
    refine aw_keep [(4, _), (2, _), (0, _)] ⟨lg oz, lg (os rfl oz), lg (os rfl (os rfl oz)), trivial⟩ ?_
    refine aw_seq ?_
    refine aw_region (by decide) ?_
    refine rts _ rfl (buildEmptyHN (k := kStx) rfl Tryd.underlying79 sz114 zt114 rfl (by first | exact List.length_nil | (simp only [List.length_cons, List.length_nil, Nat.zero_add, Nat.reduceAdd]; rfl)) (by simp only [List.nil_append, List.cons_append, List.map_cons, List.map_nil, List.set_cons_zero, List.set_cons_succ, List.take_succ_cons, List.take_zero, List.drop_succ_cons, List.drop_zero]; rfl)) ?_
    refine rts _ rfl (opD_move (ls rfl (os rfl (os rfl oz)))) ?_
    refine rts _ rfl (appendHN (k := kStx) (l := []) rfl Tryd.underlying79 el114 rfl (Nat.le_refl 2) rfl (ls rfl lz) lz rfl kb_Stx (by simpa using hl) (by simp; omega) rfl) ?_
    refine rts _ rfl (opD_assign lz) ?_
    refine .nil ?_
    refine aw_keep [(2, _), (4, _), (0, _)] ⟨lg lz, lg (ls rfl (ls rfl (ls rfl (ls rfl oz)))), lg (ls rfl (ls rfl (ls rfl (ls rfl (os rfl (os rfl oz)))))), trivial⟩ ?_
    refine aw_ret ?_
    exact done_newP (.inr rfl) (res_1 rfl (eg oz)) (hsl_bnd _ (by omega)) (flatKB kb_Stx)

set_option maxRecDepth 100000 in
set_option maxHeartbeats 1000000 in
theorem cloneX_nil : Own1 Tryd.prog 171 [sl kStx none (some true) ([] : List Stx)] kStx 114 none ([] : List Stx) := by
  intro s
  refine ac_of_aw s.boxes.length (s.fr.length + 1) Tryd.func171 rfl (by simp [Tryd.ntmps171]) ?_
  refine aw_ext0 ?_
  refine aw_keep [(0, _)] ⟨lg ez, trivial⟩ ?_
  refine aw_seq ?_
  refine aw_region (by decide) ?_
  refine rts _ rfl (opD_assign (ev_const _ _)) ?_
  refine .nil ?_
  refine aw_keep [(2, _), (0, _)] ⟨lg lz, lg (ls rfl oz), trivial⟩ ?_
  refine aw_seq ?_
  refine aw_seq ?_
  refine aw_region (by decide) ?_
  refine rts _ rfl (opD_move (os rfl oz)) ?_
  refine rts _ rfl (opD_eqnil Tryd.underlying79 lz) ?_
  refine .nil ?_
  refine aw_keep [(4, _), (2, _), (0, _)] ⟨lg lz, lg (ls rfl (ls rfl oz)), lg (ls rfl (ls rfl (os rfl oz))), trivial⟩ ?_
  refine aw_cond _ oz (fun hc => ?_) (fun hc => ?_)
  · skip
    refine aw_fr ⟨114, 2, 0⟩ ?_
    refine aw_seq ?_
    refine aw_region (by decide) ?_
    refine rts _ rfl (opD_assign (ev_const _ _)) ?_
    refine .nil ?_
    refine aw_keep [(2, _), (4, _), (0, _)] ⟨lg lz, lg (ls rfl oz), lg (ls rfl (os rfl (os rfl oz))), trivial⟩ ?_
    refine aw_ret ?_
    exact done_own (.inr rfl) ((res_1 rfl (eg oz)).le ((nil_le _ _).trans (sl_nl _ _ _ _))) rfl (kbl kb_Stx _ _ _)
  · skip
    exfalso; revert hc; simp

set_option maxRecDepth 100000 in
set_option maxHeartbeats 1000000 in
theorem cloneX_some {l : List Stx} (hl : l.length * 16 ≤ 140737488355328) (hl2 : l.length ≤ 140737488355328) : Own1 Tryd.prog 171 [sl kStx none (some false) l] kStx 114 none l := by
  intro s
  refine ac_of_aw s.boxes.length (s.fr.length + 1) Tryd.func171 rfl (by simp [Tryd.ntmps171]) ?_
  refine aw_ext0 ?_
  refine aw_keep [(0, _)] ⟨lg ez, trivial⟩ ?_
  refine aw_seq ?_
  refine aw_region (by decide) ?_
  refine rts _ rfl (opD_assign (ev_const _ _)) ?_
  refine .nil ?_
  refine aw_keep [(2, _), (0, _)] ⟨lg lz, lg (ls rfl oz), trivial⟩ ?_
  refine aw_seq ?_
  refine aw_seq ?_
  refine aw_region (by decide) ?_
  refine rts _ rfl (opD_move (os rfl oz)) ?_
  refine rts _ rfl (opD_eqnil Tryd.underlying79 lz) ?_
  refine .nil ?_
  refine aw_keep [(4, _), (2, _), (0, _)] ⟨lg lz, lg (ls rfl (ls rfl oz)), lg (ls rfl (ls rfl (os rfl oz))), trivial⟩ ?_
  refine aw_cond _ oz (fun hc => ?_) (fun hc => ?_)
  · skip
    exfalso; revert hc; simp
  · skip
    refine aw_skip ?_
    refine aw_keep [(4, _), (2, _), (0, _)] ⟨lg oz, lg (os rfl oz), lg (os rfl (os rfl oz)), trivial⟩ ?_
    refine aw_seq ?_
    refine aw_region (by decide) ?_
    refine rts _ rfl (opD_buildEmpty (k := kStx) Tryd.underlying79 sz114 zt114 rfl (by first | exact List.length_nil | (simp only [List.length_cons, List.length_nil, Nat.zero_add, Nat.reduceAdd]; rfl)) (by simp only [List.nil_append, List.cons_append, List.map_cons, List.map_nil, List.set_cons_zero, List.set_cons_succ, List.take_succ_cons, List.take_zero, List.drop_succ_cons, List.drop_zero]; rfl)) ?_
    refine rts _ rfl (opD_move (ls rfl (os rfl (os rfl oz)))) ?_
    refine rts _ rfl ((by first | exact opD_appendX Tryd.underlying79 el114 (ls rfl lz) lz rfl (by first | omega | (simp only [List.length_cons, List.length_nil, List.length_append]; omega)) (by first | omega | (simp only [List.length_cons, List.length_nil, List.length_append]; omega)) (by first | (with_reducible exact List.nil_append _) | exact rfl) (by simp only [List.nil_append, List.cons_append, List.map_cons, List.map_nil, List.set_cons_zero, List.set_cons_succ, List.take_succ_cons, List.take_zero, List.drop_succ_cons, List.drop_zero]; rfl) | exact opD_appendN (k := kStx) Tryd.underlying79 el114 (ls rfl lz) lz (by first | omega | (simp only [List.length_cons, List.length_nil, List.length_append]; omega)) (by first | omega | (simp only [List.length_cons, List.length_nil, List.length_append]; omega)) (by first | exact List.length_nil | (simp only [List.length_cons, List.length_nil, Nat.zero_add, Nat.reduceAdd]; rfl)) (by simp only [List.nil_append, List.cons_append, List.map_cons, List.map_nil, List.set_cons_zero, List.set_cons_succ, List.take_succ_cons, List.take_zero, List.drop_succ_cons, List.drop_zero]; rfl))) ?_
    refine rts _ rfl (opD_assign lz) ?_
    refine .nil ?_
    refine aw_keep [(2, _), (4, _), (0, _)] ⟨lg lz, lg (ls rfl (ls rfl (ls rfl (ls rfl oz)))), lg (ls rfl (ls rfl (ls rfl (ls rfl (os rfl (os rfl oz)))))), trivial⟩ ?_
    refine aw_ret ?_
    exact done_own (.inr rfl) (res_1 rfl (eg oz)) rfl (kbl kb_Stx _ _ _)

theorem cloneX {l : List Stx} (hl : l.length * 16 ≤ 140737488355328) (hl2 : l.length ≤ 140737488355328) : Own1 Tryd.prog 171 [sl kStx none none l] kStx 114 none l := fun s => ac_nl (fun h => by subst h; exact cloneX_nil s) (cloneX_some hl hl2 s)

theorem clX {l : List Stx} (hl : l.length * 16 ≤ 140737488355328) (hl2 : l.length ≤ 140737488355328) : ∀ s, AC Tryd.prog 171 [sl kStx none none l] s (hsl s.boxes.length 4 0 l.length kStx.sz) (s.ext [⟨hot 114 4, flat kStx l⟩] []) := fun s => ac_nl (fun h => by subst h; exact clhX_nil) (clhX_some hl hl2)
def oCloneX {α : Type} (b : Nat) (l : List α) : Option (List α) := grd (Fits b l.length ∧ l.length ≤ 140737488355328) (some l)
theorem c_oCloneX {p0 R : List Stx} (h0 : oCloneX 16 p0 = some R) : Own1 Tryd.prog 171 [sl kStx none none p0] kStx 114 none R := by
  obtain ⟨⟨h1, h2⟩, h3⟩ := grd_some h0
  obtain rfl := some_of h3
  exact cloneX h1.1 h2
end Go.Proofs.YtokcgacehdgkcaaDoor.Eng.Ha

