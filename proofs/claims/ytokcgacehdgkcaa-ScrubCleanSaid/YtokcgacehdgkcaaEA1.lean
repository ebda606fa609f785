/- What errors are, for this seat. -/
import Derived.Test.YtokcgacehdgkcaaEX5
import Derived.Test.YtokcgacehdgkcaaEngX3
import Derived.Test.YtokcgacehdgkcaaProg
import Derived.KernelRfl
import Derived.Laws.BitsAllLaws
namespace Go.Proofs.Ytokcgacehdgkcaa.Plain
set_option linter.unusedVariables false
set_option linter.unusedSimpArgs false
end Go.Proofs.Ytokcgacehdgkcaa.Plain
namespace Go.Proofs.Ytokcgacehdgkcaa.Eng.Pk
set_option linter.unusedVariables false
set_option linter.unusedSimpArgs false
end Go.Proofs.Ytokcgacehdgkcaa.Eng.Pk
namespace Go.Proofs.Ytokcgacehdgkcaa.Eng.Rd
set_option linter.unusedVariables false
set_option linter.unusedSimpArgs false
open Go.RowKit
def errV : Option Int → Value
  | none => .nilIface
  | some n => .iface 50 (.int .i64 n)
theorem errV_beq (o : Option Int) (w : World) : (binOp .neq 45 (errV o) .nilIface).run Go.Proofs.Try.prog w = .ok (.bool o.isSome) w := by cases o <;> simp [errV, go_sem]
theorem errV_guard (o : Option Int) (w : World) (x : Operand) : (eqGuard .neq 45 x (.const .nilIface) (errV o) .nilIface).run Go.Proofs.Try.prog w = .ok () w := by cases o <;> simp [errV, go_sem]
end Go.Proofs.Ytokcgacehdgkcaa.Eng.Rd
namespace Go.Proofs.Ytokcgacehdgkcaa.Eng.A
set_option linter.unusedVariables false
set_option linter.unusedSimpArgs false
open Go.RowKit Go.Proofs.Ytokcgacehdgkcaa.Eng.Rd
theorem errV_eql (o : Option Int) (w : World) : (binOp .eql 45 (errV o) .nilIface).run Go.Proofs.Try.prog w = .ok (.bool o.isNone) w := by cases o <;> simp [errV, go_sem]
theorem errV_geql (o : Option Int) (w : World) (x : Operand) : (eqGuard .eql 45 x (.const .nilIface) (errV o) .nilIface).run Go.Proofs.Try.prog w = .ok () w := by cases o <;> simp [errV, go_sem]
end Go.Proofs.Ytokcgacehdgkcaa.Eng.A


namespace Go.Proofs.Ytokcgacehdgkcaa.Eng.Pk
set_option linter.unusedVariables false
set_option linter.unusedSimpArgs false
open Go.RowKit Go.Proofs.Ytokcgacehdgkcaa.Plain Go.Proofs.Ytokcgacehdgkcaa.Eng

theorem sz5 : sizeT Go.Proofs.Try.prog 5 = some 1 := by kernel_rfl
theorem zt5 : zeroT Go.Proofs.Try.prog 5 = some [.int .u8 0] := by kernel_rfl
theorem el5 : elT Go.Proofs.Try.prog 5 = some (1, 1) := by kernel_rfl

set_option maxRecDepth 100000 in
set_option maxHeartbeats 1000000 in
theorem clone_b_nil : Own1 Go.Proofs.Try.prog 19 [sl (kI .u8) none (some true) ([] : List Int)] (kI .u8) 5 none ([] : List Int) := by
  intro s
  refine ac_of_aw s.boxes.length (s.fr.length + 1) Go.Proofs.Try.func19 rfl (by simp [Go.Proofs.Try.ntmps19]) ?_
  refine aw_ext0 ?_
  refine aw_keep [(0, _)] ⟨lg ez, trivial⟩ ?_
  refine aw_seq ?_
  refine aw_region (by decide) ?_
  refine rts _ rfl (opD_assign (ev_const _ _)) ?_
  refine .nil ?_
  refine aw_keep [(2, _), (0, _)] ⟨lg lz, lg (ls rfl oz), trivial⟩ ?_
  refine aw_seq ?_
  refine aw_seq ?_
  refine aw_region (by decide) ?_
  refine rts _ rfl (opD_move (os rfl oz)) ?_
  refine rts _ rfl (opD_eqnil Go.Proofs.Try.underlying26 lz) ?_
  refine .nil ?_
  refine aw_keep [(4, _), (2, _), (0, _)] ⟨lg lz, lg (ls rfl (ls rfl oz)), lg (ls rfl (ls rfl (os rfl oz))), trivial⟩ ?_
  refine aw_cond _ oz (fun hc => ?_) (fun hc => ?_)
  · skip
    refine aw_fr ⟨5, 1, 0⟩ ?_
    refine aw_seq ?_
    refine aw_region (by decide) ?_
    refine rts _ rfl (opD_assign (ev_const _ _)) ?_
    refine .nil ?_
    refine aw_keep [(2, _), (4, _), (0, _)] ⟨lg lz, lg (ls rfl oz), lg (ls rfl (os rfl (os rfl oz))), trivial⟩ ?_
    refine aw_ret ?_
    exact done_own (.inr rfl) ((res_1 rfl (eg oz)).le ((nil_le _ _).trans (sl_nl _ _ _ _))) rfl (kI_bnd _ _ _ _)
  · skip
    exfalso; revert hc; simp

set_option maxRecDepth 100000 in
set_option maxHeartbeats 1000000 in
theorem clone_b_some {l : List Int} (hl : l.length * 1 ≤ 140737488355328) (hl2 : l.length ≤ 140737488355328) : Own1 Go.Proofs.Try.prog 19 [sl (kI .u8) none (some false) l] (kI .u8) 5 none l := by
  intro s
  refine ac_of_aw s.boxes.length (s.fr.length + 1) Go.Proofs.Try.func19 rfl (by simp [Go.Proofs.Try.ntmps19]) ?_
  refine aw_ext0 ?_
  refine aw_keep [(0, _)] ⟨lg ez, trivial⟩ ?_
  refine aw_seq ?_
  refine aw_region (by decide) ?_
  refine rts _ rfl (opD_assign (ev_const _ _)) ?_
  refine .nil ?_
  refine aw_keep [(2, _), (0, _)] ⟨lg lz, lg (ls rfl oz), trivial⟩ ?_
  refine aw_seq ?_
  refine aw_seq ?_
  refine aw_region (by decide) ?_
  refine rts _ rfl (opD_move (os rfl oz)) ?_
  refine rts _ rfl (opD_eqnil Go.Proofs.Try.underlying26 lz) ?_
  refine .nil ?_
  refine aw_keep [(4, _), (2, _), (0, _)] ⟨lg lz, lg (ls rfl (ls rfl oz)), lg (ls rfl (ls rfl (os rfl oz))), trivial⟩ ?_
  refine aw_cond _ oz (fun hc => ?_) (fun hc => ?_)
  · skip
    exfalso; revert hc; simp
  · skip
    refine aw_skip ?_
    refine aw_keep [(4, _), (2, _), (0, _)] ⟨lg oz, lg (os rfl oz), lg (os rfl (os rfl oz)), trivial⟩ ?_
    refine aw_seq ?_
    refine aw_region (by decide) ?_
    refine rts _ rfl (opD_buildEmpty (k := (kI .u8)) Go.Proofs.Try.underlying26 sz5 zt5 rfl (by first | exact List.length_nil | (simp only [List.length_cons, List.length_nil, Nat.zero_add, Nat.reduceAdd]; rfl)) (by simp only [List.nil_append, List.cons_append, List.map_cons, List.map_nil, List.set_cons_zero, List.set_cons_succ, List.take_succ_cons, List.take_zero, List.drop_succ_cons, List.drop_zero]; rfl)) ?_
    refine rts _ rfl (opD_move (ls rfl (os rfl (os rfl oz)))) ?_
    refine rts _ rfl ((by first | exact opD_appendX Go.Proofs.Try.underlying26 el5 (ls rfl lz) lz rfl (by first | omega | (simp only [List.length_cons, List.length_nil, List.length_append]; omega)) (by first | omega | (simp only [List.length_cons, List.length_nil, List.length_append]; omega)) (by first | (with_reducible exact List.nil_append _) | exact rfl) (by simp only [List.nil_append, List.cons_append, List.map_cons, List.map_nil, List.set_cons_zero, List.set_cons_succ, List.take_succ_cons, List.take_zero, List.drop_succ_cons, List.drop_zero]; rfl) | exact opD_appendN (k := (kI .u8)) Go.Proofs.Try.underlying26 el5 (ls rfl lz) lz (by first | omega | (simp only [List.length_cons, List.length_nil, List.length_append]; omega)) (by first | omega | (simp only [List.length_cons, List.length_nil, List.length_append]; omega)) (by first | exact List.length_nil | (simp only [List.length_cons, List.length_nil, Nat.zero_add, Nat.reduceAdd]; rfl)) (by simp only [List.nil_append, List.cons_append, List.map_cons, List.map_nil, List.set_cons_zero, List.set_cons_succ, List.take_succ_cons, List.take_zero, List.drop_succ_cons, List.drop_zero]; rfl))) ?_
    refine rts _ rfl (opD_assign lz) ?_
    refine .nil ?_
    refine aw_keep [(2, _), (4, _), (0, _)] ⟨lg lz, lg (ls rfl (ls rfl (ls rfl (ls rfl oz)))), lg (ls rfl (ls rfl (ls rfl (ls rfl (os rfl (os rfl oz)))))), trivial⟩ ?_
    refine aw_ret ?_
    exact done_own (.inr rfl) (res_1 rfl (eg oz)) rfl (kI_bnd _ _ _ _)

theorem clone_b {l : List Int} (hl : l.length * 1 ≤ 140737488355328) (hl2 : l.length ≤ 140737488355328) : Own1 Go.Proofs.Try.prog 19 [sl (kI .u8) none none l] (kI .u8) 5 none l := fun s => ac_nl (fun h => by subst h; exact clone_b_nil s) (clone_b_some hl hl2 s)
end Go.Proofs.Ytokcgacehdgkcaa.Eng.Pk

