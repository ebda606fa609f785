/- EW2: what functions do, walked; used by the laws of this seat. -/
import Derived.Test.YtokcgacehdgkcaaGreatDoorEW1
import Derived.Test.YtokcgacehdgkcaaGreatDoorErr
namespace Go.Proofs.YtokcgacehdgkcaaGreatDoor.Eng.Er
set_option linter.unusedVariables false
set_option linter.unusedSimpArgs false
open Go.RowKit Go.Proofs.YtokcgacehdgkcaaGreatDoor.Plain Go.Proofs.YtokcgacehdgkcaaGreatDoor.Eng



open Go.Proofs.YtokcgacehdgkcaaGreatDoor.Eng.Pk Go.Proofs.YtokcgacehdgkcaaGreatDoor.Eng.Rd Go.Proofs.YtokcgacehdgkcaaGreatDoor.Hand
/-- The library's one variable, as it is laid. -/
def GVal : Value := .iface 217 (.agg #[.pointer (some ⟨7, 33, none⟩)])
def StGV (s : St) : Prop := ∀ g w, s.stat.h g w .nilFunc → w.cell? ⟨0, 0, none⟩ = some GVal
theorem as_box {s : St} {b : Nat} {c : Int} {old : Pd} (hst : StGV s) (hB : s.boxes[b]? = some ⟨107, [old]⟩) : AC Go.Proofs.Tryz.prog 56 [pl (.iface 107 (.int .i64 c)), ifc 132 (ptr b 0)] s (pl (.bool true)) (s.upd b ⟨107, [pl (.int .i64 c)]⟩) := by
  intro g w vs hps hs
  obtain ⟨v1, v2, rfl⟩ : ∃ v1 v2, vs = [v1, v2] := by
    match vs, hps with
    | [a, b], _ => exact ⟨a, b, rfl⟩
    | [], h => exact h.elim
    | [_], h => exact h.2.elim
    | _ :: _ :: _ :: _, h => exact h.2.2.elim
  obtain ⟨h1, ⟨x, h2, hp0⟩, _⟩ := hps
  obtain ⟨e0, k, us, h3, hk, hkb, q2, _, q3, _, _, _, q6⟩ := ptv_at hs hp0 hB (ver_plain rfl) (by simp)
  rw [obj_cells rfl] at q2
  have hlen := q3.len
  have hsize : 0 < us.size := by simp at hlen; omega
  have hcell : w.cell? ⟨k, 0, none⟩ = some us[0] := by rw [box_cell (g := g) q2]; simp [hsize]
  have hfr : w.frozen? ⟨k, 0, none⟩ = false := by simp [World.frozen?, q2]
  rw [show v1 = _ from h1, h2, h3]
  refine (as_hit c ⟨k, 0, none⟩ us[0] w (hst g w hs.st) hcell hfr).mono ?_
  rintro e w' ⟨rfl, rfl⟩
  have hkl : k < w.heap.size := (Array.getElem?_eq_some_iff.1 q2).1
  have hold : ∀ (o1 o2 o3 o4 : Obj) (j : Nat), j < w.heap.size → ((((w.alloc o1).alloc o2).alloc o3).alloc o4).heap[j]? = w.heap[j]? := fun o1 o2 o3 o4 j hj => by
    rw [alloc_heap_old _ _ (by simp; omega), alloc_heap_old _ _ (by simp; omega), alloc_heap_old _ _ (by simp; omega), alloc_heap_old _ _ hj]
  have hset : ∀ (W : World), W.heap[k]? = some (.cells us 107 (0, 0)) → (W.setCell ⟨k, 0, none⟩ (.int .i64 c)).heap[k]? = some (.cells (us.setIfInBounds 0 (.int .i64 c)) 107 (0, 0)) := fun W h => by
    simp only [World.setCell, Array.getElem?_modify, if_true, h, Option.map_some]
    rfl
  generalize hW : (((w.alloc _).alloc _).alloc _).alloc _ = W
  have hold' : ∀ j, j < w.heap.size → W.heap[j]? = w.heap[j]? := fun j hj => by subst hW; exact hold _ _ _ _ j hj
  have hWs : w.heap.size ≤ W.heap.size := by subst hW; simp; omega
  have hos : W.os = w.os ∧ W.tape = w.tape ∧ W.output = w.output := by subst hW; exact ⟨rfl, rfl, rfl⟩
  clear hW
  obtain ⟨r1, r2⟩ := other_box (w' := W.setCell ⟨k, 0, none⟩ (.int .i64 c)) (cs := us.setIfInBounds 0 (.int .i64 c)) (ps := [pl (.int .i64 c)]) hs hB hk hkb q2 hos.1 hos.2.1 hos.2.2 (by simpa [World.setCell] using hWs)
    (fun j hj hne => by rw [Below.heap_setCell _ _ _ _ hne, hold' j hj])
    (hset _ (by rw [hold' k hkl]; exact q2))
    (by simp) (by
      have : (us.setIfInBounds 0 (Value.int .i64 c)).toList.take 1 = [.int .i64 c] := by
        obtain ⟨l⟩ := us
        match l, hsize with
        | a :: l, _ => rfl
      show Pds _ _ _ (List.take 1 _)
      rw [this]; exact ⟨rfl, trivial⟩)
    (bnd_cons (pl_bnd _ _ _) bnd_nil)
  exact ⟨_, g, rfl, rfl, r1, r2⟩
def numV : Option Int → Int
  | none => 0
  | some c => c
end Go.Proofs.YtokcgacehdgkcaaGreatDoor.Eng.Er


namespace Go.Proofs.YtokcgacehdgkcaaGreatDoor.Eng.Er2
set_option linter.unusedVariables false
set_option linter.unusedSimpArgs false
open Go.RowKit Go.Proofs.YtokcgacehdgkcaaGreatDoor.Plain Go.Proofs.YtokcgacehdgkcaaGreatDoor.Eng

theorem zt107 : zeroT Go.Proofs.Tryz.prog 107 = some [.int .i64 0] := by kernel_rfl
theorem cc132 : Go.Proofs.Tryz.prog.concrete 132 = true := by kernel_rfl
theorem ht56 : hasText Go.Proofs.Tryz.prog 56 = true := by kernel_rfl
theorem ag107 : aggT Go.Proofs.Tryz.prog 107 = some false := by kernel_rfl

open Go.Proofs.YtokcgacehdgkcaaGreatDoor.Eng.Pk Go.Proofs.YtokcgacehdgkcaaGreatDoor.Eng.Rd Go.Proofs.YtokcgacehdgkcaaGreatDoor.Eng.Er

set_option maxRecDepth 100000 in
set_option maxHeartbeats 1000000 in
theorem num28_none {s : St} : AC Go.Proofs.Tryz.prog 16 [pl .nilIface] s (pl (.int .i64 0)) s := by
  refine ac_of_aw s.boxes.length s.fr.length Go.Proofs.Tryz.func16 rfl (by simp [Go.Proofs.Tryz.ntmps16]) ?_
  refine aw_ext0 ?_
  refine aw_keep [(0, _)] ⟨lg ez, trivial⟩ ?_
  refine aw_seq ?_
  refine aw_region (by decide) ?_
  refine rts _ rfl (opD_assign (ev_const _ _)) ?_
  refine .nil ?_
  refine aw_keep [(2, _), (0, _)] ⟨lg lz, lg (ls rfl oz), trivial⟩ ?_
  refine aw_seq ?_
  refine aw_region (by decide) ?_
  refine rts _ rfl (opD_allocX zt107 (by first | exact List.length_nil | (simp only [List.length_cons, List.length_nil, Nat.zero_add, Nat.reduceAdd]; rfl)) (by simp only [List.nil_append, List.cons_append, List.map_cons, List.map_nil, List.set_cons_zero, List.set_cons_succ, List.take_succ_cons, List.take_zero, List.drop_succ_cons, List.drop_zero]; rfl)) ?_
  refine .nil ?_
  refine aw_keep [(3, _), (2, _), (0, _)] ⟨lg lz, lg (ls rfl oz), lg (ls rfl (os rfl oz)), trivial⟩ ?_
  refine aw_seq ?_
  refine aw_seq ?_
  refine aw_region (by decide) ?_
  refine rts _ rfl (opD_move (os rfl (os rfl oz))) ?_
  refine rts _ rfl (opD_bin (r := .bool true) lz (ev_const _ _) (fun w => by simp [go_sem]) (fun w => by simp [go_sem])) ?_
  refine .nil ?_
  refine aw_keep [(5, _), (3, _), (2, _), (0, _)] ⟨lg lz, lg (ls rfl (ls rfl oz)), lg (ls rfl (ls rfl (os rfl oz))), lg (ls rfl (ls rfl (os rfl (os rfl oz)))), trivial⟩ ?_
  refine aw_cond _ oz (fun hc => ?_) (fun hc => ?_)
  · skip
    refine aw_seq ?_
    refine aw_region (by decide) ?_
    refine rts _ rfl (opD_assign (ev_const _ _)) ?_
    refine .nil ?_
    refine aw_keep [(2, _), (5, _), (3, _), (0, _)] ⟨lg lz, lg (ls rfl oz), lg (ls rfl (os rfl oz)), lg (ls rfl (os rfl (os rfl (os rfl oz)))), trivial⟩ ?_
    refine aw_ret ?_
    exact done_ext (.inr rfl) (res_1 rfl (eg oz)) (pl_bnd _ _ _)
  · skip
    exfalso; revert hc; simp

set_option maxRecDepth 100000 in
set_option maxHeartbeats 1000000 in
theorem num28_some {s : St} {c : Int} (hst : StGV s) : AC Go.Proofs.Tryz.prog 16 [pl (.iface 107 (.int .i64 c))] s (pl (.int .i64 c)) s := by
  refine ac_of_aw s.boxes.length s.fr.length Go.Proofs.Tryz.func16 rfl (by simp [Go.Proofs.Tryz.ntmps16]) ?_
  refine aw_ext0 ?_
  refine aw_keep [(0, _)] ⟨lg ez, trivial⟩ ?_
  refine aw_seq ?_
  refine aw_region (by decide) ?_
  refine rts _ rfl (opD_assign (ev_const _ _)) ?_
  refine .nil ?_
  refine aw_keep [(2, _), (0, _)] ⟨lg lz, lg (ls rfl oz), trivial⟩ ?_
  refine aw_seq ?_
  refine aw_region (by decide) ?_
  refine rts _ rfl (opD_allocX zt107 (by first | exact List.length_nil | (simp only [List.length_cons, List.length_nil, Nat.zero_add, Nat.reduceAdd]; rfl)) (by simp only [List.nil_append, List.cons_append, List.map_cons, List.map_nil, List.set_cons_zero, List.set_cons_succ, List.take_succ_cons, List.take_zero, List.drop_succ_cons, List.drop_zero]; rfl)) ?_
  refine .nil ?_
  refine aw_keep [(3, _), (2, _), (0, _)] ⟨lg lz, lg (ls rfl oz), lg (ls rfl (os rfl oz)), trivial⟩ ?_
  refine aw_seq ?_
  refine aw_seq ?_
  refine aw_region (by decide) ?_
  refine rts _ rfl (opD_move (os rfl (os rfl oz))) ?_
  refine rts _ rfl (opD_bin (r := .bool false) lz (ev_const _ _) (fun w => by simp [go_sem]) (fun w => by simp [go_sem])) ?_
  refine .nil ?_
  refine aw_keep [(5, _), (3, _), (2, _), (0, _)] ⟨lg lz, lg (ls rfl (ls rfl oz)), lg (ls rfl (ls rfl (os rfl oz))), lg (ls rfl (ls rfl (os rfl (os rfl oz)))), trivial⟩ ?_
  refine aw_cond _ oz (fun hc => ?_) (fun hc => ?_)
  · skip
    exfalso; revert hc; simp
  · skip
    refine aw_skip ?_
    refine aw_keep [(5, _), (3, _), (2, _), (0, _)] ⟨lg oz, lg (os rfl oz), lg (os rfl (os rfl oz)), lg (os rfl (os rfl (os rfl oz))), trivial⟩ ?_
    refine aw_seq ?_
    refine aw_seq ?_
    refine aw_region (by decide) ?_
    refine rts _ rfl (opD_move (os rfl (os rfl (os rfl oz)))) ?_
    refine rts _ rfl (opD_makeInterface cc132 (ls rfl (os rfl oz))) ?_
    refine rts _ rfl (opD_callLx ht56 (as_box hst (loc_get rfl)) ⟨le_of_eq (ls rfl lz), le_of_eq lz, trivial⟩ (by simp only [List.nil_append, List.cons_append, List.map_cons, List.map_nil, List.set_cons_zero, List.set_cons_succ, List.take_succ_cons, List.take_zero, List.drop_succ_cons, List.drop_zero]; rfl)) ?_
    refine .nil ?_
    refine aw_keep [(8, _), (5, _), (3, _), (2, _), (0, _)] ⟨lg lz, lg (ls rfl (ls rfl (ls rfl oz))), lg (ls rfl (ls rfl (ls rfl (os rfl oz)))), lg (ls rfl (ls rfl (ls rfl (os rfl (os rfl oz))))), lg (ls rfl (ls rfl (ls rfl (os rfl (os rfl (os rfl oz)))))), trivial⟩ ?_
    refine aw_cond _ oz (fun hc => ?_) (fun hc => ?_)
    · skip
      refine aw_seq ?_
      refine aw_region (by decide) ?_
      refine rts _ rfl ((by first | exact opD_load_one ag107 (os rfl (os rfl oz)) (by first | exact loc_get rfl | exact old_get (by assumption)) rfl | exact opD_load_el_one ag107 (os rfl (os rfl oz)) (by first | assumption | simp) rfl)) ?_
      refine rts _ rfl (opD_assign lz) ?_
      refine .nil ?_
      refine aw_keep [(2, _), (8, _), (5, _), (3, _), (0, _)] ⟨lg lz, lg (ls rfl (ls rfl oz)), lg (ls rfl (ls rfl (os rfl oz))), lg (ls rfl (ls rfl (os rfl (os rfl oz)))), lg (ls rfl (ls rfl (os rfl (os rfl (os rfl (os rfl oz)))))), trivial⟩ ?_
      refine aw_ret ?_
      exact done_ext (.inr rfl) (res_1 rfl (eg oz)) (pl_bnd _ _ _)
    · skip
      exfalso; revert hc; simp

theorem num28 {s : St} {o : Option Int} (hst : StGV s) : AC Go.Proofs.Tryz.prog 16 [pl (errV o)] s (pl (.int .i64 (numV o))) s := by
  cases o with
  | none => exact num28_none
  | some c => exact num28_some hst

end Go.Proofs.YtokcgacehdgkcaaGreatDoor.Eng.Er2

