/- EC1: what functions do, walked; used by the laws of this seat. -/
import Derived.Test.YtmnhfpcbfdgbcaaDoorEW2
import Derived.Test.YtmnhfpcbfdgbcaaDoorEngX4
import Derived.Test.YtmnhfpcbfdgbcaaDoorErr3
namespace Go.Proofs.YtmnhfpcbfdgbcaaDoor.Eng.Er3
set_option linter.unusedVariables false
set_option linter.unusedSimpArgs false
open Go.RowKit Go.Proofs.YtmnhfpcbfdgbcaaDoor.Plain Go.Proofs.YtmnhfpcbfdgbcaaDoor.Eng

theorem pt222 : placesT Go.Proofs.Tryd.prog 222 1 = some [(0, 1)] := by kernel_rfl
theorem zt222 : zeroT Go.Proofs.Tryd.prog 222 = some [.string ⟨#[]⟩] := by kernel_rfl
theorem cc220 : Go.Proofs.Tryd.prog.concrete 220 = true := by kernel_rfl

open Go.Proofs.YtmnhfpcbfdgbcaaDoor.Eng.Pk Go.Proofs.YtmnhfpcbfdgbcaaDoor.Eng.Rd Go.Proofs.YtmnhfpcbfdgbcaaDoor.Eng.Er Go.Proofs.YtmnhfpcbfdgbcaaDoor.Hand
/-- An error that is none of the program's. -/
def oe : Pd := ⟨fun _ _ v => ∃ a, v = .iface 220 (.pointer (some a)), fun _ h => h⟩
theorem oe_bnd (n m : Nat) : oe.Bnd n m := fun _ _ _ _ _ _ _ h => h
theorem one_oe : oe.One := fun _ _ _ ⟨_, hv⟩ => by rw [hv]; rfl
theorem oe_of (b off : Nat) : (ifc 220 (ptr b off)).le oe := fun _ _ v ⟨_, hv, k, _, h⟩ => ⟨⟨k, off, none⟩, hv.trans (by rw [h])⟩
section
variable {e : Env} {s : St} {dst : Option Tmp} {ty : TypeId} {pos : String} {after : Array Edge} {guard : Option (Nat × Bool)} {x : Operand} {yt : TypeId}
theorem opD_oe_eql (hx : e.ev x = oe) : OpD Go.Proofs.Tryd.prog ⟨dst, .binOp .eql 34 x (.const .nilIface) yt, ty, pos, after, guard⟩ e s (pl (.bool false)) s :=
  opD_look fun g a w ha _ => by
    have h1 := ha x (by simp [Op.operands])
    rw [hx] at h1
    obtain ⟨p, hv⟩ := h1
    have hg : ∀ p w, (eqGuard .eql 34 x (.const .nilIface) (.iface 220 (.pointer (some p))) .nilIface).run Go.Proofs.Tryd.prog w = .ok () w := fun p w => by simp [go_sem]
    have hr : ∀ p w, (binOp .eql 34 (.iface 220 (.pointer (some p))) .nilIface).run Go.Proofs.Tryd.prog w = .ok (.bool false) w := fun p w => by simp [go_sem]
    refine ⟨.bool false, ?_, rfl⟩
    have hc : a.eval (.const .nilIface) = .nilIface := rfl
    generalize a.eval = ρ at hv hc ⊢
    simp [execOp, hv, hc, go_sem, hg, hr]
theorem opD_oe_neq (hx : e.ev x = oe) : OpD Go.Proofs.Tryd.prog ⟨dst, .binOp .neq 34 x (.const .nilIface) yt, ty, pos, after, guard⟩ e s (pl (.bool true)) s :=
  opD_look fun g a w ha _ => by
    have h1 := ha x (by simp [Op.operands])
    rw [hx] at h1
    obtain ⟨p, hv⟩ := h1
    have hg : ∀ p w, (eqGuard .neq 34 x (.const .nilIface) (.iface 220 (.pointer (some p))) .nilIface).run Go.Proofs.Tryd.prog w = .ok () w := fun p w => by simp [go_sem]
    have hr : ∀ p w, (binOp .neq 34 (.iface 220 (.pointer (some p))) .nilIface).run Go.Proofs.Tryd.prog w = .ok (.bool true) w := fun p w => by simp [go_sem]
    refine ⟨.bool true, ?_, rfl⟩
    have hc : a.eval (.const .nilIface) = .nilIface := rfl
    generalize a.eval = ρ at hv hc ⊢
    simp [execOp, hv, hc, go_sem, hg, hr]
end
theorem as_missB {s : St} {b : Nat} {old : Pd} (hst : StGV s) (hB : s.boxes[b]? = some ⟨107, [old]⟩) : AC Go.Proofs.Tryd.prog 90 [oe, ifc 168 (ptr b 0)] s (pl (.bool false)) s := by
  intro g w vs hps hs
  obtain ⟨v1, v2, rfl⟩ : ∃ v1 v2, vs = [v1, v2] := by
    match vs, hps with
    | [a, b], _ => exact ⟨a, b, rfl⟩
    | [], h => exact h.elim
    | [_], h => exact h.2.elim
    | _ :: _ :: _ :: _, h => exact h.2.2.elim
  obtain ⟨⟨pe, h1⟩, ⟨x, h2, k, hk, h3⟩, _⟩ := hps
  obtain ⟨k', us, q1, q2, q3, q4, q5, q6⟩ := hs.bx b _ hB
  rw [hk] at q1; cases q1
  have hlen := q3.len
  have hsize : 0 < us.size := by simp at hlen; omega
  have hcell : w.cell? ⟨k, 0, none⟩ = some us[0] := by rw [box_cell (g := g) q2]; simp [hsize]
  have hfr : w.frozen? ⟨k, 0, none⟩ = false := by simp [World.frozen?, q2]
  rw [h1, h2, h3]
  refine (as_miss pe ⟨k, 0, none⟩ us[0] w (hst g w hs.st) hcell hfr).mono ?_
  rintro e w' ⟨rfl, rfl⟩
  have hold : ∀ (o1 o2 o3 : Obj) (j : Nat), j < w.heap.size → (((w.alloc o1).alloc o2).alloc o3).heap[j]? = w.heap[j]? := fun o1 o2 o3 j hj => by
    rw [alloc_heap_old _ _ (by simp; omega), alloc_heap_old _ _ (by simp; omega), alloc_heap_old _ _ hj]
  generalize hW : ((w.alloc _).alloc _).alloc _ = W
  have hold' : ∀ j, j < w.heap.size → W.heap[j]? = w.heap[j]? := fun j hj => by subst hW; exact hold _ _ _ j hj
  have hWs : w.heap.size ≤ W.heap.size := by subst hW; simp; omega
  have hos : W.os = w.os ∧ W.tape = w.tape ∧ W.output = w.output := by subst hW; exact ⟨rfl, rfl, rfl⟩
  clear hW
  have hkl : k < w.heap.size := (Array.getElem?_eq_some_iff.1 q2).1
  obtain ⟨r1, r2⟩ := other_box (w' := W) (cs := us) (ps := [old]) hs hB hk q2 hos.1 hos.2.1 hos.2.2 hWs
    (fun j hj hne => hold' j hj) (by rw [hold' k hkl]; exact q2) (by simp) q3 q6
  have hself : s.upd b ⟨107, [old]⟩ = s := upd_self hB
  have r2' : SRel g s W := by rw [← hself]; exact r2
  exact ⟨_, g, rfl, rfl, r1, r2'⟩

set_option maxRecDepth 100000 in
set_option maxHeartbeats 1000000 in
theorem new_oe {u : ByteArray} : Pure Go.Proofs.Tryd.prog 96 [pl (.string u)] oe := by
  intro s
  refine ac_of_aw s.boxes.length s.fr.length Go.Proofs.Tryd.func96 rfl (by simp [Go.Proofs.Tryd.ntmps96]) ?_
  refine aw_ext0 ?_
  refine aw_keep [(0, _)] ⟨lg ez, trivial⟩ ?_
  refine aw_seq ?_
  refine aw_region (by decide) ?_
  refine rts _ rfl (opD_assign (ev_const _ _)) ?_
  refine .nil ?_
  refine aw_keep [(2, _), (0, _)] ⟨lg lz, lg (ls rfl oz), trivial⟩ ?_
  refine aw_seq ?_
  refine aw_region (by decide) ?_
  refine rts _ rfl (opD_move (os rfl oz)) ?_
  refine rts _ rfl (opD_build_struct (rs := [_]) Go.Proofs.Tryd.underlying222 pt222 zt222 (parts_cons (cells1 lz (by first | exact one_pl rfl | exact one_sl _ _ _ _ | exact one_ptr _ _ | exact one_ifc _ _)) parts_nil) rfl) ?_
  refine rts _ rfl (opD_boxA lz (by repeat (first | exact bnd_nil | refine bnd_cons (by first | exact pl_bnd _ _ _ | exact sl_bnd (kI_bnd _ _ _ _) | exact ptr_bnd _ (by omega)) ?_)) (by first | exact List.length_nil | (simp only [List.length_cons, List.length_nil, Nat.zero_add, Nat.reduceAdd]; rfl)) (by simp only [List.nil_append, List.cons_append, List.map_cons, List.map_nil, List.set_cons_zero, List.set_cons_succ, List.take_succ_cons, List.take_zero, List.drop_succ_cons, List.drop_zero]; rfl)) ?_
  refine rts _ rfl ((by first | exact opD_makeInterface_pl cc220 lz | exact opD_makeInterface cc220 lz)) ?_
  refine rts _ rfl (opD_assign lz) ?_
  refine .nil ?_
  refine aw_keep [(2, _), (0, _)] ⟨lg lz, lg (ls rfl (ls rfl (ls rfl (ls rfl (ls rfl (os rfl oz)))))), trivial⟩ ?_
  refine aw_ret ?_
  exact done_ext (.inr rfl) ((res_1 rfl (eg oz)).le (oe_of _ _)) (oe_bnd _ _)
end Go.Proofs.YtmnhfpcbfdgbcaaDoor.Eng.Er3

