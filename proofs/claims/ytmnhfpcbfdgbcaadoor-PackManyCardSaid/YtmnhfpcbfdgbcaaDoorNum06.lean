/- The laws' own 'num': an error's number. -/
import Derived.Test.YtmnhfpcbfdgbcaaDoorErr
import Derived.Test.YtmnhfpcbfdgbcaaDoorHand
namespace Go.Proofs.YtmnhfpcbfdgbcaaDoor.Hand
set_option linter.unusedVariables false
set_option linter.unusedSimpArgs false
open Go.RowKit Go.Proofs.YtmnhfpcbfdgbcaaDoorW.PrintWords Go.Proofs.YtmnhfpcbfdgbcaaDoorW.PrintLast Go.Proofs.YtmnhfpcbfdgbcaaDoorW.PrintMore

def errV : Option Int → Value
  | none => .nilIface
  | some c => .iface 107 (.int .i64 c)
def numV : Option Int → Int
  | none => 0
  | some c => c
/-- The library's one variable, as it is laid. -/
def GV (w : World) : Prop := w.cell? ⟨0, 0, none⟩ = some (.iface 232 (.agg #[.pointer (some ⟨1, 34, none⟩)]))
theorem GV.below {w w' : World} (h : GV w) (hb : Below w.heap.size w w') : GV w' := pw_cell_below hb h

theorem grown_set (w : World) (a : Addr) (u : Value) : w.grownBy (w.setCell a u) (some a.block) :=
  ⟨rfl, rfl, rfl, by simp [World.setCell], fun i _ hi => Below.heap_setCell w a u i (fun e => hi (by rw [e]))⟩
theorem grown_mono {w w' : World} (h : w.grownBy w' none) (row : Option Nat) : w.grownBy w' row := ⟨h.os, h.tape, h.output, h.size, fun i hi _ => h.block i hi (by simp)⟩

theorem as_any (c : Int) (t : Addr) (old : Value) (w : World) (hg : GV w) (ht : w.cell? t = some old) (hf : w.frozen? t = false) :
    Calls Tryd.prog 90 #[.iface 107 (.int .i64 c), .iface 168 (.pointer (some t))] w fun e w' => e = .returned (.bool true) ∧ w'.cell? t = some (.int .i64 c) ∧ w.grownBy w' (some t.block) := by
  refine (as_hit c t old w hg ht hf).mono ?_
  rintro e w' ⟨rfl, rfl⟩
  have h4 : ∀ (o1 o2 o3 o4 : Obj), w.grownBy ((((w.alloc o1).alloc o2).alloc o3).alloc o4) (some t.block) := fun o1 o2 o3 o4 =>
    (((World.grownBy_alloc w o1 _).trans (World.grownBy_alloc _ o2 _)).trans (World.grownBy_alloc _ o3 _)).trans (World.grownBy_alloc _ o4 _)
  have hlt : t.block < w.heap.size := World.block_lt_of_cell? w t ht
  refine ⟨rfl, ?_, (h4 _ _ _ _).trans (grown_set _ _ _)⟩
  generalize hW : (((w.alloc _).alloc _).alloc _).alloc _ = W
  have hc : W.cell? t = some old := by
    subst hW
    rw [World.cell?_alloc_lt _ _ t (by simp; omega), World.cell?_alloc_lt _ _ t (by simp; omega), World.cell?_alloc_lt _ _ t (by simp; omega), World.cell?_alloc_lt _ _ t hlt]; exact ht
  exact World.cell?_setCell_same _ _ _ hc

set_option maxHeartbeats 1000000 in
theorem num_06_some (c : Int) (w : World) (hg : GV w) :
    Calls Tryd.prog 27 #[.iface 107 (.int .i64 c)] w fun e w' => e = .returned (.int .i64 c) ∧ Below w.heap.size w w' := by
  have HG := Aside0.mk hg
  clear hg
  have HA := as_any c ⟨w.heap.size, 0, none⟩ (.int .i64 0) (w.alloc (.cells #[.int .i64 0] 107)) (HG.out.below (below_alloc (Below.refl _ _) _)) (by simp) (by simp)
  have HA' := Aside0.mk HA
  clear HA
  go_enter Tryd.func27, Tryd.ntmps27
  go_wp2_with fail
  refine HA'.out.mono ?_
  rintro e w1 ⟨rfl, hc, hgr⟩
  have HGR := Aside0.mk hgr
  clear hgr
  go_wp2
  go_ret
  exact ⟨rfl, (below_alloc (Below.refl _ _) _).grown HGR.out (by simp) (by simp)⟩
theorem num_06 (o : Option Int) (w : World) (hg : GV w) :
    Calls Tryd.prog 27 #[errV o] w fun e w' => e = .returned (.int .i64 (numV o)) ∧ Below w.heap.size w w' := by
  cases o with
  | some c => exact num_06_some c w hg
  | none =>
    show Calls Tryd.prog 27 #[.nilIface] w fun e w' => e = .returned (.int .i64 0) ∧ Below w.heap.size w w'
    go_enter Tryd.func27, Tryd.ntmps27
    go_wp2
    go_ret
    exact ⟨rfl, below_alloc (Below.refl _ _) _⟩
end Go.Proofs.YtmnhfpcbfdgbcaaDoor.Hand
