/- The reader of fields: numbers, bytes, what is left, whether it is done, and a new one. -/
import Derived.Test.YtmnhfpcbfdgbcaaDoorRd
namespace Go.Proofs.YtmnhfpcbfdgbcaaDoor.Hand
set_option linter.unusedVariables false
set_option linter.unusedSimpArgs false
open Go.RowKit Go.Proofs.YtmnhfpcbfdgbcaaDoorW.PrintWords Go.Proofs.YtmnhfpcbfdgbcaaDoorW.PrintLast Go.Proofs.YtmnhfpcbfdgbcaaDoorW.PrintMore Go.Proofs.YtmnhfpcbfdgbcaaDoor.Plain

theorem _root_.Go.World.grownBy.drewN_left {w w1 : World} {m : Nat} {row : Option Nat} (h : (w.drewN m).grownBy w1 row) : w.grownBy w1 row := ⟨h.os, h.tape, h.output, h.size, h.block⟩
theorem _root_.Go.World.grownBy.drewN_right {w w1 : World} {m : Nat} {row : Option Nat} (h : w.grownBy w1 row) : w.grownBy (w1.drewN m) row := ⟨h.os, h.tape, h.output, h.size, h.block⟩

set_option maxHeartbeats 1000000 in
theorem rd_num_nil (most : Int) (w : World) :
    Calls Tryd.prog 23 #[.pointer none, .int .u64 most] w fun e w' => e = .returned (.int .u64 0) ∧ w' = w := by
  go_enter Tryd.func23, Tryd.ntmps23
  go_wp2
  go_ret
  exact ⟨rfl, rfl⟩

set_option maxHeartbeats 2000000 in
set_option maxRecDepth 100000 in
theorem rd_num (g : Nat) (l : List Int) (b : Bool) (most : Nat) (w : World) (h : RdAt w g l b) (hm : most < 18446744073709551616) :
    Calls Tryd.prog 23 #[.pointer (some ⟨g, 0, none⟩), .int .u64 (most : Int)] w fun e w' => e = .returned (.int .u64 ((rdNum most l b).1 : Int)) ∧ RdAt w' g (rdNum most l b).2.1 (rdNum most l b).2.2 ∧ w.grownBy w' (some g) := by
  obtain ⟨A, c, h1, h2, h3, h4, h5⟩ := h
  have hc0 : w.cell? ⟨g, 0, none⟩ = some (.slice A l.length c) := (blk_cell h1 0).trans rfl
  have hf0 : w.frozen? ⟨g, 0, none⟩ = false := blk_frozen h1 0
  have HM := Aside0.mk hm
  have hvg := varint_get A c l w h3 h2 h5
  have hrg := vget_range h5
  have hok := @vget_ok l
  have H1 := Aside0.mk h1; have H3 := Aside0.mk h3; have H4 := Aside0.mk h4; have H5 := Aside0.mk h5
  clear h1 h3 h4 h5 hm
  have hnum : rdNum most l b = if (vget l).2.2 = none ∧ (vget l).1 ≤ most then ((vget l).1, l.drop (vget l).2.1, b) else (0, [], true) := rfl
  rw [hnum]
  clear hnum
  generalize vget l = r at *
  obtain ⟨v, n, o⟩ := r
  have HVG := Aside0.mk hvg
  have HRG := Aside0.mk hrg
  clear hvg hrg
  simp only at HVG HRG
  cases o with
  | some e0 =>
    rw [if_neg (by simp)]
    clear hok
    simp only [errV] at HVG
    go_enter Tryd.func23, Tryd.ntmps23
    go_wp2_with (first
      | (go_at_call 88; refine HVG.out.mono ?_; rintro e w1 ⟨rfl, ⟨m, rfl⟩⟩)
      | (go_at_call 89; refine (rd_fail g _ _ _ (blk_drewN H1.out _)).mono ?_; rintro e w1 ⟨rfl, hr, hg⟩; have HR := Aside0.mk hr; have HG := Aside0.mk hg; clear hr hg))
    go_ret
    exact ⟨rfl, HR.out, HG.out.drewN_left⟩
  | none =>
    simp only [errV] at HVG
    have hn := hok rfl
    clear hok
    obtain ⟨A', hs, hrd, hle, hA'⟩ := drop_u8 A c l n hn.2 h2
    have HRD := Aside0.mk hrd; have HLE := Aside0.mk hle; have HA' := Aside0.mk hA'; have HN := Aside0.mk hn
    clear hrd hle hA' hn
    by_cases hv : v ≤ most
    · rw [if_pos ⟨rfl, hv⟩]
      have hvb : decide ((most : Int) < (v : Int)) = false := by simp; omega
      go_enter Tryd.func23, Tryd.ntmps23
      go_wp2_with (first
        | (go_at_call 88; refine HVG.out.mono ?_; rintro e w1 ⟨rfl, ⟨m, rfl⟩⟩))
      go_ret
      refine ⟨rfl, ?_, (grown_set (w.drewN m) ⟨g, 0, none⟩ _).drewN_left⟩
      have hp := RdAt.put (w := w.drewN m) H1.out HLE.out (HRD.out _ H3.out) (fun ad' e hl => by
        obtain ⟨ad1, e1, e2⟩ := HA'.out ad' e
        rw [e2]; exact H4.out ad1 e1 (by simp at hl; omega)) (H5.out.drop _) rfl
      simpa only [List.length_drop] using hp
    · rw [if_neg (by simp; omega)]
      have hvb : decide ((most : Int) < (v : Int)) = true := by simp; omega
      go_enter Tryd.func23, Tryd.ntmps23
      go_wp2_with (first
        | (go_at_call 88; refine HVG.out.mono ?_; rintro e w1 ⟨rfl, ⟨m, rfl⟩⟩)
        | (go_at_call 89; refine (rd_fail g _ _ _ (blk_drewN H1.out _)).mono ?_; rintro e w1 ⟨rfl, hr, hg⟩; have HR := Aside0.mk hr; have HG := Aside0.mk hg; clear hr hg))
      go_ret
      exact ⟨rfl, HR.out, HG.out.drewN_left⟩

set_option maxHeartbeats 1000000 in
theorem rd_left_nil (w : World) :
    Calls Tryd.prog 28 #[.pointer none] w fun e w' => e = .returned (.int .i64 0) ∧ w' = w := by
  go_enter Tryd.func28, Tryd.ntmps28
  go_wp2
  go_ret
  exact ⟨rfl, rfl⟩
set_option maxHeartbeats 1000000 in
theorem rd_left (g : Nat) (l : List Int) (b : Bool) (w : World) (h : RdAt w g l b) :
    Calls Tryd.prog 28 #[.pointer (some ⟨g, 0, none⟩)] w fun e w' => e = .returned (.int .i64 l.length) ∧ w' = w := by
  obtain ⟨A, c, h1, h2, h3, h4, h5⟩ := h
  have hc0 : w.cell? ⟨g, 0, none⟩ = some (.slice A l.length c) := (blk_cell h1 0).trans rfl
  clear h1 h3 h4 h5
  go_enter Tryd.func28, Tryd.ntmps28
  go_wp2
  go_ret
  exact ⟨rfl, rfl⟩

set_option maxHeartbeats 1000000 in
theorem rd_done_nil (w : World) :
    Calls Tryd.prog 26 #[.pointer none] w fun e w' => e = .returned (errV (some 3)) ∧ Drawn0 w w' := by
  go_enter Tryd.func26, Tryd.ntmps26
  go_wp2
  go_ret
  exact ⟨by first | rfl | simp [errV, rdDone, *], by repeat (first | exact Drawn0.refl _ | apply Drawn0.step)⟩
/-- Is it done? -/
def rdDone (l : List Int) (b : Bool) : Option Int := if b = true ∨ 0 < l.length then some 3 else none
set_option maxHeartbeats 1000000 in
theorem rd_done (g : Nat) (l : List Int) (b : Bool) (w : World) (h : RdAt w g l b) :
    Calls Tryd.prog 26 #[.pointer (some ⟨g, 0, none⟩)] w fun e w' => e = .returned (errV (rdDone l b)) ∧ Drawn0 w w' := by
  obtain ⟨A, c, h1, h2, h3, h4, h5⟩ := h
  have hc0 : w.cell? ⟨g, 0, none⟩ = some (.slice A l.length c) := (blk_cell h1 0).trans rfl
  have hc1 : w.cell? ⟨g, 1, none⟩ = some (.bool b) := (blk_cell h1 1).trans rfl
  clear h1 h3 h4 h5
  cases b with
  | true =>
    go_enter Tryd.func26, Tryd.ntmps26
    go_wp2
    go_ret
    exact ⟨by first | rfl | simp [errV, rdDone, *], by repeat (first | exact Drawn0.refl _ | apply Drawn0.step)⟩
  | false =>
    by_cases hl : 0 < l.length
    · have hb : decide (0 < (l.length : Int)) = true := by simp; omega
      go_enter Tryd.func26, Tryd.ntmps26
      go_wp2
      go_ret
      exact ⟨by first | rfl | simp [errV, rdDone, *], by repeat (first | exact Drawn0.refl _ | apply Drawn0.step)⟩
    · have hb : decide (0 < (l.length : Int)) = false := decide_eq_false (by omega)
      go_enter Tryd.func26, Tryd.ntmps26
      go_wp2
      go_ret
      exact ⟨by first | rfl | simp [errV, rdDone, *], by repeat (first | exact Drawn0.refl _ | apply Drawn0.step)⟩

theorem R_typed {α : Type} {d : Kd α} {e : Nat} {w : World} {base : Nat} {ok : Nat → Prop} {A : Option Addr} {n c : Nat} {xs : List α} (h : d.R e w base ok (.slice A n c) xs) {ad : Addr} (hA : A = some ad) : ∃ cells, w.heap[ad.block]? = some (.cells cells e (0, 0)) := by
  obtain ⟨inner, ho⟩ := Kd.R_own h
  subst hA
  exact own_typed ho ad.block rfl

set_option maxHeartbeats 2000000 in
set_option maxRecDepth 100000 in
theorem rd_new (A : Option Addr) (c : Nat) (l : List Int) (w : World) (hr : Kd.C (Kd.int .u8) w A l.length l) (hc : l.length ≤ c) (hl : l.length < 140737488355328) (hb : Bts l) :
    Calls Tryd.prog 22 #[.slice A l.length c] w fun e w' => ∃ g, e = .returned (.pointer (some ⟨g, 0, none⟩)) ∧ w.heap.size ≤ g ∧ RdAt w' g l false ∧ Below w.heap.size w w' := by
  have HR := Aside0.mk hr
  have HL := Aside0.mk hl
  have HBT := Aside0.mk hb
  clear hr hl hb
  go_enter Tryd.func22, Tryd.ntmps22
  go_wp2_with (go_at_call 86; refine (clone_u8 _ _ _ _ HR.out hc HL.out).mono ?_; rintro e w1 ⟨v, rfl, ho, hb⟩; obtain ⟨A', c', rfl, hle, hC⟩ := Kd.R_reads ho; have HO := Aside0.mk ho; have HB := Aside0.mk hb; have HC := Aside0.mk hC; clear ho hb hC)
  go_ret
  have h1 := blk_new w1 (.cells #[.slice A' l.length c', .bool false] 164)
  refine ⟨_, rfl, HB.out.size, ⟨A', c', h1, hle, C_move (flat_int _) HC.out (fun ad e hl => ?_), fun ad e hl => ?_, HBT.out⟩, below_alloc HB.out _⟩
  · obtain ⟨cells, hb⟩ := R_typed HO.out e
    exact Below.heap_alloc w1 _ _ (blk_lt hb)
  · obtain ⟨cells, hb⟩ := R_typed HO.out e
    exact ⟨cells, _, (Below.heap_alloc w1 _ _ (blk_lt hb)).trans hb⟩
end Go.Proofs.YtmnhfpcbfdgbcaaDoor.Hand
