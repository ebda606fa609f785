/- The reader of fields: bytes. -/
import Derived.Test.YtmnhfpcbfdgbcaaDoorRd2
namespace Go.Proofs.YtmnhfpcbfdgbcaaDoor.Hand
set_option linter.unusedVariables false
set_option linter.unusedSimpArgs false
open Go.RowKit Go.Proofs.YtmnhfpcbfdgbcaaDoorW.PrintWords Go.Proofs.YtmnhfpcbfdgbcaaDoorW.PrintLast Go.Proofs.YtmnhfpcbfdgbcaaDoorW.PrintMore Go.Proofs.YtmnhfpcbfdgbcaaDoor.Plain
attribute [local go_sem] max2_int min2_int max_two min_two max_three min_three max_four min_four

theorem i64_wrap_nat {n : Nat} (h : n < 9223372036854775808) : IntKind.i64.wrap (n : Int) = (n : Int) := by
  simp only [IntKind.wrap, IntKind.bits, IntKind.signed]
  simp
  omega

set_option maxHeartbeats 1000000 in
theorem rd_bytes_nil (most : Int) (w : World) :
    Calls Tryd.prog 24 #[.pointer none, .int .i64 most] w fun e w' => e = .returned (.slice none 0 0) ∧ w' = w := by
  go_enter Tryd.func24, Tryd.ntmps24
  go_wp2_with (go_at_call 23; refine (rd_num_nil _ _).mono ?_; rintro e w1 ⟨rfl, rfl⟩)
  all_goals
    go_ret
    exact ⟨rfl, rfl⟩

theorem R_set_old {α : Type} {d : Kd α} {e B : Nat} {w : World} {ok : Nat → Prop} {v : Value} {xs : List α} (h : d.R e w B ok v xs) {g : Nat} (hg : g < B) (j : Nat) (u : Value) : d.R e (w.setCell ⟨g, j, none⟩ u) B (fun _ => True) v xs :=
  Kd.R_mono (Kd.R_far (p := ⟨g, j, none⟩) (Kd.R_mono (ok' := fun k => B ≤ k) (Kd.R_bound h) (fun k hk => hk.2.1)) (fun k hk => by show k ≠ g; omega) u) (fun _ _ => trivial)

set_option maxHeartbeats 4000000 in
set_option maxRecDepth 100000 in
theorem rd_bytes (g : Nat) (l : List Int) (b : Bool) (most : Nat) (w : World) (h : RdAt w g l b) (hm : most < 9223372036854775808) (hl : l.length < 140737488355328) :
    Calls Tryd.prog 24 #[.pointer (some ⟨g, 0, none⟩), .int .i64 (most : Int)] w fun e w' => ∃ v : Value, e = .returned v ∧ Kd.R (Kd.int .u8) 5 w' w.heap.size (fun _ => True) v (rdBytes most l b).1 ∧ RdAt w' g (rdBytes most l b).2.1 (rdBytes most l b).2.2 ∧ w.grownBy w' (some g) := by
  have hnum := rdNum_le most l b
  have hby : rdBytes most l b = if (rdNum most l b).1 ≤ (rdNum most l b).2.1.length then ((rdNum most l b).2.1.take (rdNum most l b).1, (rdNum most l b).2.1.drop (rdNum most l b).1, (rdNum most l b).2.2) else ([], [], true) := rfl
  have hcall := rd_num g l b most w h (by omega)
  rw [hby]
  clear hby
  generalize rdNum most l b = r at *
  obtain ⟨n, l1, b1⟩ := r
  simp only at hcall hnum ⊢
  have hw : IntKind.u64.wrap (most : Int) = (most : Int) := u64_wrap_nat (by omega)
  have hwn : IntKind.i64.wrap (n : Int) = (n : Int) := i64_wrap_nat (by omega)
  have hw0 : IntKind.u64.wrap 0 = 0 := rfl
  have HM := Aside0.mk hm; have HL := Aside0.mk hl; have HH := Aside0.mk h; have HNUM := Aside0.mk hnum; have HCALL := Aside0.mk hcall
  have HCALL0 : Aside0 (most = 0 → Calls Tryd.prog 23 #[.pointer (some ⟨g, 0, none⟩), .int .u64 0] w fun e w' => e = .returned (.int .u64 (n : Int)) ∧ RdAt w' g l1 b1 ∧ w.grownBy w' (some g)) := ⟨fun e => by subst e; exact hcall⟩
  clear hm hl h hnum hcall
  by_cases hn : n ≤ l1.length
  · rw [if_pos hn]
    have hb0 : decide (l1.length < n) = false := decide_eq_false (by omega)
    have HN := Aside0.mk hn
    clear hn
    go_enter Tryd.func24, Tryd.ntmps24
    go_wp2_with fail
    all_goals first
      | ((with_reducible refine HCALL.out.mono ?_))
      | ((with_reducible refine (HCALL0.out (by omega)).mono ?_))
    all_goals
      rintro e w1 ⟨rfl, ⟨A, c, h1, h2, h3, h4, h5⟩, hg⟩
      have hc0 : w1.cell? ⟨g, 0, none⟩ = some (.slice A l1.length c) := (blk_cell h1 0).trans rfl
      have hf0 : w1.frozen? ⟨g, 0, none⟩ = false := blk_frozen h1 0
      have H1 := Aside0.mk h1; have H3 := Aside0.mk h3; have H4 := Aside0.mk h4; have H5 := Aside0.mk h5; have HG := Aside0.mk hg
      clear h1 h3 h4 h5 hg
      obtain ⟨A', hs, hrd, hle, hA'⟩ := drop_u8 A c l1 n HN.out h2
      obtain ⟨hs2, hrd2, hle2⟩ := take_u8 A c l1 n HN.out h2
      have hlt : (l1.take n).length < 140737488355328 := by have := HL.out; have := HNUM.out; simp; omega
      have hb3 : Bts (l1.drop n) := H5.out.drop n
      have hlz : 0 < (l1.drop n).length → 0 < l1.length := fun h => by simp at h; omega
      clear HN
      generalize e2 : l1.take n = l2 at *
      generalize e3 : l1.drop n = l3 at *
      have E2 := Aside0.mk e2; have E3 := Aside0.mk e3
      clear e2 e3
      have HRD := Aside0.mk hrd; have HLE := Aside0.mk hle; have HA' := Aside0.mk hA'; have HRD2 := Aside0.mk hrd2; have HLE2 := Aside0.mk hle2
      have HLT := Aside0.mk hlt; have HB3 := Aside0.mk hb3; have HLZ := Aside0.mk hlz
      clear hrd hle hA' hrd2 hle2 hlt hb3 hlz
      go_wp2_with fail
      ((with_reducible refine (clone_u8 _ _ l2 _ (HRD2.out _ H3.out) HLE2.out HLT.out).mono ?_); rintro e w2 ⟨v, rfl, ho, hb⟩)
      have h1b : w2.heap[g]? = some (.cells #[.slice A l1.length c, .bool b1] 164 (0, 0)) := blk_below H1.out hb
      have hc0' : w2.cell? ⟨g, 0, none⟩ = some (.slice A l1.length c) := (blk_cell h1b 0).trans rfl
      have hf0' : w2.frozen? ⟨g, 0, none⟩ = false := blk_frozen h1b 0
      have H1B := Aside0.mk h1b; have HO := Aside0.mk ho; have HB := Aside0.mk hb
      clear h1b ho hb
      go_wp2
      go_ret
      rw [E2.out, E3.out]
      refine ⟨v, rfl, ?_, RdAt.put H1B.out HLE.out (Kd.C_below (HRD.out _ H3.out) HB.out) (fun ad' e hl => ?_) HB3.out rfl, ?_⟩
      · exact Kd.R_lower (R_set_old HO.out (blk_lt H1.out) 0 _) HG.out.size
      · obtain ⟨ad1, e1, e2⟩ := HA'.out ad' e
        rw [e2]
        obtain ⟨cells, fr, hb⟩ := H4.out ad1 e1 (HLZ.out hl)
        exact ⟨cells, fr, blk_below hb HB.out⟩
      · exact (HG.out.trans (grown_of_below HB.out _)).trans (grown_set w2 ⟨g, 0, none⟩ _)
  · rw [if_neg hn]
    have hb0 : decide (l1.length < n) = true := decide_eq_true (by omega)
    have HN := Aside0.mk hn
    clear hn
    go_enter Tryd.func24, Tryd.ntmps24
    go_wp2_with fail
    all_goals first
      | ((with_reducible refine HCALL.out.mono ?_))
      | ((with_reducible refine (HCALL0.out (by omega)).mono ?_))
    all_goals
      rintro e w1 ⟨rfl, ⟨A, c, h1, h2, h3, h4, h5⟩, hg⟩
      have hc0 : w1.cell? ⟨g, 0, none⟩ = some (.slice A l1.length c) := (blk_cell h1 0).trans rfl
      have hf0 : w1.frozen? ⟨g, 0, none⟩ = false := blk_frozen h1 0
      have H1 := Aside0.mk h1; have H3 := Aside0.mk h3; have H4 := Aside0.mk h4; have H5 := Aside0.mk h5; have HG := Aside0.mk hg
      clear h1 h3 h4 h5 hg
      go_wp2_with (go_at_call 89; refine (rd_fail g _ _ _ H1.out).mono ?_; rintro e w2 ⟨rfl, hr, hg⟩; have HR := Aside0.mk hr; have HG2 := Aside0.mk hg; clear hr hg)
      go_ret
      exact ⟨_, rfl, Kd.R_nil _ _ _ _ _, HR.out, HG.out.trans HG2.out⟩
end Go.Proofs.YtmnhfpcbfdgbcaaDoor.Hand
