/- PackBack: the walk. -/
import Derived.Test.YtmnhfpcbfdgbcaaDoorSure06
import Derived.Deep.RegionWith
import Derived.Deep.RegionHeld3
import Derived.Deep.DrawnRows
namespace Go.Proofs.YtmnhfpcbfdgbcaaDoor.Hand
open Go.RowKit Go.Proofs.YtmnhfpcbfdgbcaaDoorW.PrintWords Go.Proofs.YtmnhfpcbfdgbcaaDoorW.PrintLast Go.Proofs.YtmnhfpcbfdgbcaaDoorW.PrintMore Go.Proofs.YtmnhfpcbfdgbcaaDoor.Plain
attribute [local go_sem ↓] Go.wp_at_zero Go.wp_at_succ

set_option maxHeartbeats 4000000 in
set_option maxRecDepth 100000 in
theorem packBack_walk (x : Int) (n : Nat) (A : Option Addr) (c : Nat) (l : List Int) (w : World) (hg : GV w) (hx : 0 ≤ x ∧ x < 256) (hn : n < 18446744073709551616) (hr : Kd.C (Kd.int .u8) w A l.length l) (hc : l.length ≤ c) (hb : Bts l) :
    Calls Tryd.prog 3 #[.int .u8 x, .int .u64 n, .slice A l.length c] w fun e w' => e = .returned (.bool true) ∧ Below w.heap.size w w' := by
  have HGV := Aside0.mk hg; have HX := Aside0.mk hx; have HN := Aside0.mk hn; have HR := Aside0.mk hr; have HBT := Aside0.mk hb
  clear hg hx hn hr hb
  by_cases hl : 600 < l.length
  · have hb0 : decide ((600 : Int) < (l.length : Int)) = true := decide_eq_true (by omega)
    have HL := Aside0.mk hl
    clear hl
    go_enter Tryd.func3, Tryd.ntmps3
    go_wp2_with (go_at_call 18; refine (sure_06 _ HGV.out).mono ?_; rintro e w1 ⟨rfl, hb⟩)
    go_ret
    exact ⟨rfl, hb⟩
  · have hb0 : decide ((600 : Int) < (l.length : Int)) = false := decide_eq_false (by omega)
    have HL : Aside0 (l.length ≤ 600) := ⟨by omega⟩
    clear hl
    have h1 := pk_num none 0 [] n w (C_nil _ _ _) (Nat.le_refl _) (by simp) HN.out
    simp only [List.length_nil, List.nil_append] at h1
    have H1 := Aside0.mk h1
    clear h1
    go_enter Tryd.func3, Tryd.ntmps3
    go_wp2_with fail
    ((with_reducible refine H1.out.mono ?_); rintro e w1 ⟨v1, rfl, ho, hb⟩)
    obtain ⟨A1, c1, rfl, hc1, hC1⟩ := Kd.R_reads ho
    have HB1 := Aside0.mk hb
    have hv10 := vb_len10 HN.out
    have H2 := Aside0.mk (pk_bytes A1 A c1 c (vb n) l w1 hC1 hc1 (by omega) (Kd.C_below HR.out hb) hc (by have := HL.out; omega))
    have HV := Aside0.mk hv10
    clear ho hb hC1 H1 hv10
    go_wp2_with fail
    ((with_reducible refine H2.out.mono ?_); rintro e w2 ⟨v2, rfl, ho, hb⟩)
    obtain ⟨A2, c2, rfl, hc2, hC2⟩ := Kd.R_reads ho
    have HB2 := Aside0.mk (below_step HB1.out hb)
    have hll := vb_len10 (n := l.length) (by have := HL.out; omega)
    have hlen : (vb n ++ (vb l.length ++ l)).length ≤ 620 := by have := HL.out; have := HV.out; simp; omega
    have h3 := pk_byte A2 c2 _ x w2 hC2 hc2 (by omega)
    generalize hL : vb n ++ (vb l.length ++ l) = L at *
    have H3 := Aside0.mk h3; have EL := Aside0.mk hL; have HLEN := Aside0.mk hlen
    clear ho hb hC2 H2 HB1 h3 hL hlen hll
    go_wp2_with fail
    ((with_reducible refine H3.out.mono ?_); rintro e w3 ⟨v3, rfl, ho, hb⟩)
    obtain ⟨A3, c3, rfl, hc3, hC3⟩ := Kd.R_reads ho
    have HB3 := Aside0.mk (below_step HB2.out hb)
    have hbts : Bts (L ++ [x]) := by
      rw [← EL.out]
      exact ((vb_bts n).app ((vb_bts _).app HBT.out)).app (Bts.one HX.out.1 HX.out.2)
    have h4 := rd_new A3 c3 _ w3 hC3 hc3 (by have := HLEN.out; simp; omega) hbts
    obtain ⟨hs2, hrd2, hle2⟩ := take_u8 A3 c3 (L ++ [x]) L.length (by simp) hc3
    simp only [List.length_append, List.length_cons, List.length_nil, Nat.zero_add, List.take_left] at h4 hs2 hrd2 hle2 hC3
    have HC3 := Aside0.mk hC3; have HBTS := Aside0.mk hbts
    have hL1 : 0 < L.length := by have := HLEN.out; have := HV.out; rw [← EL.out]; simp; omega
    have hL2 : L.length ≤ 620 := HLEN.out
    clear ho hb hC3 H3 HB2 hbts hc3
    have H4 := Aside0.mk h4; have HRD2 := Aside0.mk hrd2; have HLE2 := Aside0.mk hle2
    clear h4 hrd2 hle2
    go_wp2_with fail
    ((with_reducible refine H4.out.mono ?_); rintro e w4 ⟨g, rfl, hge, hrd, hb⟩)
    have HGE : Aside0 (w3.heap.size ≤ g) := ⟨hge⟩
    have HB4 := Aside0.mk hb
    have HRD := Aside0.mk hrd
    clear hge hrd hb H4
    have hs0 : Aside0 (∀ W, Aside0 (Below w3.heap.size w3 W) → (convert 23 9 (.slice A l.length c)).run Tryd.prog W = .ok (.string (strOfNums l)) W) :=
      ⟨fun W hb => Kd.C_string (P := Tryd.prog) Tryd.underlying23 Tryd.underlying5 Tryd.underlying9 (Kd.C_below (Kd.C_below HR.out HB3.out) hb.out)⟩
    have hM : L ++ [x] = vb n ++ (vb l.length ++ (l ++ [x])) := by rw [← EL.out]; simp
    have hll : l.length < 18446744073709551616 := by have := HL.out; omega
    have HC5 : Aside0 (∀ W, RdAt W g (L ++ [x]) false → Calls Tryd.prog 23 #[.pointer (some ⟨g, 0, none⟩), .int .u64 (n : Int)] W fun e w' => e = .returned (.int .u64 (n : Int)) ∧ RdAt w' g (vb l.length ++ (l ++ [x])) false ∧ W.grownBy w' (some g)) :=
      ⟨fun W h => by have := rd_num g (L ++ [x]) false n W h HN.out; rw [hM, rdNum_vb HN.out (Nat.le_refl _)] at this; exact this⟩
    have HC6 : Aside0 (∀ W, RdAt W g (vb l.length ++ (l ++ [x])) false → Calls Tryd.prog 24 #[.pointer (some ⟨g, 0, none⟩), .int .i64 (l.length : Int)] W fun e w' => ∃ v : Value, e = .returned v ∧ Kd.R (Kd.int .u8) 5 w' W.heap.size (fun _ => True) v l ∧ RdAt w' g [x] false ∧ W.grownBy w' (some g)) :=
      ⟨fun W h => by have := rd_bytes g _ false l.length W h (by have := HL.out; omega) (by have := vb_len10 hll; have := HL.out; simp; omega); rw [rdBytes_vb (Nat.le_refl _) hll] at this; exact this⟩
    have HC7 : Aside0 (∀ W, RdAt W g [x] false → Calls Tryd.prog 25 #[.pointer (some ⟨g, 0, none⟩)] W fun e w' => e = .returned (.int .u8 x) ∧ RdAt w' g [] false ∧ W.grownBy w' (some g)) :=
      ⟨fun W h => rd_byte g _ false W h⟩
    have HC8 : Aside0 (∀ W, RdAt W g [] false → Calls Tryd.prog 26 #[.pointer (some ⟨g, 0, none⟩)] W fun e w' => e = .returned .nilIface ∧ Drawn0 W w') :=
      ⟨fun W h => rd_done g _ false W h⟩
    have HRDD : Aside0 (RdAt w4.drew g (L ++ [x]) false) := ⟨HRD.out.below (below_drew (Below.refl _ _))⟩
    have HBD : Aside0 (Below w3.heap.size w3 w4.drew) := ⟨HB4.out.drew⟩
    have HSZ : Aside0 (w3.heap.size ≤ w4.drew.heap.size) := ⟨(below_size HB4.out : w3.heap.size ≤ w4.heap.size)⟩
    clear hM hll
    go_wp2_with fail
    go_region_with
      (first
        | (go_at_call 23; refine (HC5.out _ (by exact HRDD.out)).mono ?_; rintro e w5 ⟨rfl, hrd, hg⟩; have HRD5 := Aside0.mk hrd; have HB5 := Aside0.mk (HBD.out.grown hg HSZ.out (fun k hk => by cases hk; exact HGE.out)); have hs5 := hs0.out _ HB5; clear hrd hg)
        | (go_at_call 24; refine (HC6.out _ (by exact HRD5.out)).mono ?_; rintro e w6 ⟨v6, rfl, ho, hrd, hg⟩; obtain ⟨A6, c6, rfl, hc6, hC6⟩ := Kd.R_reads ho; have hst6 := Kd.C_string (P := Tryd.prog) (c := c6) (dst := 9) Tryd.underlying23 Tryd.underlying5 Tryd.underlying9 hC6; have HRD6 := Aside0.mk hrd; have HB6 := Aside0.mk (HB5.out.grown hg (below_size HB5.out) (fun k hk => by cases hk; exact HGE.out)); have hs6 := hs0.out _ HB6; clear hrd hg ho hc6 hC6)
        | (go_at_call 25; refine (HC7.out _ (by exact HRD6.out)).mono ?_; rintro e w7 ⟨rfl, hrd, hg⟩; have HRD7 := Aside0.mk hrd; have HB7 := Aside0.mk (HB6.out.grown hg (below_size HB6.out) (fun k hk => by cases hk; exact HGE.out)); clear hrd hg)
        | (go_at_call 26; refine (HC8.out _ (by exact HRD7.out)).mono ?_; rintro e w8 ⟨rfl, hd⟩; have HB8 := Aside0.mk (below_step HB7.out hd.below); clear hd))
    all_goals
      clear hs5 hs6 hst6
      have h9 := rd_new A3 c3 L w8 (HRD2.out _ (Kd.C_below HC3.out HB8.out)) HLE2.out (by omega) HBTS.out.left
      have H9 := Aside0.mk h9
      have HB8' := Aside0.mk (below_step HB3.out HB8.out)
      clear h9 HRD HRD5 HRD6 HRD7 HB4 HB5 HB6 HB7 HB8 HC5 HC6 HC7 HC8 HRDD HBD HSZ hs0
      go_wp2_with fail
      ((with_reducible refine H9.out.mono ?_); rintro e w9 ⟨o, rfl, hoe, hrd, hb⟩)
      have HOE : Aside0 (w.heap.size ≤ o) := ⟨Nat.le_trans HB8'.out.size hoe⟩
      have HB9 := Aside0.mk (below_step HB8'.out hb)
      have hLv : vb n ++ (vb l.length ++ l) = L := EL.out
      have hll : l.length < 18446744073709551616 := by have := HL.out; omega
      have hrd' : RdAt w9 o (vb n ++ (vb l.length ++ l)) false := by rw [hLv]; exact hrd
      have h10 := rd_num o _ false n w9 hrd' HN.out
      rw [rdNum_vb HN.out (Nat.le_refl _)] at h10
      have H10 := Aside0.mk h10
      have HLL := Aside0.mk hll
      clear hoe hrd hb hLv hll hrd' h10 H9 HB8'
      go_wp2_with fail
      ((with_reducible refine H10.out.mono ?_); rintro e w10 ⟨rfl, hrd, hg⟩)
      have HB10 := Aside0.mk (HB9.out.grown hg (below_size HB9.out) (fun k hk => by cases hk; exact HOE.out))
      have h11 := rd_bytes o _ false l.length w10 hrd (by have := HL.out; omega) (by have := vb_len10 HLL.out; have := HL.out; simp; omega)
      rw [show (vb l.length ++ l : List Int) = vb l.length ++ (l ++ []) from by simp, rdBytes_vb (Nat.le_refl _) HLL.out] at h11
      have H11 := Aside0.mk h11
      clear hrd hg h11 H10 HB9
      go_wp2_with fail
      ((with_reducible refine H11.out.mono ?_); rintro e w11 ⟨v11, rfl, ho, hrd, hg⟩)
      have HB11 := Aside0.mk (HB10.out.grown hg (below_size HB10.out) (fun k hk => by cases hk; exact HOE.out))
      have h12 := rd_byte o _ false w11 hrd
      simp only [List.headD_nil, List.tail_nil, List.isEmpty_nil, Bool.or_true] at h12
      have H12 := Aside0.mk h12
      clear hrd hg h12 H11 HB10 ho
      go_wp2_with fail
      ((with_reducible refine H12.out.mono ?_); rintro e w12 ⟨rfl, hrd, hg⟩)
      have HB12 := Aside0.mk (HB11.out.grown hg (below_size HB11.out) (fun k hk => by cases hk; exact HOE.out))
      have h13 := rd_done o _ true w12 hrd
      rw [show rdDone [] true = some 3 from by decide +kernel] at h13
      simp only [errV] at h13
      have H13 := Aside0.mk h13
      clear hrd hg h13 H12 HB11
      go_wp2_with fail
      ((with_reducible refine H13.out.mono ?_); rintro e w13 ⟨rfl, hd⟩)
      have HB13 := Aside0.mk (below_step HB12.out hd.below)
      clear hd H13 HB12
      go_wp2_with fail
      ((with_reducible refine (num_06_some 3 w13 (HGV.out.below HB13.out)).mono ?_); rintro e w14 ⟨rfl, hb⟩)
      have HB14 := Aside0.mk (below_step HB13.out hb)
      clear hb HB13
      go_wp2_with fail
      ((with_reducible refine (sure_06 w14 (HGV.out.below HB14.out)).mono ?_); rintro e w15 ⟨rfl, hb⟩)
      have HB15 := Aside0.mk (below_step HB14.out hb)
      clear hb HB14
      go_wp2
      go_ret
      exact ⟨rfl, HB15.out⟩
end Go.Proofs.YtmnhfpcbfdgbcaaDoor.Hand
