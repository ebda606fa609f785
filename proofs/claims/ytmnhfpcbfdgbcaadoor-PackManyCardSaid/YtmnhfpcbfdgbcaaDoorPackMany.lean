/- PackMany: the walk. -/
import Derived.Test.YtmnhfpcbfdgbcaaDoorSure06
import Derived.Test.YtmnhfpcbfdgbcaaDoorPlainB
import Derived.Deep.RegionWith
import Derived.Deep.DrawnRows
import Derived.Deep.CutBlock
import Derived.Deep.DeepCutAuto
namespace Go.Proofs.YtmnhfpcbfdgbcaaDoor.Hand
set_option linter.unusedVariables false
set_option linter.unusedSimpArgs false
open Go.RowKit Go.Proofs.YtmnhfpcbfdgbcaaDoorW.PrintWords Go.Proofs.YtmnhfpcbfdgbcaaDoorW.PrintLast Go.Proofs.YtmnhfpcbfdgbcaaDoorW.PrintMore Go.Proofs.YtmnhfpcbfdgbcaaDoor.Plain
attribute [local go_sem ↓] Go.wp_at_zero Go.wp_at_succ
attribute [local go_sem] max2_int min2_int max_two min_two max_three min_three max_four min_four

abbrev KB : Kd (List Int) := Kd.slice 5 (Kd.int .u8)

/-- An element of a row of rows of bytes. -/
theorem at_bytes {w : World} {A : Option Addr} {n : Nat} {l : List (List Int)} (h : Kd.C KB w A n l) (i : Nat) (hi : i < n) :
    ∃ ad B d, A = some ad ∧ w.cell? (ad.add i) = some (.slice B (l.getD i []).length d) ∧ (l.getD i []).length ≤ d ∧ Kd.C (Kd.int .u8) w B (l.getD i []).length (l.getD i []) := by
  obtain ⟨ad, c, e, h1, ⟨B, d, hc, h2, h3⟩, h4⟩ := Kd.C_get h [] (i : Int) (by omega) (by omega)
  rw [Int.toNat_natCast] at h2 h3 h4 hc
  refine ⟨ad, B, d, e, ?_, h2, h3⟩
  have := h4 0 _ (by rw [hc]; rfl)
  simpa [KB, Kd.slice] using this

set_option maxHeartbeats 4000000 in
set_option maxRecDepth 100000 in
theorem packMany_walk (A : Option Addr) (c : Nat) (l : List (List Int)) (w : World) (hg : GV w) (hr : Kd.C KB w A l.length l) (hc : l.length ≤ c) (hb : ∀ x, x ∈ l → Bts x) :
    Calls Tryd.prog 5 #[.slice A l.length c] w fun e w' => e = .returned (.bool true) ∧ Below w.heap.size w w' := by
  have HGV := Aside0.mk hg; have HR := Aside0.mk hr; have HBT := Aside0.mk hb
  clear hg hr hb
  go_enter Tryd.func5, Tryd.ntmps5
  go_upto_block 0 with (fail)
  go_cut [3] (fun v3 wc => Aside0 (Kd.R (Kd.int .u8) 5 wc w.heap.size (fun _ => True) v3 (enc (tk l 0 0))) ∧ Aside0 (Below w.heap.size w wc))
  case first =>
    go_wp2_with fail
    go_loopg [3, 4, 5] l.length (fun kq v3 v4 v5 w' => ∃ (i n : Nat) (y : List Int), v4 = .int .i64 n ∧ v5 = .int .i64 i ∧ Aside0 (kq + i = l.length) ∧ Aside0 (n < 500 ∧ i ≤ 20 ∧ y.length ≤ n + 10 * i) ∧ Aside0 (y ++ enc (tk (l.drop i) i n) = enc (tk l 0 0)) ∧ Aside0 (Kd.R (Kd.int .u8) 5 w' w.heap.size (fun _ => True) v3 y) ∧ Aside0 (Below w.heap.size w w'))
    case atStart => exact ⟨0, 0, [], rfl, rfl, ⟨by omega⟩, ⟨by simp⟩, ⟨rfl⟩, ⟨Kd.R_nil _ _ _ _ _⟩, ⟨Below.refl _ _⟩⟩
    case round =>
      obtain ⟨i, n, y, rfl, rfl, HK, HN, HE, HO, HB⟩ := hrel
      obtain ⟨A3, c3, rfl, hc3, hC3⟩ := Kd.R_reads HO.out
      have HC3 := Aside0.mk hC3
      clear hC3
      by_cases hlt : i < l.length
      · obtain ⟨ad, B, d, ea, hcell, hd, hC⟩ := at_bytes (Kd.C_below HR.out HB.out) i hlt
        have hdr := List.drop_eq_getElem_cons hlt
        have hx : l.getD i [] = l[i] := by simp [List.getD, hlt]
        rw [hx] at hcell hd hC
        subst ea
        generalize l[i] = x at *
        have hn5 := HN.out.1
        have hi20 := HN.out.2.1
        have HDR := Aside0.mk hdr; have HC := Aside0.mk hC
        clear hdr hx hC
        have hb1 : decide (i < l.length) = true := decide_eq_true hlt
        by_cases hi : i < 20
        · have hb2 : decide ((i : Int) < 20) = true := decide_eq_true (by omega)
          by_cases hs : n + min x.length 500 < 500
          · have hs1 : x.length < 500 := by omega
            have hs2 : n + x.length < 500 := by omega
            have hb3 : decide ((n : Int) + (x.length : Int) < 500) = true := decide_eq_true (by omega)
            have HT := Aside0.mk (tk_go (x := x) (t := l.drop (i + 1)) ⟨hi, hs⟩)
            have HLT := Aside0.mk hlt
            have HS := Aside0.mk hs
            clear hs
            have hpk := pk_bytes A3 B c3 d y x wr HC3.out hc3 (by have := HN.out; omega) HC.out hd (by have := HN.out; omega)
            have HPK := Aside0.mk hpk
            clear hpk
            go_wp2_with fail
            ((with_reducible refine HPK.out.mono ?_); rintro e w1 ⟨v1, rfl, ho, hb⟩)
            have HO1 := Aside0.mk ho; have HB1 := Aside0.mk hb
            have hcell1 := pw_cell_below hb hcell
            clear ho hb
            have HR1 := Aside0.mk (Kd.R_lower HO1.out HB.out.size)
            go_wp2_with fail
            go_roundg (gk - 1)
            case measure => have := HK.out; omega
            case rel => exact ⟨i + 1, n + x.length, y ++ (vb x.length ++ x), by go_num, by go_num, ⟨by have := HK.out; omega⟩, ⟨by have := HN.out; have := vb_len10 (n := x.length) (by omega); simp; omega⟩, ⟨by rw [← HE.out, HDR.out, HT.out]; simp [enc]⟩, HR1, ⟨below_step HB.out HB1.out⟩⟩
          · have hst := tk_stop (i := i) (t := l.drop (i + 1)) (fun h => hs h.2)
            have HT := Aside0.mk hst
            have hfin : y = enc (tk l 0 0) := by rw [← HE.out, HDR.out, HT.out]; simp [enc]
            have HF := Aside0.mk hfin
            clear hst hfin
            by_cases hs1 : x.length < 500
            · have hb3 : decide ((n : Int) + (x.length : Int) < 500) = false := decide_eq_false (by omega)
              have hs2 : ¬ n + x.length < 500 := by omega
              clear hs
              go_wp2_with fail
              go_meet
              case rel => exact ⟨by rw [← HF.out]; exact HO, HB⟩
            · have hb3 : decide ((n : Int) + 500 < 500) = false := decide_eq_false (by omega)
              have hs3 : 500 ≤ x.length := by omega
              clear hs
              go_wp2_with fail
              all_goals
                go_meet
                case rel => exact ⟨by rw [← HF.out]; exact HO, HB⟩
        · have hst := tk_stop (x := x) (t := l.drop (i + 1)) (n := n) (fun h => hi h.1)
          have HT := Aside0.mk hst
          have hfin : y = enc (tk l 0 0) := by rw [← HE.out, HDR.out, HT.out]; simp [enc]
          have HF := Aside0.mk hfin
          have hb2 : decide ((i : Int) < 20) = false := decide_eq_false (by omega)
          clear hst hfin hi
          go_wp2_with fail
          go_meet
          case rel => exact ⟨by rw [← HF.out]; exact HO, HB⟩
      · have hfin : y = enc (tk l 0 0) := by rw [← HE.out, List.drop_eq_nil_of_le (by omega)]; simp [tk, enc]
        have HF := Aside0.mk hfin
        have hb1 : decide (i < l.length) = false := decide_eq_false hlt
        clear hfin hlt
        go_wp2_with fail
        go_meet
        case rel => exact ⟨by rw [← HF.out]; exact HO, HB⟩
  case rest =>
    obtain ⟨HO, HB⟩ := hcut
    obtain ⟨A3, c3, rfl, hc3, hC3⟩ := Kd.R_reads HO.out
    have htl := tk_lt l 0 0 (by omega)
    have hbts : Bts (enc (tk l 0 0)) := enc_bts _ fun x hx => HBT.out x (tk_mem l 0 0 x hx)
    have h1 := rd_new A3 c3 _ wc hC3 hc3 (by omega) hbts
    have H1 := Aside0.mk h1
    have HTL := Aside0.mk htl
    clear hC3 htl hbts h1 hc3 HO
    go_wp2_with fail
    ((with_reducible refine H1.out.mono ?_); rintro e w1 ⟨g, rfl, hge, hrd, hb⟩)
    have HB1 := Aside0.mk (below_step HB.out hb)
    have HGE : Aside0 (w.heap.size ≤ g) := ⟨Nat.le_trans HB.out.size hge⟩
    have HRD := Aside0.mk hrd
    clear hge hrd hb H1 HB
    go_upto_block 2 with (go_at_call 28; refine (rd_left g _ _ _ HRD.out).mono ?_; rintro e w2 ⟨rfl, rfl⟩)
    go_cut [7] (fun v7 wc => v7 = .int .i64 0 ∧ Aside0 (RdAt wc g [] false) ∧ Aside0 (Below w.heap.size w wc))
    case first =>
     go_wp2_with fail
     go_loopg [4, 7, 8] l.length (fun kq v4 v7 v8 w' => ∃ (i n : Nat) (y : List Int), v4 = .int .i64 n ∧ v7 = .int .i64 y.length ∧ v8 = .int .i64 i ∧ Aside0 (kq + i = l.length) ∧ Aside0 (n < 500 ∧ i ≤ 20) ∧ Aside0 (y = enc (tk (l.drop i) i n)) ∧ Aside0 (RdAt w' g y false) ∧ Aside0 (Below w.heap.size w w'))
     case atStart => exact ⟨0, 0, _, rfl, rfl, rfl, ⟨by omega⟩, ⟨by omega⟩, ⟨rfl⟩, HRD, HB1⟩
     case round =>
       clear HRD HB1
       obtain ⟨i, n, y, rfl, rfl, rfl, HK, HN, HE, HRD, HB⟩ := hrel
       by_cases hlt : i < l.length
       · obtain ⟨ad, B, d, ea, hcell, hd, hC⟩ := at_bytes HR.out i hlt
         have hdr := List.drop_eq_getElem_cons hlt
         have hx : l.getD i [] = l[i] := by simp [List.getD, hlt]
         rw [hx] at hcell hd hC
         subst ea
         generalize l[i] = x at *
         have hn5 := HN.out.1
         have hi20 := HN.out.2
         have hCW : Kd.C (Kd.int .u8) w B x.length x ∧ w.cell? (ad.add i) = some (.slice B x.length d) := ⟨hC, hcell⟩
         replace hcell := pw_cell_below HB.out hcell
         have HDR := Aside0.mk hdr; have HC := Aside0.mk (Kd.C_below hC HB.out)
         clear hdr hx hC
         have hb1 : decide (i < l.length) = true := decide_eq_true hlt
         by_cases hi : i < 20
         · have hb2 : decide ((i : Int) < 20) = true := decide_eq_true (by omega)
           by_cases hs : n + min x.length 500 < 500
           · have hs1 : x.length < 500 := by omega
             have hs2 : n + x.length < 500 := by omega
             have hb3 : decide ((n : Int) + (x.length : Int) < 500) = true := decide_eq_true (by omega)
             have hy : y = vb x.length ++ (x ++ enc (tk (l.drop (i + 1)) (i + 1) (n + x.length))) := by rw [HE.out, HDR.out, tk_go ⟨hi, hs⟩]; rfl
             have hv1 := vb_len10 (n := x.length) (by omega)
             have htl := tk_lt (l.drop (i + 1)) (i + 1) (n + x.length) (by omega)
             generalize hez : enc (tk (l.drop (i + 1)) (i + 1) (n + x.length)) = z at *
             have HEZ := Aside0.mk hez.symm
             clear hez
             have hzl : z.length < y.length := by rw [hy]; simp; omega
             have hyl : y.length ≤ 2000 := by rw [hy]; simp; omega
             have HYL := Aside0.mk hyl
             have hb4 : decide (y.length ≤ z.length) = false := decide_eq_false (by omega)
             have HC1 : Aside0 (∀ W, RdAt W g y false → Calls Tryd.prog 24 #[.pointer (some ⟨g, 0, none⟩), .int .i64 500] W fun e w' => ∃ v : Value, e = .returned v ∧ Kd.R (Kd.int .u8) 5 w' W.heap.size (fun _ => True) v x ∧ RdAt w' g z false ∧ W.grownBy w' (some g)) :=
               ⟨fun W h => by have := rd_bytes g _ false 500 W h (by decide) (by omega); rw [hy, rdBytes_vb (by omega) (by omega)] at this; exact this⟩
             have hst : ∀ {W : World}, Kd.C (Kd.int .u8) W B x.length x → (convert 23 9 (.slice B x.length d)).run Tryd.prog W = .ok (.string (strOfNums x)) W := fun h => Kd.C_string (P := Tryd.prog) Tryd.underlying23 Tryd.underlying5 Tryd.underlying9 h
             have hcv0 := hst (W := wr.drew) (Kd.C_below HC.out (below_drew (Below.refl _ _)))
             have HST : Aside0 (∀ {W : World}, Kd.C (Kd.int .u8) W B x.length x → (convert 23 9 (.slice B x.length d)).run Tryd.prog W = .ok (.string (strOfNums x)) W) := ⟨hst⟩
             have HCW := Aside0.mk hCW
             clear hCW
             have HRDD : Aside0 (RdAt wr.drew g y false) := ⟨HRD.out.below (below_drew (Below.refl _ _))⟩
             have HBD : Aside0 (Below w.heap.size w wr.drew) := ⟨HB.out.drew⟩
             have HSZ : Aside0 (w.heap.size ≤ wr.drew.heap.size) := ⟨(below_size HB.out : w.heap.size ≤ wr.heap.size)⟩
             have HY := Aside0.mk hy; have HZ := Aside0.mk hzl
             have HS := Aside0.mk hs; have HLT := Aside0.mk hlt
             clear hy hv1 htl hzl hyl hst hs
             go_upto_region 16 with (fail)
             go_cut [89] (fun v89 wc => v89 = .bool false ∧ Aside0 (RdAt wc g z false) ∧ Aside0 (Below w.heap.size w wc))
             case first =>
               go_region_with
                 (first
                   | (go_at_call 24; refine (HC1.out _ (by exact HRDD.out)).mono ?_; rintro e w1 ⟨v1, rfl, ho, hrd, hg⟩; obtain ⟨A6, c6, rfl, hc6, hC6⟩ := Kd.R_reads ho; have hst6 := Kd.C_string (P := Tryd.prog) (c := c6) (dst := 9) Tryd.underlying23 Tryd.underlying5 Tryd.underlying9 hC6; have HRD6 := Aside0.mk hrd; have HB6 := Aside0.mk (HBD.out.grown hg HSZ.out (fun k hk => by cases hk; exact HGE.out)); have hcv1 := HST.out (Kd.C_below HCW.out.1 HB6.out); have hcell1 := pw_cell_below HB6.out HCW.out.2; clear hrd hg ho hc6 hC6)
                   | (go_at_call 28; refine (rd_left g _ _ _ (by exact HRD6.out)).mono ?_; rintro e w2 ⟨rfl, rfl⟩))
               all_goals
                 go_wp2_with fail
                 go_meet
                 case rel => exact ⟨rfl, HRD6, HB6⟩
             case rest =>
               obtain ⟨rfl, HRD6, HB6⟩ := hcut
               have hcell1 := pw_cell_below HB6.out HCW.out.2
               have HRDN : Aside0 (∀ m, RdAt (wc.drewN m) g z false) := ⟨fun m => HRD6.out.below (pw_below_drewN (Below.refl _ _) m)⟩
               clear hcv0 hcell HRD HB HRDD HBD HSZ
               go_wp2_with fail
               go_quiet ((go_at_call 28; exact Calls.quiet_of_same (rd_left g _ _ _ (HRDN.out _))))
               go_wp2_with fail
               go_roundg (gk - 1)
               case measure => have := HK.out; omega
               case rel => exact ⟨i + 1, n + x.length, z, by go_num, rfl, by go_num, ⟨by have := HK.out; omega⟩, ⟨by omega⟩, HEZ, ⟨HRDN.out _⟩, ⟨pw_below_drewN HB6.out _⟩⟩
           · have hfin : y = [] := by rw [HE.out, HDR.out, tk_stop (fun h => hs h.2)]; rfl
             subst hfin
             have hbo : decide ((n : Int) + (min x.length 500 : Nat) < 500) = false := decide_eq_false (by omega)
             by_cases hs1 : x.length < 500
             · have hb3 : decide ((n : Int) + (x.length : Int) < 500) = false := decide_eq_false (by omega)
               have hs2 : ¬ n + x.length < 500 := by omega
               clear hs hbo
               go_wp2_with fail
               go_meet
               case rel => exact ⟨rfl, HRD, HB⟩
             · have hb3 : decide ((n : Int) + 500 < 500) = false := decide_eq_false (by omega)
               have hs3 : 500 ≤ x.length := by omega
               clear hs hbo
               go_wp2_with fail
               all_goals
                 go_meet
                 case rel => exact ⟨rfl, HRD, HB⟩
         · have hfin : y = [] := by rw [HE.out, HDR.out, tk_stop (fun h => hi h.1)]; rfl
           subst hfin
           have hb2 : decide ((i : Int) < 20) = false := decide_eq_false (by omega)
           clear hi
           go_wp2_with fail
           go_meet
           case rel => exact ⟨rfl, HRD, HB⟩
       · have hfin : y = [] := by rw [HE.out, List.drop_eq_nil_of_le (by omega)]; rfl
         subst hfin
         have hb1 : decide (i < l.length) = false := decide_eq_false hlt
         clear hlt
         go_wp2_with fail
         go_meet
         case rel => exact ⟨rfl, HRD, HB⟩
    case rest =>
      clear HRD HB1
      obtain ⟨rfl, HRD, HB⟩ := hcut
      have h2 := rd_done g _ _ _ HRD.out
      rw [show rdDone [] false = none from by decide +kernel] at h2
      simp only [errV] at h2
      have H2 := Aside0.mk h2
      clear h2
      go_wp2_with fail
      ((with_reducible refine H2.out.mono ?_); rintro e w2 ⟨rfl, hd⟩)
      have HB2 := Aside0.mk (below_step HB.out hd.below)
      clear hd H2 HRD HB
      go_wp2_with fail
      ((with_reducible refine (sure_06 w2 (HGV.out.below HB2.out)).mono ?_); rintro e w3 ⟨rfl, hb⟩)
      have HB3 := Aside0.mk (below_step HB2.out hb)
      clear hb HB2
      go_wp2
      go_ret
      exact ⟨rfl, HB3.out⟩
end Go.Proofs.YtmnhfpcbfdgbcaaDoor.Hand
