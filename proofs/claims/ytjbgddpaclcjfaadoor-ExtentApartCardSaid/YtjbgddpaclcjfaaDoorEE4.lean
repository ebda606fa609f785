/- EE4: what functions do, walked; used by the laws of this seat. -/
import Derived.Test.YtjbgddpaclcjfaaDoorEE3
namespace Go.Proofs.YtjbgddpaclcjfaaDoor.Eng.A
set_option linter.unusedVariables false
set_option linter.unusedSimpArgs false
open Go.RowKit Go.Proofs.YtjbgddpaclcjfaaDoor.Plain Go.Proofs.YtjbgddpaclcjfaaDoor.Eng Go.Proofs.YtjbgddpaclcjfaaDoor.Eng.Pk Go.Proofs.YtjbgddpaclcjfaaDoor.Eng.Rd

theorem sz71_w2b : sizeT Go.Proofs.Tryd.prog 71 = some 2 := by kernel_rfl
theorem fo71_0_w2b : fieldOff Go.Proofs.Tryd.prog 71 0 = some 0 := by kernel_rfl
theorem ag3_w2b : aggT Go.Proofs.Tryd.prog 3 = some false := by kernel_rfl
theorem fo71_1_w2b : fieldOff Go.Proofs.Tryd.prog 71 1 = some 1 := by kernel_rfl
theorem sz3_w2b : sizeT Go.Proofs.Tryd.prog 3 = some 1 := by kernel_rfl
theorem mixed_w2b : Go.Proofs.Tryd.prog.follows .mixedOrders = true := by kernel_rfl
theorem pt71_w2b : placesT Go.Proofs.Tryd.prog 71 2 = some [(0, 1), (1, 1)] := by kernel_rfl
theorem zt71_w2b : zeroT Go.Proofs.Tryd.prog 71 = some [.int .i64 0, .int .i64 0] := by kernel_rfl
theorem el71_w2b : elT Go.Proofs.Tryd.prog 71 = some (2, 16) := by kernel_rfl
theorem ht92_w2b : hasText Go.Proofs.Tryd.prog 92 = true := by kernel_rfl
theorem zt3_w2b : zeroT Go.Proofs.Tryd.prog 3 = some [.int .i64 0] := by kernel_rfl
theorem el3_w2b : elT Go.Proofs.Tryd.prog 3 = some (1, 8) := by kernel_rfl
theorem ht93_w2b : hasText Go.Proofs.Tryd.prog 93 = true := by kernel_rfl
theorem ht37_w2b : hasText Go.Proofs.Tryd.prog 37 = true := by kernel_rfl
theorem ag71_w2b : aggT Go.Proofs.Tryd.prog 71 = some true := by kernel_rfl
theorem pt137_w2b : placesT Go.Proofs.Tryd.prog 137 2 = some [(0, 1), (1, 1)] := by kernel_rfl
theorem zt137_w2b : zeroT Go.Proofs.Tryd.prog 137 = some [.int .i64 0, .int .i64 0] := by kernel_rfl
theorem sz137_w2b : sizeT Go.Proofs.Tryd.prog 137 = some 2 := by kernel_rfl
theorem ht34_w2b : hasText Go.Proofs.Tryd.prog 34 = true := by kernel_rfl
theorem ht28_w2b : hasText Go.Proofs.Tryd.prog 28 = true := by kernel_rfl
theorem ht30_w2b : hasText Go.Proofs.Tryd.prog 30 = true := by kernel_rfl
theorem ht32_w2b : hasText Go.Proofs.Tryd.prog 32 = true := by kernel_rfl
theorem ag137_w2b : aggT Go.Proofs.Tryd.prog 137 = some true := by kernel_rfl
theorem fo137_1_w2b : fieldOff Go.Proofs.Tryd.prog 137 1 = some 1 := by kernel_rfl
theorem ht38_w2b : hasText Go.Proofs.Tryd.prog 38 = true := by kernel_rfl
theorem ht39_w2b : hasText Go.Proofs.Tryd.prog 39 = true := by kernel_rfl
theorem ht26_w2b : hasText Go.Proofs.Tryd.prog 26 = true := by kernel_rfl
theorem ht27_w2b : hasText Go.Proofs.Tryd.prog 27 = true := by kernel_rfl
theorem ht29_w2b : hasText Go.Proofs.Tryd.prog 29 = true := by kernel_rfl
theorem ht31_w2b : hasText Go.Proofs.Tryd.prog 31 = true := by kernel_rfl
theorem ht33_w2b : hasText Go.Proofs.Tryd.prog 33 = true := by kernel_rfl
theorem ht35_w2b : hasText Go.Proofs.Tryd.prog 35 = true := by kernel_rfl
theorem ht36_w2b : hasText Go.Proofs.Tryd.prog 36 = true := by kernel_rfl
theorem ht40_w2b : hasText Go.Proofs.Tryd.prog 40 = true := by kernel_rfl
theorem ht41_w2b : hasText Go.Proofs.Tryd.prog 41 = true := by kernel_rfl
theorem el137_w2b : elT Go.Proofs.Tryd.prog 137 = some (2, 16) := by kernel_rfl

open Go.Proofs.YtjbgddpaclcjfaaDoor.Eng.Er Go.Proofs.YtjbgddpaclcjfaaDoor.Eng.Er2 Go.Proofs.YtjbgddpaclcjfaaDoor.Eng.Ha

def F_r16of_b0 (p0 : (List Int)) (t_6 : Nat × Int × (List Stx)) : Option ((Nat × Int × (List Stx)) ⊕ (((List Stx) × Nat))) :=
  ifb (decide (t_6.2.1 < (p0.length : Int))) (bnd (grd (((decide (0 < ((t_6.1 : Nat) : Int))) == true) = true → Below (IntKind.i64.wrap (((t_6.1 : Nat) : Int) - 1)) t_6.1) <| grd (((decide (0 < ((t_6.1 : Nat) : Int))) == true) = true → Below (((IntKind.i64.wrap (((t_6.1 : Nat) : Int) - 1)).toNat : Nat) : Int) t_6.2.2.length) <| grd (((decide (0 < ((t_6.1 : Nat) : Int))) == true) = true → Below (IntKind.i64.wrap (((t_6.1 : Nat) : Int) - 1)) t_6.1) <| grd (((decide (0 < ((t_6.1 : Nat) : Int))) == true) = true → Below (((IntKind.i64.wrap (((t_6.1 : Nat) : Int) - 1)).toNat : Nat) : Int) t_6.2.2.length) <| grd (((decide (0 < ((t_6.1 : Nat) : Int))) == true) = true → Below t_6.2.1 p0.length) <| ifb ((decide (0 < ((t_6.1 : Nat) : Int))) && (decide ((IntKind.i64.wrap (((t_6.2.2.getD ((IntKind.i64.wrap (((t_6.1 : Nat) : Int) - 1)).toNat) default).From) + ((t_6.2.2.getD ((IntKind.i64.wrap (((t_6.1 : Nat) : Int) - 1)).toNat) default).Many))) = (p0.getD t_6.2.1.toNat default)))) (ltv (IntKind.i64.wrap (((t_6.1 : Nat) : Int) - 1)) fun x_10 => grd (Below x_10 t_6.1) <| ixb t_6.2.2 ((x_10.toNat : Nat) : Int) fun x_11 => grd (Below x_10 t_6.1) <| ixb t_6.2.2 ((x_10.toNat : Nat) : Int) fun x_12 => some ((t_6.2.2.set x_10.toNat (⟨x_12.From, IntKind.i64.wrap (x_11.Many + 1)⟩ : Stx)), t_6.1)) (ixb p0 t_6.2.1 fun x_13 => grd (t_6.1 = t_6.2.2.length) <| grd (Fits 16 (t_6.2.2.length + ([(⟨x_13, 1⟩ : Stx)] : (List Stx)).length)) <| some ((t_6.2.2 ++ ([(⟨x_13, 1⟩ : Stx)] : (List Stx))), (t_6.2.2 ++ ([(⟨x_13, 1⟩ : Stx)] : (List Stx))).length))) fun z_9 => some (.inl (z_9.2, IntKind.i64.wrap (t_6.2.1 + 1), z_9.1))) (some (.inr (t_6.2.2, t_6.1)))
def F_r16of (fl : Nat) (p0 : (List Int)) : Option ((List Stx)) :=
  bnd (lp (F_r16of_b0 p0) fl (([] : List Stx).length, 0, ([] : (List Stx)))) fun z_2 => grd (z_2.2 = z_2.1.length) <| some z_2.1
set_option maxRecDepth 100000 in
set_option maxHeartbeats 2000000 in
theorem c_r16of {fl : Nat} {p0 : (List Int)} {R : (List Stx)} (h0 : F_r16of fl p0 = some R) : Pure Go.Proofs.Tryd.prog 93 [sl (kI .i64) none none p0] (sl kStx none none R) := by
  intro s
  unfold F_r16of at h0
  refine ac_of_aw s.boxes.length s.fr.length Go.Proofs.Tryd.func93 rfl (by simp [Go.Proofs.Tryd.ntmps93]) ?_
  refine aw_ext0 ?_
  refine aw_keep [(0, _)] ⟨lg ez, trivial⟩ ?_
  refine aw_seq ?_
  refine aw_region (by decide) ?_
  refine rts _ rfl (opD_assign (ev_const _ _)) ?_
  refine .nil ?_
  refine aw_keep [(0, _)] ⟨lg (ls rfl oz), trivial⟩ ?_
  refine aw_seq ?_
  refine aw_region (by decide) ?_
  refine rts _ rfl (opD_assign (ev_const _ _)) ?_
  refine .nil ?_
  refine aw_keep [(0, _), (3, _)] ⟨lg (ls rfl oz), lg lz, trivial⟩ ?_
  refine aw_hotnilN (k := kStx) (te := 71) (r := 2) rfl rfl 3 (os rfl oz) (by first | exact List.length_nil | (simp only [List.length_cons, List.length_nil, Nat.zero_add, Nat.reduceAdd] <;> rfl)) (by simp only [na, nb, nc, nd, nf, ng, nh, ni, nj, nk] <;> rfl) ?_
  refine aw_seq ?_
  refine aw_seq ?_
  refine aw_region (by decide) ?_
  refine rts _ rfl (opD_assign (ev_const _ _)) ?_
  refine .nil ?_
  refine aw_keep [(0, _), (3, _), (4, _)] ⟨lg (ls rfl (ls rfl oz)), lg (ls rfl lz), lg lz, trivial⟩ ?_
  replace h0 := bnd_some h0
  obtain ⟨z_2, hz_2, h0⟩ := h0
  refine aw_mid (fun e st => ∃ v : (List Stx) × Nat, ∃ r_1 : Nat, 2 ≤ r_1 ∧ r_1 % 2 = 0 ∧ Holds e [(3, hsl (s.boxes.length + 0) r_1 0 v.2 kStx.sz)] ∧ st = s.ext [⟨(hot 71 r_1), (flat kStx v.1)⟩] [] ∧ v = z_2) ?_ ?_
  · skip
    refine aw_wkN rfl 1 0 rfl rfl ?_
    refine aw_block ?_
    refine aw_loop (fun n e st => ∃ v : Nat × Int × (List Stx), ∃ r_4 : Nat, 2 ≤ r_4 ∧ r_4 % 2 = 0 ∧ Holds e [(0, sl (kI .i64) none none p0), (3, hsl (s.boxes.length + 0) r_4 0 v.1 kStx.sz), (4, pl (.int .i64 v.2.1))] ∧ st = s.ext [⟨(hot 71 r_4), (flat kStx v.2.2)⟩] [] ∧ lp (F_r16of_b0 p0) n v = some z_2) fl ⟨(([] : List Stx).length, 0, ([] : (List Stx))), 2, (by omega), (by omega), ⟨le_of_eq (eg oz), le_of_eq (eg (os rfl oz)), le_of_eq (eg (os rfl (os rfl oz))), trivial⟩, rfl, hz_2⟩ ?_
    rintro n e st ⟨t_6, r_4, hr_4, er_4, hH, rfl, hz_2⟩
    replace hz_2 := lp_some hz_2
    obtain ⟨m_z_7, z_7, rfl, hz_7, hz_2⟩ := hz_2
    unfold F_r16of_b0 at hz_7
    refine aw_keep _ hH ?_
    refine aw_wkN rfl 1 0 rfl rfl ?_
    refine aw_seq ?_
    refine aw_seq ?_
    refine aw_region (by decide) ?_
    refine rts _ rfl (opD_move (os rfl (os rfl oz))) ?_
    refine rts _ rfl (opD_move (ls rfl oz)) ?_
    refine rts _ rfl (opD_len_sl Go.Proofs.Tryd.underlying36 lz) ?_
    refine rts _ rfl (opD_lss (ls rfl (ls rfl lz)) lz) ?_
    refine .nil ?_
    refine aw_keep [(0, _), (3, _), (4, _), (9, _)] ⟨lg (ls rfl (ls rfl (ls rfl (ls rfl oz)))), lg (ls rfl (ls rfl (ls rfl (ls rfl (os rfl oz))))), lg (ls rfl (ls rfl (ls rfl (ls rfl (os rfl (os rfl oz)))))), lg lz, trivial⟩ ?_
    refine aw_cond _ (os rfl (os rfl (os rfl oz))) (fun hc => ?_) (fun hc => ?_)
    · skip
      replace hz_7 := ifb_t hz_7 hc
      clear hc
      refine aw_skip ?_
      refine aw_keep [(0, _), (3, _), (4, _)] ⟨lg oz, lg (os rfl oz), lg (os rfl (os rfl oz)), trivial⟩ ?_
      refine aw_seq ?_
      replace hz_7 := bnd_some hz_7
      obtain ⟨z_9, hz_9, hz_7⟩ := hz_7
      refine aw_mid (fun e st => ∃ v : (List Stx) × Nat, ∃ r_8 : Nat, 2 ≤ r_8 ∧ r_8 % 2 = 0 ∧ Holds e [(0, sl (kI .i64) none none p0), (3, hsl (s.boxes.length + 0) r_8 0 v.2 kStx.sz), (4, pl (.int .i64 t_6.2.1))] ∧ st = s.ext [⟨(hot 71 r_8), (flat kStx v.1)⟩] [] ∧ v = z_9) ?_ ?_
      · skip
        refine aw_wkN rfl 1 0 rfl rfl ?_
        refine aw_block ?_
        refine aw_seq ?_
        refine aw_region (by decide) ?_
        refine rts _ rfl (opD_move (os rfl oz)) ?_
        refine rts _ rfl (opD_len_h Go.Proofs.Tryd.underlying47 lz) ?_
        refine rts _ rfl (opD_assign lz) ?_
        refine .nil ?_
        refine aw_keep [(0, _), (3, _), (4, _), (5, _)] ⟨lg (ls rfl (ls rfl (ls rfl oz))), lg (ls rfl (ls rfl (ls rfl (os rfl oz)))), lg (ls rfl (ls rfl (ls rfl (os rfl (os rfl oz))))), lg lz, trivial⟩ ?_
        refine aw_seq ?_
        refine aw_seq ?_
        refine aw_flat mixed_w2b (by decide +kernel) ?_
        refine zts _ rfl (opD_move (os rfl (os rfl (os rfl oz)))) ?_
        refine zts _ rfl (opD_gtr lz (ev_const _ _)) ?_
        refine zts _ rfl (opD_move lz) ?_
        refine ztg _ rfl lz (fun hg6_3_574 => opD_move (ls rfl (ls rfl (ls rfl (os rfl oz))))) ?_
        refine ztg _ rfl (ls rfl lz) (fun hg6_4_575 => opD_move (ls rfl (ls rfl (ls rfl (ls rfl (os rfl (os rfl (os rfl oz)))))))) ?_
        refine ztg _ rfl (ls rfl (ls rfl lz)) (fun hg6_5_576 => opD_sub (lz.trans (pif_pos hg6_5_576)) (ev_const _ _) rfl) ?_
        replace hz_9 := grd_some hz_9
        obtain ⟨hg_578, hz_9⟩ := hz_9
        refine ztg _ rfl (ls rfl (ls rfl (ls rfl lz))) (fun hg6_6_577 => opD_indexAddr_hx (i := (IntKind.i64.wrap (((t_6.1 : Nat) : Int) - 1)).toNat) Go.Proofs.Tryd.underlying47 sz71_w2b rfl ⟨_, (loc_getN rfl rfl)⟩ ((ls rfl (ls rfl lz)).trans (pif_pos hg6_6_577)) (lz.trans (pif_pos hg6_6_577)) (hg_578 hg6_6_577).eq (hg_578 hg6_6_577).2) ?_
        refine ztg _ rfl (ls rfl (ls rfl (ls rfl (ls rfl lz)))) (fun hg6_7_579 => opD_fieldAddr fo71_0_w2b ((lz.trans (pif_pos hg6_7_579)).trans (ptv0 _ _ _))) ?_
        replace hz_9 := grd_some hz_9
        obtain ⟨hg_581, hz_9⟩ := hz_9
        refine ztg _ rfl (ls rfl (ls rfl (ls rfl (ls rfl (ls rfl lz))))) (fun hg6_8_580 => opD_load1_h ag3_w2b rfl hr_4 ((lz.trans (pif_pos hg6_8_580)).trans (ptv0 _ _ _)) (loc_getN rfl rfl) (flat_fld (j := 0) (at_getD default (nat_lt (hg_581 hg6_8_580))) rfl (by decide))) ?_
        refine ztg _ rfl (ls rfl (ls rfl (ls rfl (ls rfl (ls rfl (ls rfl lz)))))) (fun hg6_9_582 => opD_move (ls rfl (ls rfl (ls rfl (ls rfl (ls rfl (ls rfl (ls rfl (ls rfl (ls rfl (os rfl oz))))))))))) ?_
        refine ztg _ rfl (ls rfl (ls rfl (ls rfl (ls rfl (ls rfl (ls rfl (ls rfl lz))))))) (fun hg6_10_583 => opD_move (ls rfl (ls rfl (ls rfl (ls rfl (ls rfl (ls rfl (ls rfl (ls rfl (ls rfl (ls rfl (os rfl (os rfl (os rfl oz)))))))))))))) ?_
        refine ztg _ rfl (ls rfl (ls rfl (ls rfl (ls rfl (ls rfl (ls rfl (ls rfl (ls rfl lz)))))))) (fun hg6_11_584 => opD_sub (lz.trans (pif_pos hg6_11_584)) (ev_const _ _) rfl) ?_
        replace hz_9 := grd_some hz_9
        obtain ⟨hg_586, hz_9⟩ := hz_9
        refine ztg _ rfl (ls rfl (ls rfl (ls rfl (ls rfl (ls rfl (ls rfl (ls rfl (ls rfl (ls rfl lz))))))))) (fun hg6_12_585 => opD_indexAddr_hx (i := (IntKind.i64.wrap (((t_6.1 : Nat) : Int) - 1)).toNat) Go.Proofs.Tryd.underlying47 sz71_w2b rfl ⟨_, (loc_getN rfl rfl)⟩ ((ls rfl (ls rfl lz)).trans (pif_pos hg6_12_585)) (lz.trans (pif_pos hg6_12_585)) (hg_586 hg6_12_585).eq (hg_586 hg6_12_585).2) ?_
        refine ztg _ rfl (ls rfl (ls rfl (ls rfl (ls rfl (ls rfl (ls rfl (ls rfl (ls rfl (ls rfl (ls rfl lz)))))))))) (fun hg6_13_587 => opD_fieldAddr fo71_1_w2b ((lz.trans (pif_pos hg6_13_587)).trans (ptv0 _ _ _))) ?_
        replace hz_9 := grd_some hz_9
        obtain ⟨hg_589, hz_9⟩ := hz_9
        refine ztg _ rfl (ls rfl (ls rfl (ls rfl (ls rfl (ls rfl (ls rfl (ls rfl (ls rfl (ls rfl (ls rfl (ls rfl lz))))))))))) (fun hg6_14_588 => opD_load1_h ag3_w2b rfl hr_4 (lz.trans (pif_pos hg6_14_588)) (loc_getN rfl rfl) (flat_fld (j := 1) (at_getD default (nat_lt (hg_589 hg6_14_588))) rfl (by decide))) ?_
        refine ztg _ rfl (ls rfl (ls rfl (ls rfl (ls rfl (ls rfl (ls rfl (ls rfl (ls rfl (ls rfl (ls rfl (ls rfl (ls rfl lz)))))))))))) (fun hg6_15_590 => opD_add ((ls rfl (ls rfl (ls rfl (ls rfl (ls rfl (ls rfl lz)))))).trans (pif_pos hg6_15_590)) (lz.trans (pif_pos hg6_15_590)) rfl) ?_
        refine ztg _ rfl (ls rfl (ls rfl (ls rfl (ls rfl (ls rfl (ls rfl (ls rfl (ls rfl (ls rfl (ls rfl (ls rfl (ls rfl (ls rfl lz))))))))))))) (fun hg6_16_591 => opD_move (ls rfl (ls rfl (ls rfl (ls rfl (ls rfl (ls rfl (ls rfl (ls rfl (ls rfl (ls rfl (ls rfl (ls rfl (ls rfl (ls rfl (ls rfl (ls rfl oz))))))))))))))))) ?_
        refine ztg _ rfl (ls rfl (ls rfl (ls rfl (ls rfl (ls rfl (ls rfl (ls rfl (ls rfl (ls rfl (ls rfl (ls rfl (ls rfl (ls rfl (ls rfl lz)))))))))))))) (fun hg6_17_592 => opD_move (ls rfl (ls rfl (ls rfl (ls rfl (ls rfl (ls rfl (ls rfl (ls rfl (ls rfl (ls rfl (ls rfl (ls rfl (ls rfl (ls rfl (ls rfl (ls rfl (ls rfl (os rfl (os rfl oz)))))))))))))))))))) ?_
        replace hz_9 := grd_some hz_9
        obtain ⟨hg_594, hz_9⟩ := hz_9
        refine ztg _ rfl (ls rfl (ls rfl (ls rfl (ls rfl (ls rfl (ls rfl (ls rfl (ls rfl (ls rfl (ls rfl (ls rfl (ls rfl (ls rfl (ls rfl (ls rfl lz))))))))))))))) (fun hg6_18_593 => opD_indexAddr_sl (i := t_6.2.1.toNat) Go.Proofs.Tryd.underlying36 sz3_w2b ((ls rfl lz).trans (pif_pos hg6_18_593)) (lz.trans (pif_pos hg6_18_593)) (hg_594 hg6_18_593).eq (hg_594 hg6_18_593).2) ?_
        refine ztg _ rfl (ls rfl (ls rfl (ls rfl (ls rfl (ls rfl (ls rfl (ls rfl (ls rfl (ls rfl (ls rfl (ls rfl (ls rfl (ls rfl (ls rfl (ls rfl (ls rfl lz)))))))))))))))) (fun hg6_19_595 => opD_load_el_one ag3_w2b (lz.trans (pif_pos hg6_19_595)) (at_getD default (hg_594 hg6_19_595).2) rfl) ?_
        refine ztg _ rfl (ls rfl (ls rfl (ls rfl (ls rfl (ls rfl (ls rfl (ls rfl (ls rfl (ls rfl (ls rfl (ls rfl (ls rfl (ls rfl (ls rfl (ls rfl (ls rfl (ls rfl lz))))))))))))))))) (fun hg6_20_596 => opD_eql ((ls rfl (ls rfl (ls rfl (ls rfl lz)))).trans (pif_pos hg6_20_596)) (lz.trans (pif_pos hg6_20_596))) ?_
        refine zts _ rfl (opD_and (ls rfl (ls rfl (ls rfl (ls rfl (ls rfl (ls rfl (ls rfl (ls rfl (ls rfl (ls rfl (ls rfl (ls rfl (ls rfl (ls rfl (ls rfl (ls rfl (ls rfl (ls rfl lz)))))))))))))))))) lz) ?_
        refine .nil ?_
        refine aw_keep [(0, _), (3, _), (4, _), (5, _), (35, _)] ⟨lg (ls rfl (ls rfl (ls rfl (ls rfl (ls rfl (ls rfl (ls rfl (ls rfl (ls rfl (ls rfl (ls rfl (ls rfl (ls rfl (ls rfl (ls rfl (ls rfl (ls rfl (ls rfl (ls rfl (ls rfl (ls rfl (ls rfl oz)))))))))))))))))))))), lg (ls rfl (ls rfl (ls rfl (ls rfl (ls rfl (ls rfl (ls rfl (ls rfl (ls rfl (ls rfl (ls rfl (ls rfl (ls rfl (ls rfl (ls rfl (ls rfl (ls rfl (ls rfl (ls rfl (ls rfl (ls rfl (ls rfl (os rfl oz))))))))))))))))))))))), lg (ls rfl (ls rfl (ls rfl (ls rfl (ls rfl (ls rfl (ls rfl (ls rfl (ls rfl (ls rfl (ls rfl (ls rfl (ls rfl (ls rfl (ls rfl (ls rfl (ls rfl (ls rfl (ls rfl (ls rfl (ls rfl (ls rfl (os rfl (os rfl oz)))))))))))))))))))))))), lg (ls rfl (ls rfl (ls rfl (ls rfl (ls rfl (ls rfl (ls rfl (ls rfl (ls rfl (ls rfl (ls rfl (ls rfl (ls rfl (ls rfl (ls rfl (ls rfl (ls rfl (ls rfl (ls rfl (ls rfl (ls rfl (ls rfl (os rfl (os rfl (os rfl oz))))))))))))))))))))))))), lg lz, trivial⟩ ?_
        refine aw_cond _ (os rfl (os rfl (os rfl (os rfl oz)))) (fun hc => ?_) (fun hc => ?_)
        · skip
          replace hz_9 := ifb_t hz_9 hc
          clear hc
          refine aw_seq ?_
          refine aw_region (by decide) ?_
          refine rts _ rfl (opD_move (os rfl oz)) ?_
          refine rts _ rfl (opD_move (ls rfl (os rfl (os rfl (os rfl oz))))) ?_
          replace hz_9 := ltv_some hz_9
          obtain ⟨x_10, hx_10, hz_9⟩ := hz_9
          refine rts _ rfl (opD_sub lz (ev_const _ _) hx_10) ?_
          replace hz_9 := grd_some hz_9
          obtain ⟨hg_597, hz_9⟩ := hz_9
          refine rts _ rfl (opD_indexAddr_hx (i := x_10.toNat) Go.Proofs.Tryd.underlying47 sz71_w2b rfl ⟨_, (loc_getN rfl rfl)⟩ (ls rfl (ls rfl lz)) lz hg_597.eq hg_597.2) ?_
          refine rts _ rfl (opD_fieldAddr fo71_1_w2b (lz.trans (ptv0 _ _ _))) ?_
          replace hz_9 := ixb_some hz_9
          obtain ⟨x_11, hx_11, hbx_11, hz_9⟩ := hz_9
          refine rts _ rfl (opD_load1_h ag3_w2b rfl hr_4 lz (loc_getN rfl rfl) (flat_fld (j := 1) (nat_ix hx_11) rfl (by decide))) ?_
          refine rts _ rfl (opD_add lz (ev_const _ _) rfl) ?_
          replace hz_9 := grd_some hz_9
          obtain ⟨hg_598, hz_9⟩ := hz_9
          refine rts _ rfl (opD_indexAddr_hx (i := x_10.toNat) Go.Proofs.Tryd.underlying47 sz71_w2b rfl ⟨_, (loc_getN rfl rfl)⟩ (ls rfl (ls rfl (ls rfl (ls rfl (ls rfl (ls rfl lz)))))) (ls rfl (ls rfl (ls rfl (ls rfl lz)))) hg_598.eq hg_598.2) ?_
          refine rts _ rfl (opD_fieldAddr fo71_1_w2b (lz.trans (ptv0 _ _ _))) ?_
          replace hz_9 := ixb_some hz_9
          obtain ⟨x_12, hx_12, hbx_12, hz_9⟩ := hz_9
          refine rts _ rfl (storeP1N (k := kStx) (z := x_12) (y := (⟨x_12.From, IntKind.i64.wrap (x_11.Many + 1)⟩ : Stx)) (j := 1) rfl sz3_w2b rfl hr_4 lz (ls rfl (ls rfl lz)) (one_pl rfl) rfl (nat_ix hx_12) (by decide) (pl_bnd _ _ _) rfl (by simp only [na, nb, nc, nd, nf, ng, nh, ni, nj, nk] <;> rfl)) ?_
          refine .nil ?_
          refine aw_keep [(0, _), (3, _), (4, _)] ⟨lg (lx (ls rfl (ls rfl (ls rfl (ls rfl (ls rfl (ls rfl (ls rfl (ls rfl (ls rfl oz)))))))))), lg (lx (ls rfl (ls rfl (ls rfl (ls rfl (ls rfl (ls rfl (ls rfl (ls rfl (ls rfl (os rfl oz))))))))))), lg (lx (ls rfl (ls rfl (ls rfl (ls rfl (ls rfl (ls rfl (ls rfl (ls rfl (ls rfl (os rfl (os rfl oz)))))))))))), trivial⟩ ?_
          refine aw_exit ?_
          refine wk_yesN rfl (l := [(0, sl (kI .i64) none none p0), (3, hsl (s.boxes.length + 0) r_4 0 t_6.1 kStx.sz), (4, pl (.int .i64 t_6.2.1))]) (bs' := [⟨(hot 71 r_4), (flat kStx (t_6.2.2.set x_10.toNat (⟨x_12.From, IntKind.i64.wrap (x_11.Many + 1)⟩ : Stx)))⟩]) ⟨le_of_eq (eg oz), le_of_eq (eg (os rfl oz)), le_of_eq (eg (os rfl (os rfl oz))), trivial⟩ (bnd_cons (sl_b (kb_I _)) (bnd_cons (hsl_bnd _ (by first | omega | (simp only [List.length_append, List.length_cons, List.length_nil]; omega))) (bnd_cons (pl_bnd _ _ _) bnd_nil))) (Nat.le_of_ble_eq_true rfl) (by simp only [na, nb, nc, nd, nf, ng, nh, ni, nj, nk] <;> rfl) (bxle_same bxle_nil) rfl (by simp only [na, nb, nc, nd, nf, ng, nh, ni, nj, nk] <;> rfl) (bl_cons (flatKB kb_Stx) bl_nil) ?_
          exact ⟨((t_6.2.2.set x_10.toNat (⟨x_12.From, IntKind.i64.wrap (x_11.Many + 1)⟩ : Stx)), t_6.1), r_4, (by omega), (by omega), ⟨le_of_eq (eg oz), le_of_eq (eg (os rfl oz)), le_of_eq (eg (os rfl (os rfl oz))), trivial⟩, rfl, some_of hz_9⟩
        · skip
          replace hz_9 := ifb_f hz_9 hc
          clear hc
          refine aw_skip ?_
          refine aw_keep [(0, _), (3, _), (4, _)] ⟨lg oz, lg (os rfl oz), lg (os rfl (os rfl oz)), trivial⟩ ?_
          refine aw_region (by decide) ?_
          refine rts _ rfl (opD_move (os rfl oz)) ?_
          refine rts _ rfl (opD_move (ls rfl oz)) ?_
          refine rts _ rfl (opD_move (ls rfl (ls rfl (os rfl (os rfl oz))))) ?_
          replace hz_9 := ixb_some hz_9
          obtain ⟨x_13, hx_13, hbx_13, hz_9⟩ := hz_9
          refine rts _ rfl (opD_indexAddr_sl (i := t_6.2.1.toNat) Go.Proofs.Tryd.underlying36 sz3_w2b (ls rfl lz) lz hbx_13.2.2 hbx_13.2.1) ?_
          refine rts _ rfl (opD_load_el_one ag3_w2b lz hx_13 rfl) ?_
          refine rts _ rfl (opD_build_struct (rs := [_, _]) Go.Proofs.Tryd.underlying71 pt71_w2b zt71_w2b (parts_cons (cells1 lz (one_pl rfl)) (parts_cons (cells1 (ev_const _ _) (one_pl rfl)) parts_nil)) rfl) ?_
          refine rts _ rfl (opD_buildOwn (k := kStx) ([(⟨x_13, 1⟩ : Stx)] : (List Stx)) Go.Proofs.Tryd.underlying47 sz71_w2b zt71_w2b (by decide) rfl (parts_cons (cellsA lz) parts_nil) rfl rfl (by first | exact List.length_nil | (simp only [List.length_cons, List.length_nil, Nat.zero_add, Nat.reduceAdd] <;> rfl)) (by simp only [na, nb, nc, nd, nf, ng, nh, ni, nj, nk] <;> rfl)) ?_
          replace hz_9 := grd_some hz_9
          obtain ⟨hg_599, hz_9⟩ := hz_9
          replace hz_9 := grd_some hz_9
          obtain ⟨hg_600, hz_9⟩ := hz_9
          refine rts _ rfl (appendHN (k := kStx) rfl Go.Proofs.Tryd.underlying47 el71_w2b rfl hr_4 er_4 ((ls rfl (ls rfl (ls rfl (ls rfl (ls rfl (ls rfl lz)))))).trans (hsl_eq hg_599)) lz rfl kb_Stx hg_600.1 hg_600.2 (by simp only [na, nb, nc, nd, nf, ng, nh, ni, nj, nk] <;> rfl)) ?_
          refine rts _ rfl (opD_assign lz) ?_
          refine .nil ?_
          refine wk_yesN rfl (l := [(0, sl (kI .i64) none none p0), (3, hsl (s.boxes.length + 0) (r_4 + 2) 0 ((t_6.2.2 ++ ([(⟨x_13, 1⟩ : Stx)] : (List Stx))).length) kStx.sz), (4, pl (.int .i64 t_6.2.1))]) (bs' := [⟨(hot 71 (r_4 + 2)), (flat kStx (t_6.2.2 ++ ([(⟨x_13, 1⟩ : Stx)] : (List Stx))))⟩]) ⟨le_of_eq (eg (ls rfl (ls rfl (ls rfl (ls rfl (ls rfl (ls rfl (ls rfl (ls rfl (ls rfl oz)))))))))), le_of_eq (eg lz), le_of_eq (eg (ls rfl (ls rfl (ls rfl (ls rfl (ls rfl (ls rfl (ls rfl (ls rfl (ls rfl (os rfl (os rfl oz)))))))))))), trivial⟩ (bnd_cons (sl_b (kb_I _)) (bnd_cons (hsl_bnd _ (by first | omega | (simp only [List.length_append, List.length_cons, List.length_nil]; omega))) (bnd_cons (pl_bnd _ _ _) bnd_nil))) (Nat.le_of_ble_eq_true rfl) (by simp only [na, nb, nc, nd, nf, ng, nh, ni, nj, nk] <;> rfl) (bxle_same bxle_nil) rfl (by simp only [na, nb, nc, nd, nf, ng, nh, ni, nj, nk] <;> rfl) (bl_cons (flatKB kb_Stx) bl_nil) ?_
          exact ⟨((t_6.2.2 ++ ([(⟨x_13, 1⟩ : Stx)] : (List Stx))), (t_6.2.2 ++ ([(⟨x_13, 1⟩ : Stx)] : (List Stx))).length), (r_4 + 2), (by omega), (by omega), ⟨le_of_eq (eg oz), le_of_eq (eg (os rfl oz)), le_of_eq (eg (os rfl (os rfl oz))), trivial⟩, rfl, some_of hz_9⟩
      · rintro e st ⟨vz_9, r_8, hr_8, er_8, hH, rfl, rfl⟩
        refine aw_keep _ hH ?_
        refine aw_keep [(0, _), (3, _), (4, _)] ⟨lg oz, lg (os rfl oz), lg (os rfl (os rfl oz)), trivial⟩ ?_
        refine aw_region (by decide) ?_
        refine rts _ rfl (opD_move (os rfl (os rfl oz))) ?_
        refine rts _ rfl (opD_add lz (ev_const _ _) rfl) ?_
        refine rts _ rfl (opD_assign lz) ?_
        refine .nil ?_
        obtain rfl := some_of hz_7
        replace hz_2 := ocs_l hz_2
        refine wk_yesN rfl (l := [(0, sl (kI .i64) none none p0), (3, hsl (s.boxes.length + 0) r_8 0 vz_9.2 kStx.sz), (4, pl (.int .i64 (IntKind.i64.wrap (t_6.2.1 + 1))))]) (bs' := [⟨(hot 71 r_8), (flat kStx vz_9.1)⟩]) ⟨le_of_eq (eg (ls rfl (ls rfl (ls rfl oz)))), le_of_eq (eg (ls rfl (ls rfl (ls rfl (os rfl oz))))), le_of_eq (eg lz), trivial⟩ (bnd_cons (sl_b (kb_I _)) (bnd_cons (hsl_bnd _ (by first | omega | (simp only [List.length_append, List.length_cons, List.length_nil]; omega))) (bnd_cons (pl_bnd _ _ _) bnd_nil))) (Nat.le_of_ble_eq_true rfl) (by simp only [na, nb, nc, nd, nf, ng, nh, ni, nj, nk] <;> rfl) (bxle_same bxle_nil) rfl (by simp only [na, nb, nc, nd, nf, ng, nh, ni, nj, nk] <;> rfl) (bl_cons (flatKB kb_Stx) bl_nil) ?_
        exact ⟨m_z_7, Nat.lt_succ_self _, (vz_9.2, IntKind.i64.wrap (t_6.2.1 + 1), vz_9.1), r_8, (by omega), (by omega), ⟨le_of_eq (eg oz), le_of_eq (eg (os rfl oz)), le_of_eq (eg (os rfl (os rfl oz))), trivial⟩, rfl, hz_2⟩
    · skip
      replace hz_7 := ifb_f hz_7 hc
      clear hc
      refine aw_exit ?_
      obtain rfl := some_of hz_7
      replace hz_2 := ocs_r hz_2
      refine wk_no ?_
      refine wk_yesN rfl (l := [(3, hsl (s.boxes.length + 0) r_4 0 t_6.1 kStx.sz)]) (bs' := [⟨(hot 71 r_4), (flat kStx t_6.2.2)⟩]) ⟨le_of_eq (eg (os rfl oz)), trivial⟩ (bnd_cons (hsl_bnd _ (by first | omega | (simp only [List.length_append, List.length_cons, List.length_nil]; omega))) bnd_nil) (Nat.le_of_ble_eq_true rfl) (by simp only [na, nb, nc, nd, nf, ng, nh, ni, nj, nk] <;> rfl) (bxle_same bxle_nil) rfl (by simp only [na, nb, nc, nd, nf, ng, nh, ni, nj, nk] <;> rfl) (bl_cons (flatKB kb_Stx) bl_nil) ?_
      exact ⟨(t_6.2.2, t_6.1), r_4, (by omega), (by omega), ⟨le_of_eq (eg oz), trivial⟩, rfl, some_of hz_2⟩
  · rintro e st ⟨vz_2, r_1, hr_1, er_1, hH, rfl, rfl⟩
    refine aw_keep _ hH ?_
    refine aw_keep [(3, _)] ⟨lg oz, trivial⟩ ?_
    refine aw_seq ?_
    refine aw_region (by decide) ?_
    refine rts _ rfl (opD_move oz) ?_
    refine rts _ rfl (opD_assign lz) ?_
    refine .nil ?_
    refine aw_keep [(2, _)] ⟨lg lz, trivial⟩ ?_
    replace h0 := grd_some h0
    obtain ⟨hg_601, h0⟩ := h0
    refine aw_seal (k := kStx) (bs' := [⟨((hot 71 r_1) + HOT), []⟩]) (i := 0) (r := r_1) (te := 71) rfl [(2, sl kStx none none vz_2.1)] rfl rfl hr_1 er_1 (by decide) ⟨rfl, rfl, trivial⟩ (bl_cons bnd_nil bl_nil) ⟨seal_e oz (seal_sln hg_601), trivial⟩ ?_
    refine aw_ret ?_
    obtain rfl := some_of h0
    exact done_ext (.inr rfl) ((res_one rfl (it_tmp oz)).le (Pd.le_refl _)) (sl_b kb_Stx)

def F_r16Free_b0 (x_1 : ((List Int) × Bool)) (t_3 : (List Int) × Int) : Option (((List Int) × Int) ⊕ (((List Int)))) :=
  ifb (decide (t_3.2 < (x_1.1.length : Int))) (bnd (ixb x_1.1 t_3.2 fun x_6 => ifb (decide (x_6 = 0)) (grd (Fits 8 (t_3.1.length + ([t_3.2] : (List Int)).length)) <| some (t_3.1 ++ ([t_3.2] : (List Int)))) (some t_3.1)) fun z_5 => some (.inl (z_5, IntKind.i64.wrap (t_3.2 + 1)))) (some (.inr t_3.1))
def F_r16Free (fl : Nat) (p0 : (List Stx)) (p1 : Int) : Option ((List Stx) × Int) :=
  bnd (F_r16marks fl p0 p1) fun x_1 => ifb (!x_1.2) (some ([], 1)) (bnd (lp (F_r16Free_b0 x_1) fl (([] : (List Int)), 0)) fun z_2 => bnd (F_r16of fl z_2) fun x_7 => some (x_7, 0))
set_option maxRecDepth 100000 in
set_option maxHeartbeats 2000000 in
theorem c_r16Free {fl : Nat} {p0 : (List Stx)} {p1 : Int} {R : (List Stx) × Int} (h0 : F_r16Free fl p0 p1 = some R) : Pure Go.Proofs.Tryd.prog 33 [sl kStx none none p0, pl (.int .i64 p1)] (tup [sl kStx none none R.1, pl (.int .i64 R.2)]) := by
  intro s
  unfold F_r16Free at h0
  refine ac_of_aw s.boxes.length s.fr.length Go.Proofs.Tryd.func33 rfl (by simp [Go.Proofs.Tryd.ntmps33]) ?_
  refine aw_ext0 ?_
  refine aw_keep [(0, _), (1, _)] ⟨lg ez, lg (es ez), trivial⟩ ?_
  refine aw_seq ?_
  refine aw_region (by decide) ?_
  refine rts _ rfl (opD_assign (ev_const _ _)) ?_
  refine rts _ rfl (opD_assign (ev_const _ _)) ?_
  refine .nil ?_
  refine aw_keep [(0, _), (1, _)] ⟨lg (ls rfl (ls rfl oz)), lg (ls rfl (ls rfl (os rfl oz))), trivial⟩ ?_
  refine aw_seq ?_
  refine aw_region (by decide) ?_
  refine rts _ rfl (opD_move oz) ?_
  refine rts _ rfl (opD_move (ls rfl (os rfl oz))) ?_
  replace h0 := bnd_some h0
  obtain ⟨x_1, hx_1, h0⟩ := h0
  refine rts _ rfl (opD_pure ht92_w2b (c_r16marks hx_1) ⟨le_of_eq (ls rfl lz), le_of_eq lz, trivial⟩) ?_
  refine rts _ rfl (opD_move lz) ?_
  refine rts _ rfl (opD_extract lz rfl) ?_
  refine rts _ rfl (opD_extract (ls rfl lz) rfl) ?_
  refine rts _ rfl (opD_assign (ls rfl lz)) ?_
  refine rts _ rfl (opD_assign (ls rfl lz)) ?_
  refine .nil ?_
  refine aw_keep [(6, _), (7, _)] ⟨lg (ls rfl lz), lg lz, trivial⟩ ?_
  refine aw_seq ?_
  refine aw_seq ?_
  refine aw_region (by decide) ?_
  refine rts _ rfl (opD_move (os rfl oz)) ?_
  refine rts _ rfl (opD_not lz) ?_
  refine .nil ?_
  refine aw_keep [(6, _), (17, _)] ⟨lg (ls rfl (ls rfl oz)), lg lz, trivial⟩ ?_
  refine aw_cond _ (os rfl oz) (fun hc => ?_) (fun hc => ?_)
  · skip
    replace h0 := ifb_t h0 hc
    clear hc
    refine aw_seq ?_
    refine aw_region (by decide) ?_
    refine rts _ rfl (opD_assign (ev_const _ _)) ?_
    refine rts _ rfl (opD_assign (ev_const _ _)) ?_
    refine .nil ?_
    refine aw_keep [(4, _), (5, _)] ⟨lg (ls rfl lz), lg lz, trivial⟩ ?_
    refine aw_ret ?_
    obtain rfl := some_of h0
    exact done_ext (.inr rfl) ((res_list (rs := [_, _]) (ps := [_, _]) rfl rfl ⟨it_tmp oz, it_tmp (os rfl oz), trivial⟩).le (tup_le ⟨(le_nil rfl), (Pd.le_refl _), trivial⟩)) (tup_bnd (bnd_cons (sl_b kb_Stx) (bnd_cons (pl_bnd _ _ _) bnd_nil)))
  · skip
    replace h0 := ifb_f h0 hc
    clear hc
    refine aw_skip ?_
    refine aw_keep [(6, _)] ⟨lg oz, trivial⟩ ?_
    refine aw_seq ?_
    refine aw_region (by decide) ?_
    refine rts _ rfl (opD_assign (ev_const _ _)) ?_
    refine .nil ?_
    refine aw_keep [(6, _), (8, _)] ⟨lg (ls rfl oz), lg lz, trivial⟩ ?_
    refine aw_seq ?_
    refine aw_seq ?_
    refine aw_region (by decide) ?_
    refine rts _ rfl (opD_assign (ev_const _ _)) ?_
    refine .nil ?_
    refine aw_keep [(6, _), (8, _), (9, _)] ⟨lg (ls rfl oz), lg (ls rfl (os rfl oz)), lg lz, trivial⟩ ?_
    replace h0 := bnd_some h0
    obtain ⟨z_2, hz_2, h0⟩ := h0
    refine aw_mid (fun e st => ∃ v : (List Int), Holds e [(8, sl (kI .i64) none none v)] ∧ st = s.ext [] [] ∧ v = z_2) ?_ ?_
    · skip
      refine aw_wkN rfl 0 0 rfl rfl ?_
      refine aw_block ?_
      refine aw_fr ⟨3, 1, 0⟩ ?_
      refine aw_loop (fun n e st => ∃ v : (List Int) × Int, Holds e [(6, sl (kI .i64) none none x_1.1), (8, sl (kI .i64) (some (s.fr.length + 0)) none v.1), (9, pl (.int .i64 v.2))] ∧ st = s.ext [] [⟨3, 1, v.1.length⟩] ∧ lp (F_r16Free_b0 x_1) n v = some z_2) fl ⟨(([] : (List Int)), 0), ⟨le_of_eq (eg oz), (le_of_eq (eg (os rfl oz))).trans (nil_own rfl), le_of_eq (eg (os rfl (os rfl oz))), trivial⟩, rfl, hz_2⟩ ?_
      rintro n e st ⟨t_3, hH, rfl, hz_2⟩
      replace hz_2 := lp_some hz_2
      obtain ⟨m_z_4, z_4, rfl, hz_4, hz_2⟩ := hz_2
      unfold F_r16Free_b0 at hz_4
      refine aw_keep _ hH ?_
      refine aw_wkN rfl 0 1 rfl rfl ?_
      refine aw_seq ?_
      refine aw_seq ?_
      refine aw_region (by decide) ?_
      refine rts _ rfl (opD_move (os rfl (os rfl oz))) ?_
      refine rts _ rfl (opD_move (ls rfl oz)) ?_
      refine rts _ rfl (opD_len_sl Go.Proofs.Tryd.underlying36 lz) ?_
      refine rts _ rfl (opD_lss (ls rfl (ls rfl lz)) lz) ?_
      refine .nil ?_
      refine aw_keep [(6, _), (8, _), (9, _), (21, _)] ⟨lg (ls rfl (ls rfl (ls rfl (ls rfl oz)))), lg (ls rfl (ls rfl (ls rfl (ls rfl (os rfl oz))))), lg (ls rfl (ls rfl (ls rfl (ls rfl (os rfl (os rfl oz)))))), lg lz, trivial⟩ ?_
      refine aw_cond _ (os rfl (os rfl (os rfl oz))) (fun hc => ?_) (fun hc => ?_)
      · skip
        replace hz_4 := ifb_t hz_4 hc
        clear hc
        refine aw_skip ?_
        refine aw_keep [(6, _), (8, _), (9, _)] ⟨lg oz, lg (os rfl oz), lg (os rfl (os rfl oz)), trivial⟩ ?_
        refine aw_seq ?_
        replace hz_4 := bnd_some hz_4
        obtain ⟨z_5, hz_5, hz_4⟩ := hz_4
        refine aw_mid (fun e st => ∃ v : (List Int), Holds e [(6, sl (kI .i64) none none x_1.1), (8, sl (kI .i64) (some (s.fr.length + 0)) none v), (9, pl (.int .i64 t_3.2))] ∧ st = s.ext [] [⟨3, 1, v.length⟩] ∧ v = z_5) ?_ ?_
        · skip
          refine aw_wkN rfl 0 1 rfl rfl ?_
          refine aw_block ?_
          refine aw_seq ?_
          refine aw_region (by decide) ?_
          refine rts _ rfl (opD_move oz) ?_
          refine rts _ rfl (opD_move (ls rfl (os rfl (os rfl oz)))) ?_
          replace hz_5 := ixb_some hz_5
          obtain ⟨x_6, hx_6, hbx_6, hz_5⟩ := hz_5
          refine rts _ rfl (opD_indexAddr_sl (i := t_3.2.toNat) Go.Proofs.Tryd.underlying36 sz3_w2b (ls rfl lz) lz hbx_6.2.2 hbx_6.2.1) ?_
          refine rts _ rfl (opD_load_el_one ag3_w2b lz hx_6 rfl) ?_
          refine rts _ rfl (opD_eql lz (ev_const _ _)) ?_
          refine .nil ?_
          refine aw_keep [(6, _), (8, _), (9, _), (28, _)] ⟨lg (ls rfl (ls rfl (ls rfl (ls rfl (ls rfl oz))))), lg (ls rfl (ls rfl (ls rfl (ls rfl (ls rfl (os rfl oz)))))), lg (ls rfl (ls rfl (ls rfl (ls rfl (ls rfl (os rfl (os rfl oz))))))), lg lz, trivial⟩ ?_
          refine aw_cond _ (os rfl (os rfl (os rfl oz))) (fun hc => ?_) (fun hc => ?_)
          · skip
            replace hz_5 := ifb_t hz_5 hc
            clear hc
            refine aw_region (by decide) ?_
            refine rts _ rfl (opD_move (os rfl oz)) ?_
            refine rts _ rfl (opD_move (ls rfl (os rfl (os rfl oz)))) ?_
            refine rts _ rfl (opD_buildOwn (k := kI .i64) ([t_3.2] : (List Int)) Go.Proofs.Tryd.underlying36 sz3_w2b zt3_w2b (by decide) rfl (parts_cons (cells1 lz (one_pl rfl)) parts_nil) rfl rfl (by first | exact List.length_nil | (simp only [List.length_cons, List.length_nil, Nat.zero_add, Nat.reduceAdd] <;> rfl)) (by simp only [na, nb, nc, nd, nf, ng, nh, ni, nj, nk] <;> rfl)) ?_
            replace hz_5 := grd_some hz_5
            obtain ⟨hg_12, hz_5⟩ := hz_5
            refine rts _ rfl (opD_appendX Go.Proofs.Tryd.underlying36 el3_w2b (ls rfl (ls rfl lz)) lz rfl hg_12.1 hg_12.2 rfl (by simp only [na, nb, nc, nd, nf, ng, nh, ni, nj, nk] <;> rfl)) ?_
            refine rts _ rfl (opD_assign lz) ?_
            refine .nil ?_
            refine wk_yesN rfl (l := [(6, sl (kI .i64) none none x_1.1), (8, sl (kI .i64) (some (s.fr.length + 0)) none (t_3.1 ++ ([t_3.2] : (List Int)))), (9, pl (.int .i64 t_3.2))]) (bs' := []) ⟨le_of_eq (eg (ls rfl (ls rfl (ls rfl (ls rfl (ls rfl oz)))))), le_of_eq (eg lz), le_of_eq (eg (ls rfl (ls rfl (ls rfl (ls rfl (ls rfl (os rfl (os rfl oz)))))))), trivial⟩ (bnd_cons (sl_b (kb_I _)) (bnd_cons (sl_ob (kb_I _) (by first | omega | (simp only [List.length_append, List.length_cons, List.length_nil, ext_fr_length, upd_fr_length]; omega))) (bnd_cons (pl_bnd _ _ _) bnd_nil))) (Nat.le_of_ble_eq_true rfl) (by simp only [na, nb, nc, nd, nf, ng, nh, ni, nj, nk] <;> rfl) bxle_nil rfl (by simp only [na, nb, nc, nd, nf, ng, nh, ni, nj, nk] <;> rfl) bl_nil ?_
            exact ⟨(t_3.1 ++ ([t_3.2] : (List Int))), ⟨le_of_eq (eg oz), le_of_eq (eg (os rfl oz)), le_of_eq (eg (os rfl (os rfl oz))), trivial⟩, rfl, some_of hz_5⟩
          · skip
            replace hz_5 := ifb_f hz_5 hc
            clear hc
            refine aw_skip ?_
            refine wk_yesN rfl (l := [(6, sl (kI .i64) none none x_1.1), (8, sl (kI .i64) (some (s.fr.length + 0)) none t_3.1), (9, pl (.int .i64 t_3.2))]) (bs' := []) ⟨le_of_eq (eg oz), le_of_eq (eg (os rfl oz)), le_of_eq (eg (os rfl (os rfl oz))), trivial⟩ (bnd_cons (sl_b (kb_I _)) (bnd_cons (sl_ob (kb_I _) (by first | omega | (simp only [List.length_append, List.length_cons, List.length_nil, ext_fr_length, upd_fr_length]; omega))) (bnd_cons (pl_bnd _ _ _) bnd_nil))) (Nat.le_of_ble_eq_true rfl) (by simp only [na, nb, nc, nd, nf, ng, nh, ni, nj, nk] <;> rfl) bxle_nil rfl (by simp only [na, nb, nc, nd, nf, ng, nh, ni, nj, nk] <;> rfl) bl_nil ?_
            exact ⟨t_3.1, ⟨le_of_eq (eg oz), le_of_eq (eg (os rfl oz)), le_of_eq (eg (os rfl (os rfl oz))), trivial⟩, rfl, some_of hz_5⟩
        · rintro e st ⟨vz_5, hH, rfl, rfl⟩
          refine aw_keep _ hH ?_
          refine aw_keep [(6, _), (8, _), (9, _)] ⟨lg oz, lg (os rfl oz), lg (os rfl (os rfl oz)), trivial⟩ ?_
          refine aw_region (by decide) ?_
          refine rts _ rfl (opD_move (os rfl (os rfl oz))) ?_
          refine rts _ rfl (opD_add lz (ev_const _ _) rfl) ?_
          refine rts _ rfl (opD_assign lz) ?_
          refine .nil ?_
          obtain rfl := some_of hz_4
          replace hz_2 := ocs_l hz_2
          refine wk_yesN rfl (l := [(6, sl (kI .i64) none none x_1.1), (8, sl (kI .i64) (some (s.fr.length + 0)) none vz_5), (9, pl (.int .i64 (IntKind.i64.wrap (t_3.2 + 1))))]) (bs' := []) ⟨le_of_eq (eg (ls rfl (ls rfl (ls rfl oz)))), le_of_eq (eg (ls rfl (ls rfl (ls rfl (os rfl oz))))), le_of_eq (eg lz), trivial⟩ (bnd_cons (sl_b (kb_I _)) (bnd_cons (sl_ob (kb_I _) (by first | omega | (simp only [List.length_append, List.length_cons, List.length_nil, ext_fr_length, upd_fr_length]; omega))) (bnd_cons (pl_bnd _ _ _) bnd_nil))) (Nat.le_of_ble_eq_true rfl) (by simp only [na, nb, nc, nd, nf, ng, nh, ni, nj, nk] <;> rfl) bxle_nil rfl (by simp only [na, nb, nc, nd, nf, ng, nh, ni, nj, nk] <;> rfl) bl_nil ?_
          exact ⟨m_z_4, Nat.lt_succ_self _, (vz_5, IntKind.i64.wrap (t_3.2 + 1)), ⟨le_of_eq (eg oz), le_of_eq (eg (os rfl oz)), le_of_eq (eg (os rfl (os rfl oz))), trivial⟩, rfl, hz_2⟩
      · skip
        replace hz_4 := ifb_f hz_4 hc
        clear hc
        refine aw_exit ?_
        obtain rfl := some_of hz_4
        replace hz_2 := ocs_r hz_2
        refine wk_no ?_
        refine wk_yesN rfl (l := [(8, sl (kI .i64) none none t_3.1)]) (bs' := []) ⟨(le_of_eq (eg (os rfl oz))).trans (sl_le _ (some (s.fr.length + 0)) none _), trivial⟩ (bnd_cons (sl_b (kb_I _)) bnd_nil) (Nat.le_of_ble_eq_true rfl) (by simp only [na, nb, nc, nd, nf, ng, nh, ni, nj, nk] <;> rfl) bxle_nil rfl (by simp only [na, nb, nc, nd, nf, ng, nh, ni, nj, nk] <;> rfl) bl_nil ?_
        exact ⟨t_3.1, ⟨le_of_eq (eg oz), trivial⟩, rfl, some_of hz_2⟩
    · rintro e st ⟨vz_2, hH, rfl, rfl⟩
      refine aw_keep _ hH ?_
      refine aw_keep [(8, _)] ⟨lg oz, trivial⟩ ?_
      refine aw_seq ?_
      refine aw_region (by decide) ?_
      refine rts _ rfl (opD_move oz) ?_
      replace h0 := bnd_some h0
      obtain ⟨x_7, hx_7, h0⟩ := h0
      refine rts _ rfl (opD_pure ht93_w2b (c_r16of hx_7) ⟨le_of_eq lz, trivial⟩) ?_
      refine rts _ rfl (opD_assign lz) ?_
      refine rts _ rfl (opD_assign (ev_const _ _)) ?_
      refine .nil ?_
      refine aw_keep [(4, _), (5, _)] ⟨lg (ls rfl lz), lg lz, trivial⟩ ?_
      refine aw_ret ?_
      obtain rfl := some_of h0
      exact done_ext (.inr rfl) ((res_list (rs := [_, _]) (ps := [_, _]) rfl rfl ⟨it_tmp oz, it_tmp (os rfl oz), trivial⟩).le (tup_le ⟨(Pd.le_refl _), (Pd.le_refl _), trivial⟩)) (tup_bnd (bnd_cons (sl_b kb_Stx) (bnd_cons (pl_bnd _ _ _) bnd_nil)))

def F_r16Reserve_b0 (p0 : (List Stx)) (t_3 : Int) : Option ((Int) ⊕ (((List Stx) × (List Stx) × Int) ⊕ (Unit))) :=
  ifb (decide (t_3 < (p0.length : Int))) (ixb p0 t_3 fun x_5 => ixb p0 (IntKind.i64.wrap (t_3 - 1)) fun x_6 => ifb (decide (x_5.From < x_6.From)) (some (.inr (.inl ([], [], 1)))) (some (.inl (IntKind.i64.wrap (t_3 + 1))))) (some (.inr (.inr ())))
def F_r16Reserve_b1 (p0 : (List Stx)) (t_8 : Int × (List Stx) × (List Stx) × Int) : Option ((Int × (List Stx) × (List Stx) × Int) ⊕ ((Int × (List Stx) × (List Stx)))) :=
  ifb (decide (t_8.2.2.2 < (p0.length : Int))) (ixb p0 t_8.2.2.2 fun x_10 => bnd (ifb (decide (0 < (if x_10.Many < t_8.1 then x_10.Many else t_8.1))) (grd (Fits 16 (t_8.2.1.length + ([(⟨x_10.From, (if x_10.Many < t_8.1 then x_10.Many else t_8.1)⟩ : Stx)] : (List Stx)).length)) <| some (t_8.2.1 ++ ([(⟨x_10.From, (if x_10.Many < t_8.1 then x_10.Many else t_8.1)⟩ : Stx)] : (List Stx)))) (some t_8.2.1)) fun z_11 => bnd (ifb (decide ((if x_10.Many < t_8.1 then x_10.Many else t_8.1) < x_10.Many)) (grd (Fits 16 (t_8.2.2.1.length + ([(⟨IntKind.i64.wrap (x_10.From + (if x_10.Many < t_8.1 then x_10.Many else t_8.1)), IntKind.i64.wrap (x_10.Many - (if x_10.Many < t_8.1 then x_10.Many else t_8.1))⟩ : Stx)] : (List Stx)).length)) <| some (t_8.2.2.1 ++ ([(⟨IntKind.i64.wrap (x_10.From + (if x_10.Many < t_8.1 then x_10.Many else t_8.1)), IntKind.i64.wrap (x_10.Many - (if x_10.Many < t_8.1 then x_10.Many else t_8.1))⟩ : Stx)] : (List Stx)))) (some t_8.2.2.1)) fun z_12 => some (.inl (IntKind.i64.wrap (t_8.1 - (if x_10.Many < t_8.1 then x_10.Many else t_8.1)), z_11, z_12, IntKind.i64.wrap (t_8.2.2.2 + 1)))) (some (.inr (t_8.1, t_8.2.1, t_8.2.2.1)))
def F_r16Reserve (fl : Nat) (p0 : (List Stx)) (p1 : Int) : Option ((List Stx) × (List Stx) × Int) :=
  bnd (F_r16May fl p0 1024) fun x_1 => ifb ((!x_1) || (decide (p1 < 1))) (some ([], [], 1)) (bnd (lp (F_r16Reserve_b0 p0) fl 1) fun z_2 => ocs z_2 (fun qz_2_0 => some qz_2_0) fun z_2_0 => bnd (lp (F_r16Reserve_b1 p0) fl (p1, ([] : (List Stx)), ([] : (List Stx)), 0)) fun z_7 => ifb ((decide (0 < z_7.1)) || (decide (8 < (z_7.2.1.length : Int)))) (some ([], [], 7)) (some (z_7.2.1, z_7.2.2, 0)))
set_option maxRecDepth 100000 in
set_option maxHeartbeats 2000000 in
theorem c_r16Reserve {fl : Nat} {p0 : (List Stx)} {p1 : Int} {R : (List Stx) × (List Stx) × Int} (h0 : F_r16Reserve fl p0 p1 = some R) : Pure Go.Proofs.Tryd.prog 35 [sl kStx none none p0, pl (.int .i64 p1)] (tup [sl kStx none none R.1, sl kStx none none R.2.1, pl (.int .i64 R.2.2)]) := by
  intro s
  unfold F_r16Reserve at h0
  refine ac_of_aw s.boxes.length s.fr.length Go.Proofs.Tryd.func35 rfl (by simp [Go.Proofs.Tryd.ntmps35]) ?_
  refine aw_ext0 ?_
  refine aw_keep [(0, _), (1, _)] ⟨lg ez, lg (es ez), trivial⟩ ?_
  refine aw_seq ?_
  refine aw_region (by decide) ?_
  refine rts _ rfl (opD_assign (ev_const _ _)) ?_
  refine rts _ rfl (opD_assign (ev_const _ _)) ?_
  refine rts _ rfl (opD_assign (ev_const _ _)) ?_
  refine .nil ?_
  refine aw_keep [(0, _), (1, _)] ⟨lg (ls rfl (ls rfl (ls rfl oz))), lg (ls rfl (ls rfl (ls rfl (os rfl oz)))), trivial⟩ ?_
  refine aw_seq ?_
  refine aw_seq ?_
  refine aw_region (by decide) ?_
  refine rts _ rfl (opD_move oz) ?_
  replace h0 := bnd_some h0
  obtain ⟨x_1, hx_1, h0⟩ := h0
  refine rts _ rfl (opD_pure ht37_w2b (c_r16May hx_1) ⟨le_of_eq lz, le_of_eq (ev_const _ _), trivial⟩) ?_
  refine rts _ rfl (opD_not lz) ?_
  refine rts _ rfl (opD_move lz) ?_
  refine rtg _ rfl lz (fun hg1_4_1 => opD_move (ls rfl (ls rfl (ls rfl (ls rfl (os rfl oz)))))) ?_
  refine rtg _ rfl (ls rfl lz) (fun hg1_5_2 => opD_lss (lz.trans (pif_pos hg1_5_2)) (ev_const _ _)) ?_
  refine rts _ rfl (opD_or (ls rfl (ls rfl lz)) lz) ?_
  refine .nil ?_
  refine aw_keep [(0, _), (1, _), (19, _)] ⟨lg (ls rfl (ls rfl (ls rfl (ls rfl (ls rfl (ls rfl (ls rfl oz))))))), lg (ls rfl (ls rfl (ls rfl (ls rfl (ls rfl (ls rfl (ls rfl (os rfl oz)))))))), lg lz, trivial⟩ ?_
  refine aw_cond _ (os rfl (os rfl oz)) (fun hc => ?_) (fun hc => ?_)
  · skip
    replace h0 := ifb_t h0 hc
    clear hc
    refine aw_seq ?_
    refine aw_region (by decide) ?_
    refine rts _ rfl (opD_assign (ev_const _ _)) ?_
    refine rts _ rfl (opD_assign (ev_const _ _)) ?_
    refine rts _ rfl (opD_assign (ev_const _ _)) ?_
    refine .nil ?_
    refine aw_keep [(4, _), (5, _), (6, _)] ⟨lg (ls rfl (ls rfl lz)), lg (ls rfl lz), lg lz, trivial⟩ ?_
    refine aw_ret ?_
    obtain rfl := some_of h0
    exact done_ext (.inr rfl) ((res_list (rs := [_, _, _]) (ps := [_, _, _]) rfl rfl ⟨it_tmp oz, it_tmp (os rfl oz), it_tmp (os rfl (os rfl oz)), trivial⟩).le (tup_le ⟨(le_nil rfl), (le_nil rfl), (Pd.le_refl _), trivial⟩)) (tup_bnd (bnd_cons (sl_b kb_Stx) (bnd_cons (sl_b kb_Stx) (bnd_cons (pl_bnd _ _ _) bnd_nil))))
  · skip
    replace h0 := ifb_f h0 hc
    clear hc
    refine aw_skip ?_
    refine aw_keep [(0, _), (1, _)] ⟨lg oz, lg (os rfl oz), trivial⟩ ?_
    refine aw_seq ?_
    refine aw_seq ?_
    refine aw_region (by decide) ?_
    refine rts _ rfl (opD_assign (ev_const _ _)) ?_
    refine .nil ?_
    refine aw_keep [(0, _), (1, _), (7, _)] ⟨lg (ls rfl oz), lg (ls rfl (os rfl oz)), lg lz, trivial⟩ ?_
    replace h0 := bnd_some h0
    obtain ⟨z_2, hz_2, h0⟩ := h0
    refine aw_mid (fun e st => ∃ v : Unit, Holds e [(0, sl kStx none none p0), (1, pl (.int .i64 p1))] ∧ st = s.ext [] [] ∧ (.inr v) = z_2) ?_ ?_
    · skip
      refine aw_wkN rfl 0 0 rfl rfl ?_
      refine aw_block ?_
      refine aw_loop (fun n e st => ∃ v : Int, Holds e [(0, sl kStx none none p0), (1, pl (.int .i64 p1)), (7, pl (.int .i64 v))] ∧ st = s.ext [] [] ∧ lp (F_r16Reserve_b0 p0) n v = some z_2) fl ⟨1, ⟨le_of_eq (eg oz), le_of_eq (eg (os rfl oz)), le_of_eq (eg (os rfl (os rfl oz))), trivial⟩, rfl, hz_2⟩ ?_
      rintro n e st ⟨t_3, hH, rfl, hz_2⟩
      replace hz_2 := lp_some hz_2
      obtain ⟨m_z_4, z_4, rfl, hz_4, hz_2⟩ := hz_2
      unfold F_r16Reserve_b0 at hz_4
      refine aw_keep _ hH ?_
      refine aw_wkN rfl 0 0 rfl rfl ?_
      refine aw_seq ?_
      refine aw_seq ?_
      refine aw_region (by decide) ?_
      refine rts _ rfl (opD_move (os rfl (os rfl oz))) ?_
      refine rts _ rfl (opD_move (ls rfl oz)) ?_
      refine rts _ rfl (opD_len_sl Go.Proofs.Tryd.underlying47 lz) ?_
      refine rts _ rfl (opD_lss (ls rfl (ls rfl lz)) lz) ?_
      refine .nil ?_
      refine aw_keep [(0, _), (1, _), (7, _), (23, _)] ⟨lg (ls rfl (ls rfl (ls rfl (ls rfl oz)))), lg (ls rfl (ls rfl (ls rfl (ls rfl (os rfl oz))))), lg (ls rfl (ls rfl (ls rfl (ls rfl (os rfl (os rfl oz)))))), lg lz, trivial⟩ ?_
      refine aw_cond _ (os rfl (os rfl (os rfl oz))) (fun hc => ?_) (fun hc => ?_)
      · skip
        replace hz_4 := ifb_t hz_4 hc
        clear hc
        refine aw_skip ?_
        refine aw_keep [(0, _), (1, _), (7, _)] ⟨lg oz, lg (os rfl oz), lg (os rfl (os rfl oz)), trivial⟩ ?_
        refine aw_seq ?_
        refine aw_block ?_
        refine aw_seq ?_
        refine aw_flat mixed_w2b (by decide +kernel) ?_
        refine zts _ rfl (opD_move oz) ?_
        refine zts _ rfl (opD_move (ls rfl (os rfl (os rfl oz)))) ?_
        replace hz_4 := ixb_some hz_4
        obtain ⟨x_5, hx_5, hbx_5, hz_4⟩ := hz_4
        refine zts _ rfl (opD_indexAddr_sl (i := t_3.toNat) Go.Proofs.Tryd.underlying47 sz71_w2b (ls rfl lz) lz hbx_5.2.2 hbx_5.2.1) ?_
        refine zts _ rfl (opD_fieldAddr_el fo71_0_w2b lz) ?_
        refine zts _ rfl (opD_load_el_one ag3_w2b lz hx_5 rfl) ?_
        refine zts _ rfl (opD_move (ls rfl (ls rfl (ls rfl (ls rfl (ls rfl oz)))))) ?_
        refine zts _ rfl (opD_move (ls rfl (ls rfl (ls rfl (ls rfl (ls rfl (ls rfl (os rfl (os rfl oz))))))))) ?_
        refine zts _ rfl (opD_sub lz (ev_const _ _) rfl) ?_
        replace hz_4 := ixb_some hz_4
        obtain ⟨x_6, hx_6, hbx_6, hz_4⟩ := hz_4
        refine zts _ rfl (opD_indexAddr_sl (i := (IntKind.i64.wrap (t_3 - 1)).toNat) Go.Proofs.Tryd.underlying47 sz71_w2b (ls rfl (ls rfl lz)) lz hbx_6.2.2 hbx_6.2.1) ?_
        refine zts _ rfl (opD_fieldAddr_el fo71_0_w2b lz) ?_
        refine zts _ rfl (opD_load_el_one ag3_w2b lz hx_6 rfl) ?_
        refine zts _ rfl (opD_lss (ls rfl (ls rfl (ls rfl (ls rfl (ls rfl (ls rfl lz)))))) lz) ?_
        refine .nil ?_
        refine aw_keep [(0, _), (1, _), (7, _), (37, _)] ⟨lg (ls rfl (ls rfl (ls rfl (ls rfl (ls rfl (ls rfl (ls rfl (ls rfl (ls rfl (ls rfl (ls rfl (ls rfl oz)))))))))))), lg (ls rfl (ls rfl (ls rfl (ls rfl (ls rfl (ls rfl (ls rfl (ls rfl (ls rfl (ls rfl (ls rfl (ls rfl (os rfl oz))))))))))))), lg (ls rfl (ls rfl (ls rfl (ls rfl (ls rfl (ls rfl (ls rfl (ls rfl (ls rfl (ls rfl (ls rfl (ls rfl (os rfl (os rfl oz)))))))))))))), lg lz, trivial⟩ ?_
        refine aw_cond _ (os rfl (os rfl (os rfl oz))) (fun hc => ?_) (fun hc => ?_)
        · skip
          replace hz_4 := ifb_t hz_4 hc
          clear hc
          refine aw_seq ?_
          refine aw_region (by decide) ?_
          refine rts _ rfl (opD_assign (ev_const _ _)) ?_
          refine rts _ rfl (opD_assign (ev_const _ _)) ?_
          refine rts _ rfl (opD_assign (ev_const _ _)) ?_
          refine .nil ?_
          refine aw_keep [(4, _), (5, _), (6, _)] ⟨lg (ls rfl (ls rfl lz)), lg (ls rfl lz), lg lz, trivial⟩ ?_
          refine aw_ret ?_
          obtain rfl := some_of hz_4
          replace hz_2 := ocs_r hz_2
          obtain rfl := some_of hz_2
          replace h0 := ocs_l h0
          refine wk_no ?_
          refine wk_no ?_
          obtain rfl := some_of h0
          exact done_ext (.inr rfl) ((res_list (rs := [_, _, _]) (ps := [_, _, _]) rfl rfl ⟨it_tmp oz, it_tmp (os rfl oz), it_tmp (os rfl (os rfl oz)), trivial⟩).le (tup_le ⟨(le_nil rfl), (le_nil rfl), (Pd.le_refl _), trivial⟩)) (tup_bnd (bnd_cons (sl_b kb_Stx) (bnd_cons (sl_b kb_Stx) (bnd_cons (pl_bnd _ _ _) bnd_nil))))
        · skip
          replace hz_4 := ifb_f hz_4 hc
          clear hc
          refine aw_skip ?_
          refine aw_keep [(0, _), (1, _), (7, _)] ⟨lg oz, lg (os rfl oz), lg (os rfl (os rfl oz)), trivial⟩ ?_
          refine aw_region (by decide) ?_
          refine rts _ rfl (opD_move (os rfl (os rfl oz))) ?_
          refine rts _ rfl (opD_add lz (ev_const _ _) rfl) ?_
          refine rts _ rfl (opD_assign lz) ?_
          refine .nil ?_
          obtain rfl := some_of hz_4
          replace hz_2 := ocs_l hz_2
          refine wk_yesN rfl (l := [(0, sl kStx none none p0), (1, pl (.int .i64 p1)), (7, pl (.int .i64 (IntKind.i64.wrap (t_3 + 1))))]) (bs' := []) ⟨le_of_eq (eg (ls rfl (ls rfl (ls rfl oz)))), le_of_eq (eg (ls rfl (ls rfl (ls rfl (os rfl oz))))), le_of_eq (eg lz), trivial⟩ (bnd_cons (sl_b kb_Stx) (bnd_cons (pl_bnd _ _ _) (bnd_cons (pl_bnd _ _ _) bnd_nil))) (Nat.le_of_ble_eq_true rfl) (by simp only [na, nb, nc, nd, nf, ng, nh, ni, nj, nk] <;> rfl) bxle_nil rfl (by simp only [na, nb, nc, nd, nf, ng, nh, ni, nj, nk] <;> rfl) bl_nil ?_
          exact ⟨m_z_4, Nat.lt_succ_self _, IntKind.i64.wrap (t_3 + 1), ⟨le_of_eq (eg oz), le_of_eq (eg (os rfl oz)), le_of_eq (eg (os rfl (os rfl oz))), trivial⟩, rfl, hz_2⟩
      · skip
        replace hz_4 := ifb_f hz_4 hc
        clear hc
        refine aw_exit ?_
        obtain rfl := some_of hz_4
        replace hz_2 := ocs_r hz_2
        refine wk_no ?_
        refine wk_yesN rfl (l := [(0, sl kStx none none p0), (1, pl (.int .i64 p1))]) (bs' := []) ⟨le_of_eq (eg oz), le_of_eq (eg (os rfl oz)), trivial⟩ (bnd_cons (sl_b kb_Stx) (bnd_cons (pl_bnd _ _ _) bnd_nil)) (Nat.le_of_ble_eq_true rfl) (by simp only [na, nb, nc, nd, nf, ng, nh, ni, nj, nk] <;> rfl) bxle_nil rfl (by simp only [na, nb, nc, nd, nf, ng, nh, ni, nj, nk] <;> rfl) bl_nil ?_
        exact ⟨(), ⟨le_of_eq (eg oz), le_of_eq (eg (os rfl oz)), trivial⟩, rfl, some_of hz_2⟩
    · rintro e st ⟨vz_2, hH, rfl, rfl⟩
      refine aw_keep _ hH ?_
      replace h0 := ocs_r h0
      refine aw_keep [(0, _), (1, _)] ⟨lg oz, lg (os rfl oz), trivial⟩ ?_
      refine aw_seq ?_
      refine aw_region (by decide) ?_
      refine rts _ rfl (opD_assign (ev_const _ _)) ?_
      refine rts _ rfl (opD_assign (ev_const _ _)) ?_
      refine .nil ?_
      refine aw_keep [(0, _), (1, _), (8, _), (9, _)] ⟨lg (ls rfl (ls rfl oz)), lg (ls rfl (ls rfl (os rfl oz))), lg (ls rfl lz), lg lz, trivial⟩ ?_
      refine aw_seq ?_
      refine aw_seq ?_
      refine aw_region (by decide) ?_
      refine rts _ rfl (opD_assign (ev_const _ _)) ?_
      refine .nil ?_
      refine aw_keep [(0, _), (1, _), (8, _), (9, _), (10, _)] ⟨lg (ls rfl oz), lg (ls rfl (os rfl oz)), lg (ls rfl (os rfl (os rfl oz))), lg (ls rfl (os rfl (os rfl (os rfl oz)))), lg lz, trivial⟩ ?_
      replace h0 := bnd_some h0
      obtain ⟨z_7, hz_7, h0⟩ := h0
      refine aw_mid (fun e st => ∃ v : Int × (List Stx) × (List Stx), Holds e [(1, pl (.int .i64 v.1)), (8, sl kStx none none v.2.1), (9, sl kStx none none v.2.2)] ∧ st = s.ext [] [] ∧ v = z_7) ?_ ?_
      · skip
        refine aw_wkN rfl 0 0 rfl rfl ?_
        refine aw_block ?_
        refine aw_fr ⟨71, 2, 0⟩ ?_
        refine aw_fr ⟨71, 2, 0⟩ ?_
        refine aw_loop (fun n e st => ∃ v : Int × (List Stx) × (List Stx) × Int, Holds e [(0, sl kStx none none p0), (1, pl (.int .i64 v.1)), (8, sl kStx (some (s.fr.length + 0)) none v.2.1), (9, sl kStx (some (s.fr.length + 1)) none v.2.2.1), (10, pl (.int .i64 v.2.2.2))] ∧ st = s.ext [] [⟨71, 2, v.2.1.length⟩, ⟨71, 2, v.2.2.1.length⟩] ∧ lp (F_r16Reserve_b1 p0) n v = some z_7) fl ⟨(p1, ([] : (List Stx)), ([] : (List Stx)), 0), ⟨le_of_eq (eg oz), le_of_eq (eg (os rfl oz)), (le_of_eq (eg (os rfl (os rfl oz)))).trans (nil_own rfl), (le_of_eq (eg (os rfl (os rfl (os rfl oz))))).trans (nil_own rfl), le_of_eq (eg (os rfl (os rfl (os rfl (os rfl oz))))), trivial⟩, rfl, hz_7⟩ ?_
        rintro n e st ⟨t_8, hH, rfl, hz_7⟩
        replace hz_7 := lp_some hz_7
        obtain ⟨m_z_9, z_9, rfl, hz_9, hz_7⟩ := hz_7
        unfold F_r16Reserve_b1 at hz_9
        refine aw_keep _ hH ?_
        refine aw_wkN rfl 0 2 rfl rfl ?_
        refine aw_seq ?_
        refine aw_seq ?_
        refine aw_region (by decide) ?_
        refine rts _ rfl (opD_move (os rfl (os rfl (os rfl (os rfl oz))))) ?_
        refine rts _ rfl (opD_move (ls rfl oz)) ?_
        refine rts _ rfl (opD_len_sl Go.Proofs.Tryd.underlying47 lz) ?_
        refine rts _ rfl (opD_lss (ls rfl (ls rfl lz)) lz) ?_
        refine .nil ?_
        refine aw_keep [(0, _), (1, _), (8, _), (9, _), (10, _), (41, _)] ⟨lg (ls rfl (ls rfl (ls rfl (ls rfl oz)))), lg (ls rfl (ls rfl (ls rfl (ls rfl (os rfl oz))))), lg (ls rfl (ls rfl (ls rfl (ls rfl (os rfl (os rfl oz)))))), lg (ls rfl (ls rfl (ls rfl (ls rfl (os rfl (os rfl (os rfl oz))))))), lg (ls rfl (ls rfl (ls rfl (ls rfl (os rfl (os rfl (os rfl (os rfl oz)))))))), lg lz, trivial⟩ ?_
        refine aw_cond _ (os rfl (os rfl (os rfl (os rfl (os rfl oz))))) (fun hc => ?_) (fun hc => ?_)
        · skip
          replace hz_9 := ifb_t hz_9 hc
          clear hc
          refine aw_skip ?_
          refine aw_keep [(0, _), (1, _), (8, _), (9, _), (10, _)] ⟨lg oz, lg (os rfl oz), lg (os rfl (os rfl oz)), lg (os rfl (os rfl (os rfl oz))), lg (os rfl (os rfl (os rfl (os rfl oz)))), trivial⟩ ?_
          refine aw_seq ?_
          refine aw_block ?_
          refine aw_seq ?_
          refine aw_region (by decide) ?_
          refine rts _ rfl (opD_move oz) ?_
          refine rts _ rfl (opD_move (ls rfl (os rfl (os rfl (os rfl (os rfl oz)))))) ?_
          replace hz_9 := ixb_some hz_9
          obtain ⟨x_10, hx_10, hbx_10, hz_9⟩ := hz_9
          refine rts _ rfl (opD_indexAddr_sl (i := t_8.2.2.2.toNat) Go.Proofs.Tryd.underlying47 sz71_w2b (ls rfl lz) lz hbx_10.2.2 hbx_10.2.1) ?_
          refine rts _ rfl (opD_load_el_aggX (qs := [_, _]) ag71_w2b sz71_w2b lz hx_10 (Nat.le_of_ble_eq_true rfl) rfl) ?_
          refine rts _ rfl (allocN rfl zt71_w2b (by first | exact List.length_nil | (simp only [List.length_cons, List.length_nil, Nat.zero_add, Nat.reduceAdd] <;> rfl)) (by simp only [na, nb, nc, nd, nf, ng, nh, ni, nj, nk] <;> rfl)) ?_
          refine rts _ rfl (storeAN rfl sz71_w2b lz (ls rfl lz) (ones_cons (one_pl rfl) (ones_cons (one_pl rfl) ones_nil)) rfl rfl (Nat.le_of_ble_eq_true rfl) (List.cons_ne_nil _ _) (bnd_cons (pl_bnd _ _ _) (bnd_cons (pl_bnd _ _ _) bnd_nil)) (by simp only [na, nb, nc, nd, nf, ng, nh, ni, nj, nk] <;> rfl) (by simp only [na, nb, nc, nd, nf, ng, nh, ni, nj, nk] <;> rfl)) ?_
          refine .nil ?_
          refine aw_keep [(0, _), (1, _), (8, _), (9, _), (10, _), (11, _)] ⟨lg (lx (ls rfl (ls rfl (ls rfl (ls rfl (ls rfl oz)))))), lg (lx (ls rfl (ls rfl (ls rfl (ls rfl (ls rfl (os rfl oz))))))), lg (lx (ls rfl (ls rfl (ls rfl (ls rfl (ls rfl (os rfl (os rfl oz)))))))), lg (lx (ls rfl (ls rfl (ls rfl (ls rfl (ls rfl (os rfl (os rfl (os rfl oz))))))))), lg (lx (ls rfl (ls rfl (ls rfl (ls rfl (ls rfl (os rfl (os rfl (os rfl (os rfl oz)))))))))), lg (lx lz), trivial⟩ ?_
          refine aw_seq ?_
          refine aw_region (by decide) ?_
          refine rts _ rfl (opD_move (os rfl oz)) ?_
          refine rts _ rfl (opD_fieldAddr fo71_1_w2b (ls rfl (os rfl (os rfl (os rfl (os rfl (os rfl oz))))))) ?_
          refine rts _ rfl (opD_load_one ag3_w2b lz (loc_getN rfl rfl) rfl) ?_
          refine rts _ rfl (opD_min (ls rfl (ls rfl lz)) lz rfl) ?_
          refine rts _ rfl (opD_assign lz) ?_
          refine .nil ?_
          refine aw_keep [(0, _), (1, _), (8, _), (9, _), (10, _), (11, _), (12, _)] ⟨lg (ls rfl (ls rfl (ls rfl (ls rfl (ls rfl oz))))), lg (ls rfl (ls rfl (ls rfl (ls rfl (ls rfl (os rfl oz)))))), lg (ls rfl (ls rfl (ls rfl (ls rfl (ls rfl (os rfl (os rfl oz))))))), lg (ls rfl (ls rfl (ls rfl (ls rfl (ls rfl (os rfl (os rfl (os rfl oz)))))))), lg (ls rfl (ls rfl (ls rfl (ls rfl (ls rfl (os rfl (os rfl (os rfl (os rfl oz))))))))), lg (ls rfl (ls rfl (ls rfl (ls rfl (ls rfl (os rfl (os rfl (os rfl (os rfl (os rfl oz)))))))))), lg lz, trivial⟩ ?_
          refine aw_seq ?_
          refine aw_seq ?_
          refine aw_region (by decide) ?_
          refine rts _ rfl (opD_move (os rfl (os rfl (os rfl (os rfl (os rfl (os rfl oz))))))) ?_
          refine rts _ rfl (opD_gtr lz (ev_const _ _)) ?_
          refine .nil ?_
          refine aw_keep [(0, _), (1, _), (8, _), (9, _), (10, _), (11, _), (12, _), (53, _)] ⟨lg (ls rfl (ls rfl oz)), lg (ls rfl (ls rfl (os rfl oz))), lg (ls rfl (ls rfl (os rfl (os rfl oz)))), lg (ls rfl (ls rfl (os rfl (os rfl (os rfl oz))))), lg (ls rfl (ls rfl (os rfl (os rfl (os rfl (os rfl oz)))))), lg (ls rfl (ls rfl (os rfl (os rfl (os rfl (os rfl (os rfl oz))))))), lg (ls rfl (ls rfl (os rfl (os rfl (os rfl (os rfl (os rfl (os rfl oz)))))))), lg lz, trivial⟩ ?_
          replace hz_9 := bnd_some hz_9
          obtain ⟨z_11, hz_11, hz_9⟩ := hz_9
          refine aw_mid (fun e st => ∃ v : (List Stx), Holds e [(0, sl kStx none none p0), (1, pl (.int .i64 t_8.1)), (8, sl kStx (some (s.fr.length + 0)) none v), (9, sl kStx (some (s.fr.length + 1)) none t_8.2.2.1), (10, pl (.int .i64 t_8.2.2.2)), (11, ptr (s.boxes.length + 0) 0), (12, pl (.int .i64 (if x_10.Many < t_8.1 then x_10.Many else t_8.1)))] ∧ st = s.ext [⟨71, [pl (.int .i64 x_10.From), pl (.int .i64 x_10.Many)]⟩] [⟨71, 2, v.length⟩, ⟨71, 2, t_8.2.2.1.length⟩] ∧ v = z_11) ?_ ?_
          · skip
            refine aw_wkN rfl 1 2 rfl rfl ?_
            refine aw_cond _ (os rfl (os rfl (os rfl (os rfl (os rfl (os rfl (os rfl oz))))))) (fun hc => ?_) (fun hc => ?_)
            · skip
              replace hz_11 := ifb_t hz_11 hc
              clear hc
              refine aw_region (by decide) ?_
              refine rts _ rfl (opD_move (os rfl (os rfl oz))) ?_
              refine rts _ rfl (opD_fieldAddr fo71_0_w2b (ls rfl (os rfl (os rfl (os rfl (os rfl (os rfl oz))))))) ?_
              refine rts _ rfl (opD_load_one ag3_w2b lz (loc_getN rfl rfl) rfl) ?_
              refine rts _ rfl (opD_move (ls rfl (ls rfl (ls rfl (os rfl (os rfl (os rfl (os rfl (os rfl (os rfl oz)))))))))) ?_
              refine rts _ rfl (opD_build_struct (rs := [_, _]) Go.Proofs.Tryd.underlying71 pt71_w2b zt71_w2b (parts_cons (cells1 (ls rfl lz) (one_pl rfl)) (parts_cons (cells1 lz (one_pl rfl)) parts_nil)) rfl) ?_
              refine rts _ rfl (opD_buildOwn (k := kStx) ([(⟨x_10.From, (if x_10.Many < t_8.1 then x_10.Many else t_8.1)⟩ : Stx)] : (List Stx)) Go.Proofs.Tryd.underlying47 sz71_w2b zt71_w2b (by decide) rfl (parts_cons (cellsA lz) parts_nil) rfl rfl (by first | exact List.length_nil | (simp only [List.length_cons, List.length_nil, Nat.zero_add, Nat.reduceAdd] <;> rfl)) (by simp only [na, nb, nc, nd, nf, ng, nh, ni, nj, nk] <;> rfl)) ?_
              replace hz_11 := grd_some hz_11
              obtain ⟨hg_32, hz_11⟩ := hz_11
              refine rts _ rfl (opD_appendX Go.Proofs.Tryd.underlying47 el71_w2b (ls rfl (ls rfl (ls rfl (ls rfl (ls rfl lz))))) lz rfl hg_32.1 hg_32.2 rfl (by simp only [na, nb, nc, nd, nf, ng, nh, ni, nj, nk] <;> rfl)) ?_
              refine rts _ rfl (opD_assign lz) ?_
              refine .nil ?_
              refine wk_yesN rfl (l := [(0, sl kStx none none p0), (1, pl (.int .i64 t_8.1)), (8, sl kStx (some (s.fr.length + 0)) none (t_8.2.1 ++ ([(⟨x_10.From, (if x_10.Many < t_8.1 then x_10.Many else t_8.1)⟩ : Stx)] : (List Stx)))), (9, sl kStx (some (s.fr.length + 1)) none t_8.2.2.1), (10, pl (.int .i64 t_8.2.2.2)), (11, ptr (s.boxes.length + 0) 0), (12, pl (.int .i64 (if x_10.Many < t_8.1 then x_10.Many else t_8.1)))]) (bs' := [⟨71, [pl (.int .i64 x_10.From), pl (.int .i64 x_10.Many)]⟩]) ⟨le_of_eq (eg (ls rfl (ls rfl (ls rfl (ls rfl (ls rfl (ls rfl (ls rfl (ls rfl oz))))))))), le_of_eq (eg (ls rfl (ls rfl (ls rfl (ls rfl (ls rfl (ls rfl (ls rfl (ls rfl (os rfl oz)))))))))), le_of_eq (eg lz), le_of_eq (eg (ls rfl (ls rfl (ls rfl (ls rfl (ls rfl (ls rfl (ls rfl (ls rfl (os rfl (os rfl (os rfl oz)))))))))))), le_of_eq (eg (ls rfl (ls rfl (ls rfl (ls rfl (ls rfl (ls rfl (ls rfl (ls rfl (os rfl (os rfl (os rfl (os rfl oz))))))))))))), le_of_eq (eg (ls rfl (ls rfl (ls rfl (ls rfl (ls rfl (ls rfl (ls rfl (ls rfl (os rfl (os rfl (os rfl (os rfl (os rfl oz)))))))))))))), le_of_eq (eg (ls rfl (ls rfl (ls rfl (ls rfl (ls rfl (ls rfl (ls rfl (ls rfl (os rfl (os rfl (os rfl (os rfl (os rfl (os rfl oz))))))))))))))), trivial⟩ (bnd_cons (sl_b kb_Stx) (bnd_cons (pl_bnd _ _ _) (bnd_cons (sl_ob kb_Stx (by first | omega | (simp only [List.length_append, List.length_cons, List.length_nil, ext_fr_length, upd_fr_length]; omega))) (bnd_cons (sl_ob kb_Stx (by first | omega | (simp only [List.length_append, List.length_cons, List.length_nil, ext_fr_length, upd_fr_length]; omega))) (bnd_cons (pl_bnd _ _ _) (bnd_cons (ptr_bnd _ (by first | omega | (simp only [List.length_append, List.length_cons, List.length_nil]; omega))) (bnd_cons (pl_bnd _ _ _) bnd_nil))))))) (Nat.le_of_ble_eq_true rfl) (by simp only [na, nb, nc, nd, nf, ng, nh, ni, nj, nk] <;> rfl) (bxle_same bxle_nil) rfl (by simp only [na, nb, nc, nd, nf, ng, nh, ni, nj, nk] <;> rfl) (bl_cons (bnd_cons (pl_bnd _ _ _) (bnd_cons (pl_bnd _ _ _) bnd_nil)) bl_nil) ?_
              exact ⟨(t_8.2.1 ++ ([(⟨x_10.From, (if x_10.Many < t_8.1 then x_10.Many else t_8.1)⟩ : Stx)] : (List Stx))), ⟨le_of_eq (eg oz), le_of_eq (eg (os rfl oz)), le_of_eq (eg (os rfl (os rfl oz))), le_of_eq (eg (os rfl (os rfl (os rfl oz)))), le_of_eq (eg (os rfl (os rfl (os rfl (os rfl oz))))), le_of_eq (eg (os rfl (os rfl (os rfl (os rfl (os rfl oz)))))), le_of_eq (eg (os rfl (os rfl (os rfl (os rfl (os rfl (os rfl oz))))))), trivial⟩, rfl, some_of hz_11⟩
            · skip
              replace hz_11 := ifb_f hz_11 hc
              clear hc
              refine aw_skip ?_
              refine wk_yesN rfl (l := [(0, sl kStx none none p0), (1, pl (.int .i64 t_8.1)), (8, sl kStx (some (s.fr.length + 0)) none t_8.2.1), (9, sl kStx (some (s.fr.length + 1)) none t_8.2.2.1), (10, pl (.int .i64 t_8.2.2.2)), (11, ptr (s.boxes.length + 0) 0), (12, pl (.int .i64 (if x_10.Many < t_8.1 then x_10.Many else t_8.1)))]) (bs' := [⟨71, [pl (.int .i64 x_10.From), pl (.int .i64 x_10.Many)]⟩]) ⟨le_of_eq (eg oz), le_of_eq (eg (os rfl oz)), le_of_eq (eg (os rfl (os rfl oz))), le_of_eq (eg (os rfl (os rfl (os rfl oz)))), le_of_eq (eg (os rfl (os rfl (os rfl (os rfl oz))))), le_of_eq (eg (os rfl (os rfl (os rfl (os rfl (os rfl oz)))))), le_of_eq (eg (os rfl (os rfl (os rfl (os rfl (os rfl (os rfl oz))))))), trivial⟩ (bnd_cons (sl_b kb_Stx) (bnd_cons (pl_bnd _ _ _) (bnd_cons (sl_ob kb_Stx (by first | omega | (simp only [List.length_append, List.length_cons, List.length_nil, ext_fr_length, upd_fr_length]; omega))) (bnd_cons (sl_ob kb_Stx (by first | omega | (simp only [List.length_append, List.length_cons, List.length_nil, ext_fr_length, upd_fr_length]; omega))) (bnd_cons (pl_bnd _ _ _) (bnd_cons (ptr_bnd _ (by first | omega | (simp only [List.length_append, List.length_cons, List.length_nil]; omega))) (bnd_cons (pl_bnd _ _ _) bnd_nil))))))) (Nat.le_of_ble_eq_true rfl) (by simp only [na, nb, nc, nd, nf, ng, nh, ni, nj, nk] <;> rfl) (bxle_same bxle_nil) rfl (by simp only [na, nb, nc, nd, nf, ng, nh, ni, nj, nk] <;> rfl) (bl_cons (bnd_cons (pl_bnd _ _ _) (bnd_cons (pl_bnd _ _ _) bnd_nil)) bl_nil) ?_
              exact ⟨t_8.2.1, ⟨le_of_eq (eg oz), le_of_eq (eg (os rfl oz)), le_of_eq (eg (os rfl (os rfl oz))), le_of_eq (eg (os rfl (os rfl (os rfl oz)))), le_of_eq (eg (os rfl (os rfl (os rfl (os rfl oz))))), le_of_eq (eg (os rfl (os rfl (os rfl (os rfl (os rfl oz)))))), le_of_eq (eg (os rfl (os rfl (os rfl (os rfl (os rfl (os rfl oz))))))), trivial⟩, rfl, some_of hz_11⟩
          · rintro e st ⟨vz_11, hH, rfl, rfl⟩
            refine aw_keep _ hH ?_
            refine aw_keep [(0, _), (1, _), (8, _), (9, _), (10, _), (11, _), (12, _)] ⟨lg oz, lg (os rfl oz), lg (os rfl (os rfl oz)), lg (os rfl (os rfl (os rfl oz))), lg (os rfl (os rfl (os rfl (os rfl oz)))), lg (os rfl (os rfl (os rfl (os rfl (os rfl oz))))), lg (os rfl (os rfl (os rfl (os rfl (os rfl (os rfl oz)))))), trivial⟩ ?_
            refine aw_seq ?_
            refine aw_seq ?_
            refine aw_region (by decide) ?_
            refine rts _ rfl (opD_move (os rfl (os rfl (os rfl (os rfl (os rfl (os rfl oz))))))) ?_
            refine rts _ rfl (opD_fieldAddr fo71_1_w2b (ls rfl (os rfl (os rfl (os rfl (os rfl (os rfl oz))))))) ?_
            refine rts _ rfl (opD_load_one ag3_w2b lz (loc_getN rfl rfl) rfl) ?_
            refine rts _ rfl (opD_lss (ls rfl (ls rfl lz)) lz) ?_
            refine .nil ?_
            refine aw_keep [(0, _), (1, _), (8, _), (9, _), (10, _), (11, _), (12, _), (64, _)] ⟨lg (ls rfl (ls rfl (ls rfl (ls rfl oz)))), lg (ls rfl (ls rfl (ls rfl (ls rfl (os rfl oz))))), lg (ls rfl (ls rfl (ls rfl (ls rfl (os rfl (os rfl oz)))))), lg (ls rfl (ls rfl (ls rfl (ls rfl (os rfl (os rfl (os rfl oz))))))), lg (ls rfl (ls rfl (ls rfl (ls rfl (os rfl (os rfl (os rfl (os rfl oz)))))))), lg (ls rfl (ls rfl (ls rfl (ls rfl (os rfl (os rfl (os rfl (os rfl (os rfl oz))))))))), lg (ls rfl (ls rfl (ls rfl (ls rfl (os rfl (os rfl (os rfl (os rfl (os rfl (os rfl oz)))))))))), lg lz, trivial⟩ ?_
            replace hz_9 := bnd_some hz_9
            obtain ⟨z_12, hz_12, hz_9⟩ := hz_9
            refine aw_mid (fun e st => ∃ v : (List Stx), Holds e [(0, sl kStx none none p0), (1, pl (.int .i64 t_8.1)), (8, sl kStx (some (s.fr.length + 0)) none vz_11), (9, sl kStx (some (s.fr.length + 1)) none v), (10, pl (.int .i64 t_8.2.2.2)), (12, pl (.int .i64 (if x_10.Many < t_8.1 then x_10.Many else t_8.1)))] ∧ st = s.ext [⟨71, [pl (.int .i64 x_10.From), pl (.int .i64 x_10.Many)]⟩] [⟨71, 2, vz_11.length⟩, ⟨71, 2, v.length⟩] ∧ v = z_12) ?_ ?_
            · skip
              refine aw_wkN rfl 1 2 rfl rfl ?_
              refine aw_cond _ (os rfl (os rfl (os rfl (os rfl (os rfl (os rfl (os rfl oz))))))) (fun hc => ?_) (fun hc => ?_)
              · skip
                replace hz_12 := ifb_t hz_12 hc
                clear hc
                refine aw_region (by decide) ?_
                refine rts _ rfl (opD_move (os rfl (os rfl (os rfl oz)))) ?_
                refine rts _ rfl (opD_fieldAddr fo71_0_w2b (ls rfl (os rfl (os rfl (os rfl (os rfl (os rfl oz))))))) ?_
                refine rts _ rfl (opD_load_one ag3_w2b lz (loc_getN rfl rfl) rfl) ?_
                refine rts _ rfl (opD_move (ls rfl (ls rfl (ls rfl (os rfl (os rfl (os rfl (os rfl (os rfl (os rfl oz)))))))))) ?_
                refine rts _ rfl (opD_add (ls rfl lz) lz rfl) ?_
                refine rts _ rfl (opD_fieldAddr fo71_1_w2b (ls rfl (ls rfl (ls rfl (ls rfl (ls rfl (os rfl (os rfl (os rfl (os rfl (os rfl oz))))))))))) ?_
                refine rts _ rfl (opD_load_one ag3_w2b lz (loc_getN rfl rfl) rfl) ?_
                refine rts _ rfl (opD_move (ls rfl (ls rfl (ls rfl (ls rfl (ls rfl (ls rfl (ls rfl (os rfl (os rfl (os rfl (os rfl (os rfl (os rfl oz)))))))))))))) ?_
                refine rts _ rfl (opD_sub (ls rfl lz) lz rfl) ?_
                refine rts _ rfl (opD_build_struct (rs := [_, _]) Go.Proofs.Tryd.underlying71 pt71_w2b zt71_w2b (parts_cons (cells1 (ls rfl (ls rfl (ls rfl (ls rfl lz)))) (one_pl rfl)) (parts_cons (cells1 lz (one_pl rfl)) parts_nil)) rfl) ?_
                refine rts _ rfl (opD_buildOwn (k := kStx) ([(⟨IntKind.i64.wrap (x_10.From + (if x_10.Many < t_8.1 then x_10.Many else t_8.1)), IntKind.i64.wrap (x_10.Many - (if x_10.Many < t_8.1 then x_10.Many else t_8.1))⟩ : Stx)] : (List Stx)) Go.Proofs.Tryd.underlying47 sz71_w2b zt71_w2b (by decide) rfl (parts_cons (cellsA lz) parts_nil) rfl rfl (by first | exact List.length_nil | (simp only [List.length_cons, List.length_nil, Nat.zero_add, Nat.reduceAdd] <;> rfl)) (by simp only [na, nb, nc, nd, nf, ng, nh, ni, nj, nk] <;> rfl)) ?_
                replace hz_12 := grd_some hz_12
                obtain ⟨hg_34, hz_12⟩ := hz_12
                refine rts _ rfl (opD_appendX Go.Proofs.Tryd.underlying47 el71_w2b (ls rfl (ls rfl (ls rfl (ls rfl (ls rfl (ls rfl (ls rfl (ls rfl (ls rfl (ls rfl lz)))))))))) lz rfl hg_34.1 hg_34.2 rfl (by simp only [na, nb, nc, nd, nf, ng, nh, ni, nj, nk] <;> rfl)) ?_
                refine rts _ rfl (opD_assign lz) ?_
                refine .nil ?_
                refine wk_yesN rfl (l := [(0, sl kStx none none p0), (1, pl (.int .i64 t_8.1)), (8, sl kStx (some (s.fr.length + 0)) none vz_11), (9, sl kStx (some (s.fr.length + 1)) none (t_8.2.2.1 ++ ([(⟨IntKind.i64.wrap (x_10.From + (if x_10.Many < t_8.1 then x_10.Many else t_8.1)), IntKind.i64.wrap (x_10.Many - (if x_10.Many < t_8.1 then x_10.Many else t_8.1))⟩ : Stx)] : (List Stx)))), (10, pl (.int .i64 t_8.2.2.2)), (12, pl (.int .i64 (if x_10.Many < t_8.1 then x_10.Many else t_8.1)))]) (bs' := [⟨71, [pl (.int .i64 x_10.From), pl (.int .i64 x_10.Many)]⟩]) ⟨le_of_eq (eg (ls rfl (ls rfl (ls rfl (ls rfl (ls rfl (ls rfl (ls rfl (ls rfl (ls rfl (ls rfl (ls rfl (ls rfl (ls rfl oz)))))))))))))), le_of_eq (eg (ls rfl (ls rfl (ls rfl (ls rfl (ls rfl (ls rfl (ls rfl (ls rfl (ls rfl (ls rfl (ls rfl (ls rfl (ls rfl (os rfl oz))))))))))))))), le_of_eq (eg (ls rfl (ls rfl (ls rfl (ls rfl (ls rfl (ls rfl (ls rfl (ls rfl (ls rfl (ls rfl (ls rfl (ls rfl (ls rfl (os rfl (os rfl oz)))))))))))))))), le_of_eq (eg lz), le_of_eq (eg (ls rfl (ls rfl (ls rfl (ls rfl (ls rfl (ls rfl (ls rfl (ls rfl (ls rfl (ls rfl (ls rfl (ls rfl (ls rfl (os rfl (os rfl (os rfl (os rfl oz)))))))))))))))))), le_of_eq (eg (ls rfl (ls rfl (ls rfl (ls rfl (ls rfl (ls rfl (ls rfl (ls rfl (ls rfl (ls rfl (ls rfl (ls rfl (ls rfl (os rfl (os rfl (os rfl (os rfl (os rfl (os rfl oz)))))))))))))))))))), trivial⟩ (bnd_cons (sl_b kb_Stx) (bnd_cons (pl_bnd _ _ _) (bnd_cons (sl_ob kb_Stx (by first | omega | (simp only [List.length_append, List.length_cons, List.length_nil, ext_fr_length, upd_fr_length]; omega))) (bnd_cons (sl_ob kb_Stx (by first | omega | (simp only [List.length_append, List.length_cons, List.length_nil, ext_fr_length, upd_fr_length]; omega))) (bnd_cons (pl_bnd _ _ _) (bnd_cons (pl_bnd _ _ _) bnd_nil)))))) (Nat.le_of_ble_eq_true rfl) (by simp only [na, nb, nc, nd, nf, ng, nh, ni, nj, nk] <;> rfl) (bxle_same bxle_nil) rfl (by simp only [na, nb, nc, nd, nf, ng, nh, ni, nj, nk] <;> rfl) (bl_cons (bnd_cons (pl_bnd _ _ _) (bnd_cons (pl_bnd _ _ _) bnd_nil)) bl_nil) ?_
                exact ⟨(t_8.2.2.1 ++ ([(⟨IntKind.i64.wrap (x_10.From + (if x_10.Many < t_8.1 then x_10.Many else t_8.1)), IntKind.i64.wrap (x_10.Many - (if x_10.Many < t_8.1 then x_10.Many else t_8.1))⟩ : Stx)] : (List Stx))), ⟨le_of_eq (eg oz), le_of_eq (eg (os rfl oz)), le_of_eq (eg (os rfl (os rfl oz))), le_of_eq (eg (os rfl (os rfl (os rfl oz)))), le_of_eq (eg (os rfl (os rfl (os rfl (os rfl oz))))), le_of_eq (eg (os rfl (os rfl (os rfl (os rfl (os rfl oz)))))), trivial⟩, rfl, some_of hz_12⟩
              · skip
                replace hz_12 := ifb_f hz_12 hc
                clear hc
                refine aw_skip ?_
                refine wk_yesN rfl (l := [(0, sl kStx none none p0), (1, pl (.int .i64 t_8.1)), (8, sl kStx (some (s.fr.length + 0)) none vz_11), (9, sl kStx (some (s.fr.length + 1)) none t_8.2.2.1), (10, pl (.int .i64 t_8.2.2.2)), (12, pl (.int .i64 (if x_10.Many < t_8.1 then x_10.Many else t_8.1)))]) (bs' := [⟨71, [pl (.int .i64 x_10.From), pl (.int .i64 x_10.Many)]⟩]) ⟨le_of_eq (eg oz), le_of_eq (eg (os rfl oz)), le_of_eq (eg (os rfl (os rfl oz))), le_of_eq (eg (os rfl (os rfl (os rfl oz)))), le_of_eq (eg (os rfl (os rfl (os rfl (os rfl oz))))), le_of_eq (eg (os rfl (os rfl (os rfl (os rfl (os rfl (os rfl oz))))))), trivial⟩ (bnd_cons (sl_b kb_Stx) (bnd_cons (pl_bnd _ _ _) (bnd_cons (sl_ob kb_Stx (by first | omega | (simp only [List.length_append, List.length_cons, List.length_nil, ext_fr_length, upd_fr_length]; omega))) (bnd_cons (sl_ob kb_Stx (by first | omega | (simp only [List.length_append, List.length_cons, List.length_nil, ext_fr_length, upd_fr_length]; omega))) (bnd_cons (pl_bnd _ _ _) (bnd_cons (pl_bnd _ _ _) bnd_nil)))))) (Nat.le_of_ble_eq_true rfl) (by simp only [na, nb, nc, nd, nf, ng, nh, ni, nj, nk] <;> rfl) (bxle_same bxle_nil) rfl (by simp only [na, nb, nc, nd, nf, ng, nh, ni, nj, nk] <;> rfl) (bl_cons (bnd_cons (pl_bnd _ _ _) (bnd_cons (pl_bnd _ _ _) bnd_nil)) bl_nil) ?_
                exact ⟨t_8.2.2.1, ⟨le_of_eq (eg oz), le_of_eq (eg (os rfl oz)), le_of_eq (eg (os rfl (os rfl oz))), le_of_eq (eg (os rfl (os rfl (os rfl oz)))), le_of_eq (eg (os rfl (os rfl (os rfl (os rfl oz))))), le_of_eq (eg (os rfl (os rfl (os rfl (os rfl (os rfl oz)))))), trivial⟩, rfl, some_of hz_12⟩
            · rintro e st ⟨vz_12, hH, rfl, rfl⟩
              refine aw_keep _ hH ?_
              refine aw_keep [(0, _), (1, _), (8, _), (9, _), (10, _), (12, _)] ⟨lg oz, lg (os rfl oz), lg (os rfl (os rfl oz)), lg (os rfl (os rfl (os rfl oz))), lg (os rfl (os rfl (os rfl (os rfl oz)))), lg (os rfl (os rfl (os rfl (os rfl (os rfl oz))))), trivial⟩ ?_
              refine aw_region (by decide) ?_
              refine rts _ rfl (opD_move (os rfl oz)) ?_
              refine rts _ rfl (opD_move (ls rfl (os rfl (os rfl (os rfl (os rfl (os rfl oz))))))) ?_
              refine rts _ rfl (opD_sub (ls rfl lz) lz rfl) ?_
              refine rts _ rfl (opD_assign lz) ?_
              refine .nil ?_
              refine aw_keep [(0, _), (1, _), (8, _), (9, _), (10, _)] ⟨lg (ls rfl (ls rfl (ls rfl (ls rfl oz)))), lg lz, lg (ls rfl (ls rfl (ls rfl (ls rfl (os rfl (os rfl oz)))))), lg (ls rfl (ls rfl (ls rfl (ls rfl (os rfl (os rfl (os rfl oz))))))), lg (ls rfl (ls rfl (ls rfl (ls rfl (os rfl (os rfl (os rfl (os rfl oz)))))))), trivial⟩ ?_
              refine aw_region (by decide) ?_
              refine rts _ rfl (opD_move (os rfl (os rfl (os rfl (os rfl oz))))) ?_
              refine rts _ rfl (opD_add lz (ev_const _ _) rfl) ?_
              refine rts _ rfl (opD_assign lz) ?_
              refine .nil ?_
              obtain rfl := some_of hz_9
              replace hz_7 := ocs_l hz_7
              refine wk_yesN rfl (l := [(0, sl kStx none none p0), (1, pl (.int .i64 (IntKind.i64.wrap (t_8.1 - (if x_10.Many < t_8.1 then x_10.Many else t_8.1))))), (8, sl kStx (some (s.fr.length + 0)) none vz_11), (9, sl kStx (some (s.fr.length + 1)) none vz_12), (10, pl (.int .i64 (IntKind.i64.wrap (t_8.2.2.2 + 1))))]) (bs' := []) ⟨le_of_eq (eg (ls rfl (ls rfl (ls rfl oz)))), le_of_eq (eg (ls rfl (ls rfl (ls rfl (os rfl oz))))), le_of_eq (eg (ls rfl (ls rfl (ls rfl (os rfl (os rfl oz)))))), le_of_eq (eg (ls rfl (ls rfl (ls rfl (os rfl (os rfl (os rfl oz))))))), le_of_eq (eg lz), trivial⟩ (bnd_cons (sl_b kb_Stx) (bnd_cons (pl_bnd _ _ _) (bnd_cons (sl_ob kb_Stx (by first | omega | (simp only [List.length_append, List.length_cons, List.length_nil, ext_fr_length, upd_fr_length]; omega))) (bnd_cons (sl_ob kb_Stx (by first | omega | (simp only [List.length_append, List.length_cons, List.length_nil, ext_fr_length, upd_fr_length]; omega))) (bnd_cons (pl_bnd _ _ _) bnd_nil))))) (Nat.le_of_ble_eq_true rfl) (by simp only [na, nb, nc, nd, nf, ng, nh, ni, nj, nk] <;> rfl) bxle_nil rfl (by simp only [na, nb, nc, nd, nf, ng, nh, ni, nj, nk] <;> rfl) bl_nil ?_
              exact ⟨m_z_9, Nat.lt_succ_self _, (IntKind.i64.wrap (t_8.1 - (if x_10.Many < t_8.1 then x_10.Many else t_8.1)), vz_11, vz_12, IntKind.i64.wrap (t_8.2.2.2 + 1)), ⟨le_of_eq (eg oz), le_of_eq (eg (os rfl oz)), le_of_eq (eg (os rfl (os rfl oz))), le_of_eq (eg (os rfl (os rfl (os rfl oz)))), le_of_eq (eg (os rfl (os rfl (os rfl (os rfl oz))))), trivial⟩, rfl, hz_7⟩
        · skip
          replace hz_9 := ifb_f hz_9 hc
          clear hc
          refine aw_exit ?_
          obtain rfl := some_of hz_9
          replace hz_7 := ocs_r hz_7
          refine wk_no ?_
          refine wk_yesN rfl (l := [(1, pl (.int .i64 t_8.1)), (8, sl kStx none none t_8.2.1), (9, sl kStx none none t_8.2.2.1)]) (bs' := []) ⟨le_of_eq (eg (os rfl oz)), (le_of_eq (eg (os rfl (os rfl oz)))).trans (sl_le _ (some (s.fr.length + 0)) none _), (le_of_eq (eg (os rfl (os rfl (os rfl oz))))).trans (sl_le _ (some (s.fr.length + 1)) none _), trivial⟩ (bnd_cons (pl_bnd _ _ _) (bnd_cons (sl_b kb_Stx) (bnd_cons (sl_b kb_Stx) bnd_nil))) (Nat.le_of_ble_eq_true rfl) (by simp only [na, nb, nc, nd, nf, ng, nh, ni, nj, nk] <;> rfl) bxle_nil rfl (by simp only [na, nb, nc, nd, nf, ng, nh, ni, nj, nk] <;> rfl) bl_nil ?_
          exact ⟨(t_8.1, t_8.2.1, t_8.2.2.1), ⟨le_of_eq (eg oz), le_of_eq (eg (os rfl oz)), le_of_eq (eg (os rfl (os rfl oz))), trivial⟩, rfl, some_of hz_7⟩
      · rintro e st ⟨vz_7, hH, rfl, rfl⟩
        refine aw_keep _ hH ?_
        refine aw_keep [(1, _), (8, _), (9, _)] ⟨lg oz, lg (os rfl oz), lg (os rfl (os rfl oz)), trivial⟩ ?_
        refine aw_seq ?_
        refine aw_seq ?_
        refine aw_region (by decide) ?_
        refine rts _ rfl (opD_move oz) ?_
        refine rts _ rfl (opD_gtr lz (ev_const _ _)) ?_
        refine rts _ rfl (opD_move lz) ?_
        refine rtg _ rfl lz (fun hg19_3_35 => opD_move (ls rfl (ls rfl (ls rfl (os rfl oz))))) ?_
        refine rtg _ rfl (ls rfl lz) (fun hg19_4_36 => opD_len_sl Go.Proofs.Tryd.underlying47 (lz.trans (pif_pos hg19_4_36))) ?_
        refine rtg _ rfl (ls rfl (ls rfl lz)) (fun hg19_5_37 => opD_gtr (lz.trans (pif_pos hg19_5_37)) (ev_const _ _)) ?_
        refine rts _ rfl (opD_or (ls rfl (ls rfl (ls rfl lz))) lz) ?_
        refine .nil ?_
        refine aw_keep [(8, _), (9, _), (86, _)] ⟨lg (ls rfl (ls rfl (ls rfl (ls rfl (ls rfl (ls rfl (ls rfl (os rfl oz)))))))), lg (ls rfl (ls rfl (ls rfl (ls rfl (ls rfl (ls rfl (ls rfl (os rfl (os rfl oz))))))))), lg lz, trivial⟩ ?_
        refine aw_cond _ (os rfl (os rfl oz)) (fun hc => ?_) (fun hc => ?_)
        · skip
          replace h0 := ifb_t h0 hc
          clear hc
          refine aw_seq ?_
          refine aw_region (by decide) ?_
          refine rts _ rfl (opD_assign (ev_const _ _)) ?_
          refine rts _ rfl (opD_assign (ev_const _ _)) ?_
          refine rts _ rfl (opD_assign (ev_const _ _)) ?_
          refine .nil ?_
          refine aw_keep [(4, _), (5, _), (6, _)] ⟨lg (ls rfl (ls rfl lz)), lg (ls rfl lz), lg lz, trivial⟩ ?_
          refine aw_ret ?_
          obtain rfl := some_of h0
          exact done_ext (.inr rfl) ((res_list (rs := [_, _, _]) (ps := [_, _, _]) rfl rfl ⟨it_tmp oz, it_tmp (os rfl oz), it_tmp (os rfl (os rfl oz)), trivial⟩).le (tup_le ⟨(le_nil rfl), (le_nil rfl), (Pd.le_refl _), trivial⟩)) (tup_bnd (bnd_cons (sl_b kb_Stx) (bnd_cons (sl_b kb_Stx) (bnd_cons (pl_bnd _ _ _) bnd_nil))))
        · skip
          replace h0 := ifb_f h0 hc
          clear hc
          refine aw_skip ?_
          refine aw_keep [(8, _), (9, _)] ⟨lg oz, lg (os rfl oz), trivial⟩ ?_
          refine aw_seq ?_
          refine aw_region (by decide) ?_
          refine rts _ rfl (opD_move oz) ?_
          refine rts _ rfl (opD_move (ls rfl (os rfl oz))) ?_
          refine rts _ rfl (opD_assign (ls rfl lz)) ?_
          refine rts _ rfl (opD_assign (ls rfl lz)) ?_
          refine rts _ rfl (opD_assign (ev_const _ _)) ?_
          refine .nil ?_
          refine aw_keep [(4, _), (5, _), (6, _)] ⟨lg (ls rfl (ls rfl lz)), lg (ls rfl lz), lg lz, trivial⟩ ?_
          refine aw_ret ?_
          obtain rfl := some_of h0
          exact done_ext (.inr rfl) ((res_list (rs := [_, _, _]) (ps := [_, _, _]) rfl rfl ⟨it_tmp oz, it_tmp (os rfl oz), it_tmp (os rfl (os rfl oz)), trivial⟩).le (tup_le ⟨(Pd.le_refl _), (Pd.le_refl _), (Pd.le_refl _), trivial⟩)) (tup_bnd (bnd_cons (sl_b kb_Stx) (bnd_cons (sl_b kb_Stx) (bnd_cons (pl_bnd _ _ _) bnd_nil))))

def oNum16 (o : Option Int) : Option Int := some (numV o)
theorem c_num16 {p0 : Option Int} {R : Int} {s : St} (h0 : oNum16 p0 = some R) (hst : StGV s) : AC Go.Proofs.Tryd.prog 38 [pl (errV p0)] s (pl (.int .i64 R)) s := by obtain rfl := some_of h0; exact num16 hst

def F_sure16 (fl : Nat) : Option (Bool) :=
  bnd (F_xReserve fl ([(⟨0, 3⟩ : Stx), (⟨5, 5⟩ : Stx)] : (List Stx)) 4) fun x_1 => bnd (F_xPage fl ([(⟨0, 3⟩ : Stx), (⟨5, 5⟩ : Stx)] : (List Stx)) 3) fun x_2 => bnd (F_xNumber fl ([(⟨0, 3⟩ : Stx), (⟨5, 5⟩ : Stx)] : (List Stx)) 6) fun x_3 => bnd (F_xPage fl ([(⟨0, 3⟩ : Stx), (⟨5, 5⟩ : Stx)] : (List Stx)) 8) fun x_4 => bnd (F_xFree fl ([(⟨0, 3⟩ : Stx), (⟨5, 5⟩ : Stx)] : (List Stx)) 12) fun x_5 => grd ((((((x_1.2.2.isNone && x_2.2.isNone) && x_3.2.isNone) && x_5.2.isNone) && (decide ((x_1.1.length : Int) = 2))) == true) = true → Below 1 x_1.1.length) <| grd ((((((((x_1.2.2.isNone && x_2.2.isNone) && x_3.2.isNone) && x_5.2.isNone) && (decide ((x_1.1.length : Int) = 2))) && (decide ((x_1.1.getD (1 : Int).toNat default).From = 5) && (decide ((x_1.1.getD (1 : Int).toNat default).Many = 1) && true))) && (decide ((x_1.2.1.length : Int) = 1))) == true) = true → Below 0 x_1.2.1.length) <| bnd (gif ((((((((((x_1.2.2.isNone && x_2.2.isNone) && x_3.2.isNone) && x_5.2.isNone) && (decide ((x_1.1.length : Int) = 2))) && (decide ((x_1.1.getD (1 : Int).toNat default).From = 5) && (decide ((x_1.1.getD (1 : Int).toNat default).Many = 1) && true))) && (decide ((x_1.2.1.length : Int) = 1))) && (decide (((x_1.2.1.getD (0 : Int).toNat default).Many) = 4))) && (decide (x_2.1 = 5))) && (decide (x_3.1 = 4))) == true) (oNum16 x_4.2)) fun x_6 => grd (((((((((((((x_1.2.2.isNone && x_2.2.isNone) && x_3.2.isNone) && x_5.2.isNone) && (decide ((x_1.1.length : Int) = 2))) && (decide ((x_1.1.getD (1 : Int).toNat default).From = 5) && (decide ((x_1.1.getD (1 : Int).toNat default).Many = 1) && true))) && (decide ((x_1.2.1.length : Int) = 1))) && (decide (((x_1.2.1.getD (0 : Int).toNat default).Many) = 4))) && (decide (x_2.1 = 5))) && (decide (x_3.1 = 4))) && (decide (x_6 = 2))) && (decide ((x_5.1.length : Int) = 2))) == true) = true → Below 1 x_5.1.length) <| bnd (gif (((((((((((((x_1.2.2.isNone && x_2.2.isNone) && x_3.2.isNone) && x_5.2.isNone) && (decide ((x_1.1.length : Int) = 2))) && (decide ((x_1.1.getD (1 : Int).toNat default).From = 5) && (decide ((x_1.1.getD (1 : Int).toNat default).Many = 1) && true))) && (decide ((x_1.2.1.length : Int) = 1))) && (decide (((x_1.2.1.getD (0 : Int).toNat default).Many) = 4))) && (decide (x_2.1 = 5))) && (decide (x_3.1 = 4))) && (decide (x_6 = 2))) && (decide ((x_5.1.length : Int) = 2))) && (decide (((x_5.1.getD (1 : Int).toNat default).Many) = 2))) == true) (F_xMany fl ([(⟨0, 3⟩ : Stx), (⟨5, 5⟩ : Stx)] : (List Stx)))) fun x_7 => some (((((((((((((x_1.2.2.isNone && x_2.2.isNone) && x_3.2.isNone) && x_5.2.isNone) && (decide ((x_1.1.length : Int) = 2))) && (decide ((x_1.1.getD (1 : Int).toNat default).From = 5) && (decide ((x_1.1.getD (1 : Int).toNat default).Many = 1) && true))) && (decide ((x_1.2.1.length : Int) = 1))) && (decide (((x_1.2.1.getD (0 : Int).toNat default).Many) = 4))) && (decide (x_2.1 = 5))) && (decide (x_3.1 = 4))) && (decide (x_6 = 2))) && (decide ((x_5.1.length : Int) = 2))) && (decide (((x_5.1.getD (1 : Int).toNat default).Many) = 2))) && (decide (x_7 = 8)))
set_option maxRecDepth 100000 in
set_option maxHeartbeats 2000000 in
theorem c_sure16 {fl : Nat} {R : Bool} {s : St} (h0 : F_sure16 fl = some R) (hst : StGV s) : AC Go.Proofs.Tryd.prog 26 [] s (pl (.bool R)) s := by
  unfold F_sure16 at h0
  refine ac_of_aw s.boxes.length s.fr.length Go.Proofs.Tryd.func26 rfl (by simp [Go.Proofs.Tryd.ntmps26]) ?_
  refine aw_ext0 ?_
  refine aw_keep [] trivial ?_
  refine aw_seq ?_
  refine aw_region (by decide) ?_
  refine rts _ rfl (opD_assign (ev_const _ _)) ?_
  refine .nil ?_
  refine aw_keep [] trivial ?_
  refine aw_seq ?_
  refine aw_region (by decide) ?_
  refine rts _ rfl (opD_build_struct (rs := [_, _]) Go.Proofs.Tryd.underlying137 pt137_w2b zt137_w2b (parts_cons (cells1 (ev_const _ _) (one_pl rfl)) (parts_cons (cells1 (ev_const _ _) (one_pl rfl)) parts_nil)) rfl) ?_
  refine rts _ rfl (opD_build_struct (rs := [_, _]) Go.Proofs.Tryd.underlying137 pt137_w2b zt137_w2b (parts_cons (cells1 (ev_const _ _) (one_pl rfl)) (parts_cons (cells1 (ev_const _ _) (one_pl rfl)) parts_nil)) rfl) ?_
  refine rts _ rfl (opD_buildOwn (k := kStx) ([(⟨0, 3⟩ : Stx), (⟨5, 5⟩ : Stx)] : (List Stx)) Go.Proofs.Tryd.underlying48 sz137_w2b zt137_w2b (by decide) rfl (parts_cons (cellsA (ls rfl lz)) (parts_cons (cellsA lz) parts_nil)) rfl rfl (by first | exact List.length_nil | (simp only [List.length_cons, List.length_nil, Nat.zero_add, Nat.reduceAdd] <;> rfl)) (by simp only [na, nb, nc, nd, nf, ng, nh, ni, nj, nk] <;> rfl)) ?_
  refine rts _ rfl (opD_assign lz) ?_
  refine .nil ?_
  refine aw_keep [(1, _)] ⟨lg lz, trivial⟩ ?_
  refine aw_seq ?_
  refine aw_region (by decide) ?_
  refine rts _ rfl (opD_move oz) ?_
  replace h0 := bnd_some h0
  obtain ⟨x_1, hx_1, h0⟩ := h0
  refine rts _ rfl (opD_pure ht34_w2b (c_xReserve hx_1) ⟨(le_of_eq lz).trans (sl_any _ _ _ _), le_of_eq (ev_const _ _), trivial⟩) ?_
  refine rts _ rfl (opD_move lz) ?_
  refine rts _ rfl (opD_extract lz rfl) ?_
  refine rts _ rfl (opD_extract (ls rfl lz) rfl) ?_
  refine rts _ rfl (opD_extract (ls rfl (ls rfl lz)) rfl) ?_
  refine rts _ rfl (opD_assign (ls rfl (ls rfl lz))) ?_
  refine rts _ rfl (opD_assign (ls rfl (ls rfl lz))) ?_
  refine rts _ rfl (opD_assign (ls rfl (ls rfl lz))) ?_
  refine .nil ?_
  refine aw_keep [(1, _), (2, _), (3, _), (4, _)] ⟨lg (ls rfl (ls rfl (ls rfl (ls rfl (ls rfl (ls rfl (ls rfl (ls rfl (ls rfl oz))))))))), lg (ls rfl (ls rfl lz)), lg (ls rfl lz), lg lz, trivial⟩ ?_
  refine aw_seq ?_
  refine aw_region (by decide) ?_
  refine rts _ rfl (opD_move oz) ?_
  replace h0 := bnd_some h0
  obtain ⟨x_2, hx_2, h0⟩ := h0
  refine rts _ rfl (opD_pure ht28_w2b (c_xPage hx_2) ⟨(le_of_eq lz).trans (sl_any _ _ _ _), le_of_eq (ev_const _ _), trivial⟩) ?_
  refine rts _ rfl (opD_move lz) ?_
  refine rts _ rfl (opD_extract lz rfl) ?_
  refine rts _ rfl (opD_extract (ls rfl lz) rfl) ?_
  refine rts _ rfl (opD_assign (ls rfl lz)) ?_
  refine rts _ rfl (opD_assign (ls rfl lz)) ?_
  refine .nil ?_
  refine aw_keep [(1, _), (2, _), (3, _), (4, _), (5, _), (6, _)] ⟨lg (ls rfl (ls rfl (ls rfl (ls rfl (ls rfl (ls rfl (ls rfl oz))))))), lg (ls rfl (ls rfl (ls rfl (ls rfl (ls rfl (ls rfl (ls rfl (os rfl oz)))))))), lg (ls rfl (ls rfl (ls rfl (ls rfl (ls rfl (ls rfl (ls rfl (os rfl (os rfl oz))))))))), lg (ls rfl (ls rfl (ls rfl (ls rfl (ls rfl (ls rfl (ls rfl (os rfl (os rfl (os rfl oz)))))))))), lg (ls rfl lz), lg lz, trivial⟩ ?_
  refine aw_seq ?_
  refine aw_region (by decide) ?_
  refine rts _ rfl (opD_move oz) ?_
  replace h0 := bnd_some h0
  obtain ⟨x_3, hx_3, h0⟩ := h0
  refine rts _ rfl (opD_pure ht30_w2b (c_xNumber hx_3) ⟨(le_of_eq lz).trans (sl_any _ _ _ _), le_of_eq (ev_const _ _), trivial⟩) ?_
  refine rts _ rfl (opD_move lz) ?_
  refine rts _ rfl (opD_extract lz rfl) ?_
  refine rts _ rfl (opD_extract (ls rfl lz) rfl) ?_
  refine rts _ rfl (opD_assign (ls rfl lz)) ?_
  refine rts _ rfl (opD_assign (ls rfl lz)) ?_
  refine .nil ?_
  refine aw_keep [(1, _), (2, _), (3, _), (4, _), (5, _), (6, _), (7, _), (8, _)] ⟨lg (ls rfl (ls rfl (ls rfl (ls rfl (ls rfl (ls rfl (ls rfl oz))))))), lg (ls rfl (ls rfl (ls rfl (ls rfl (ls rfl (ls rfl (ls rfl (os rfl oz)))))))), lg (ls rfl (ls rfl (ls rfl (ls rfl (ls rfl (ls rfl (ls rfl (os rfl (os rfl oz))))))))), lg (ls rfl (ls rfl (ls rfl (ls rfl (ls rfl (ls rfl (ls rfl (os rfl (os rfl (os rfl oz)))))))))), lg (ls rfl (ls rfl (ls rfl (ls rfl (ls rfl (ls rfl (ls rfl (os rfl (os rfl (os rfl (os rfl oz))))))))))), lg (ls rfl (ls rfl (ls rfl (ls rfl (ls rfl (ls rfl (ls rfl (os rfl (os rfl (os rfl (os rfl (os rfl oz)))))))))))), lg (ls rfl lz), lg lz, trivial⟩ ?_
  refine aw_seq ?_
  refine aw_region (by decide) ?_
  refine rts _ rfl (opD_move oz) ?_
  replace h0 := bnd_some h0
  obtain ⟨x_4, hx_4, h0⟩ := h0
  refine rts _ rfl (opD_pure ht28_w2b (c_xPage hx_4) ⟨(le_of_eq lz).trans (sl_any _ _ _ _), le_of_eq (ev_const _ _), trivial⟩) ?_
  refine rts _ rfl (opD_move lz) ?_
  refine rts _ rfl (opD_extract lz rfl) ?_
  refine rts _ rfl (opD_extract (ls rfl lz) rfl) ?_
  refine rts _ rfl (opD_assign (ls rfl lz)) ?_
  refine rts _ rfl (opD_assign (ls rfl lz)) ?_
  refine .nil ?_
  refine aw_keep [(1, _), (2, _), (3, _), (4, _), (5, _), (6, _), (7, _), (8, _), (10, _)] ⟨lg (ls rfl (ls rfl (ls rfl (ls rfl (ls rfl (ls rfl (ls rfl oz))))))), lg (ls rfl (ls rfl (ls rfl (ls rfl (ls rfl (ls rfl (ls rfl (os rfl oz)))))))), lg (ls rfl (ls rfl (ls rfl (ls rfl (ls rfl (ls rfl (ls rfl (os rfl (os rfl oz))))))))), lg (ls rfl (ls rfl (ls rfl (ls rfl (ls rfl (ls rfl (ls rfl (os rfl (os rfl (os rfl oz)))))))))), lg (ls rfl (ls rfl (ls rfl (ls rfl (ls rfl (ls rfl (ls rfl (os rfl (os rfl (os rfl (os rfl oz))))))))))), lg (ls rfl (ls rfl (ls rfl (ls rfl (ls rfl (ls rfl (ls rfl (os rfl (os rfl (os rfl (os rfl (os rfl oz)))))))))))), lg (ls rfl (ls rfl (ls rfl (ls rfl (ls rfl (ls rfl (ls rfl (os rfl (os rfl (os rfl (os rfl (os rfl (os rfl oz))))))))))))), lg (ls rfl (ls rfl (ls rfl (ls rfl (ls rfl (ls rfl (ls rfl (os rfl (os rfl (os rfl (os rfl (os rfl (os rfl (os rfl oz)))))))))))))), lg lz, trivial⟩ ?_
  refine aw_seq ?_
  refine aw_region (by decide) ?_
  refine rts _ rfl (opD_move oz) ?_
  replace h0 := bnd_some h0
  obtain ⟨x_5, hx_5, h0⟩ := h0
  refine rts _ rfl (opD_pure ht32_w2b (c_xFree hx_5) ⟨(le_of_eq lz).trans (sl_any _ _ _ _), le_of_eq (ev_const _ _), trivial⟩) ?_
  refine rts _ rfl (opD_move lz) ?_
  refine rts _ rfl (opD_extract lz rfl) ?_
  refine rts _ rfl (opD_extract (ls rfl lz) rfl) ?_
  refine rts _ rfl (opD_assign (ls rfl lz)) ?_
  refine rts _ rfl (opD_assign (ls rfl lz)) ?_
  refine .nil ?_
  refine aw_keep [(1, _), (2, _), (3, _), (4, _), (5, _), (6, _), (7, _), (8, _), (10, _), (11, _), (12, _)] ⟨lg (ls rfl (ls rfl (ls rfl (ls rfl (ls rfl (ls rfl (ls rfl oz))))))), lg (ls rfl (ls rfl (ls rfl (ls rfl (ls rfl (ls rfl (ls rfl (os rfl oz)))))))), lg (ls rfl (ls rfl (ls rfl (ls rfl (ls rfl (ls rfl (ls rfl (os rfl (os rfl oz))))))))), lg (ls rfl (ls rfl (ls rfl (ls rfl (ls rfl (ls rfl (ls rfl (os rfl (os rfl (os rfl oz)))))))))), lg (ls rfl (ls rfl (ls rfl (ls rfl (ls rfl (ls rfl (ls rfl (os rfl (os rfl (os rfl (os rfl oz))))))))))), lg (ls rfl (ls rfl (ls rfl (ls rfl (ls rfl (ls rfl (ls rfl (os rfl (os rfl (os rfl (os rfl (os rfl oz)))))))))))), lg (ls rfl (ls rfl (ls rfl (ls rfl (ls rfl (ls rfl (ls rfl (os rfl (os rfl (os rfl (os rfl (os rfl (os rfl oz))))))))))))), lg (ls rfl (ls rfl (ls rfl (ls rfl (ls rfl (ls rfl (ls rfl (os rfl (os rfl (os rfl (os rfl (os rfl (os rfl (os rfl oz)))))))))))))), lg (ls rfl (ls rfl (ls rfl (ls rfl (ls rfl (ls rfl (ls rfl (os rfl (os rfl (os rfl (os rfl (os rfl (os rfl (os rfl (os rfl oz))))))))))))))), lg (ls rfl lz), lg lz, trivial⟩ ?_
  refine aw_seq ?_
  refine aw_region (by decide) ?_
  refine rts _ rfl (opD_move (os rfl (os rfl (os rfl oz)))) ?_
  refine rts _ rfl (opD_bin lz (ev_const _ _) (fun w => errV_geql _ w _) (fun w => errV_eql _ w)) ?_
  refine rts _ rfl (opD_move lz) ?_
  refine rtg _ rfl lz (fun hg7_3_1 => opD_move (ls rfl (ls rfl (ls rfl (os rfl (os rfl (os rfl (os rfl (os rfl oz))))))))) ?_
  refine rtg _ rfl (ls rfl lz) (fun hg7_4_2 => opD_bin (lz.trans (pif_pos hg7_4_2)) (ev_const _ _) (fun w => errV_geql _ w _) (fun w => errV_eql _ w)) ?_
  refine rts _ rfl (opD_and (ls rfl (ls rfl lz)) lz) ?_
  refine rts _ rfl (opD_move lz) ?_
  refine rtg _ rfl lz (fun hg7_7_3 => opD_move (ls rfl (ls rfl (ls rfl (ls rfl (ls rfl (ls rfl (ls rfl (os rfl (os rfl (os rfl (os rfl (os rfl (os rfl (os rfl oz))))))))))))))) ?_
  refine rtg _ rfl (ls rfl lz) (fun hg7_8_4 => opD_bin (lz.trans (pif_pos hg7_8_4)) (ev_const _ _) (fun w => errV_geql _ w _) (fun w => errV_eql _ w)) ?_
  refine rts _ rfl (opD_and (ls rfl (ls rfl lz)) lz) ?_
  refine rts _ rfl (opD_move lz) ?_
  refine rtg _ rfl lz (fun hg7_11_5 => opD_move (ls rfl (ls rfl (ls rfl (ls rfl (ls rfl (ls rfl (ls rfl (ls rfl (ls rfl (ls rfl (ls rfl (os rfl (os rfl (os rfl (os rfl (os rfl (os rfl (os rfl (os rfl (os rfl (os rfl oz)))))))))))))))))))))) ?_
  refine rtg _ rfl (ls rfl lz) (fun hg7_12_6 => opD_bin (lz.trans (pif_pos hg7_12_6)) (ev_const _ _) (fun w => errV_geql _ w _) (fun w => errV_eql _ w)) ?_
  refine rts _ rfl (opD_and (ls rfl (ls rfl lz)) lz) ?_
  refine rts _ rfl (opD_move lz) ?_
  refine rtg _ rfl lz (fun hg7_15_7 => opD_move (ls rfl (ls rfl (ls rfl (ls rfl (ls rfl (ls rfl (ls rfl (ls rfl (ls rfl (ls rfl (ls rfl (ls rfl (ls rfl (ls rfl (ls rfl (os rfl oz))))))))))))))))) ?_
  refine rtg _ rfl (ls rfl lz) (fun hg7_16_8 => opD_len_sl Go.Proofs.Tryd.underlying48 (lz.trans (pif_pos hg7_16_8))) ?_
  refine rtg _ rfl (ls rfl (ls rfl lz)) (fun hg7_17_9 => opD_eql (lz.trans (pif_pos hg7_17_9)) (ev_const _ _)) ?_
  refine rts _ rfl (opD_and (ls rfl (ls rfl (ls rfl lz))) lz) ?_
  refine rts _ rfl (opD_move lz) ?_
  refine rtg _ rfl lz (fun hg7_20_10 => opD_move (ls rfl (ls rfl (ls rfl (ls rfl (ls rfl (ls rfl (ls rfl (ls rfl (ls rfl (ls rfl (ls rfl (ls rfl (ls rfl (ls rfl (ls rfl (ls rfl (ls rfl (ls rfl (ls rfl (ls rfl (os rfl oz)))))))))))))))))))))) ?_
  replace h0 := grd_some h0
  obtain ⟨hg_12, h0⟩ := h0
  refine rtg _ rfl (ls rfl lz) (fun hg7_21_11 => opD_indexAddr_sl (i := (1 : Int).toNat) Go.Proofs.Tryd.underlying48 sz137_w2b (lz.trans (pif_pos hg7_21_11)) (ev_const _ _) (hg_12 hg7_21_11).eq (hg_12 hg7_21_11).2) ?_
  refine rtg _ rfl (ls rfl (ls rfl lz)) (fun hg7_22_13 => opD_load_el_aggX (qs := [_, _]) ag137_w2b sz137_w2b (lz.trans (pif_pos hg7_22_13)) (at_getD default (hg_12 hg7_22_13).2) (Nat.le_of_ble_eq_true rfl) rfl) ?_
  refine rtg _ rfl (ls rfl (ls rfl (ls rfl lz))) (fun hg7_23_14 => opD_build_struct (rs := [_, _]) Go.Proofs.Tryd.underlying137 pt137_w2b zt137_w2b (parts_cons (cells1 (ev_const _ _) (one_pl rfl)) (parts_cons (cells1 (ev_const _ _) (one_pl rfl)) parts_nil)) rfl) ?_
  refine rtg _ rfl (ls rfl (ls rfl (ls rfl (ls rfl lz)))) (fun hg7_24_15 => opD_binA [.int .i64 ((x_1.1.getD (1 : Int).toNat default).From), .int .i64 ((x_1.1.getD (1 : Int).toNat default).Many)] [.int .i64 5, .int .i64 1] ((ls rfl lz).trans (pif_pos hg7_24_15)) (lz.trans (pif_pos hg7_24_15)) (fun w => (eq_Stx_g _ _ _ _ _ w)) (fun w => (eq_Stx _ _ _ _ w).1)) ?_
  refine rts _ rfl (opD_and (ls rfl (ls rfl (ls rfl (ls rfl (ls rfl lz))))) lz) ?_
  refine rts _ rfl (opD_move lz) ?_
  refine rtg _ rfl lz (fun hg7_27_16 => opD_move (ls rfl (ls rfl (ls rfl (ls rfl (ls rfl (ls rfl (ls rfl (ls rfl (ls rfl (ls rfl (ls rfl (ls rfl (ls rfl (ls rfl (ls rfl (ls rfl (ls rfl (ls rfl (ls rfl (ls rfl (ls rfl (ls rfl (ls rfl (ls rfl (ls rfl (ls rfl (ls rfl (os rfl (os rfl oz)))))))))))))))))))))))))))))) ?_
  refine rtg _ rfl (ls rfl lz) (fun hg7_28_17 => opD_len_sl Go.Proofs.Tryd.underlying48 (lz.trans (pif_pos hg7_28_17))) ?_
  refine rtg _ rfl (ls rfl (ls rfl lz)) (fun hg7_29_18 => opD_eql (lz.trans (pif_pos hg7_29_18)) (ev_const _ _)) ?_
  refine rts _ rfl (opD_and (ls rfl (ls rfl (ls rfl lz))) lz) ?_
  refine rts _ rfl (opD_move lz) ?_
  refine rtg _ rfl lz (fun hg7_32_19 => opD_move (ls rfl (ls rfl (ls rfl (ls rfl (ls rfl (ls rfl (ls rfl (ls rfl (ls rfl (ls rfl (ls rfl (ls rfl (ls rfl (ls rfl (ls rfl (ls rfl (ls rfl (ls rfl (ls rfl (ls rfl (ls rfl (ls rfl (ls rfl (ls rfl (ls rfl (ls rfl (ls rfl (ls rfl (ls rfl (ls rfl (ls rfl (ls rfl (os rfl (os rfl oz))))))))))))))))))))))))))))))))))) ?_
  replace h0 := grd_some h0
  obtain ⟨hg_21, h0⟩ := h0
  refine rtg _ rfl (ls rfl lz) (fun hg7_33_20 => opD_indexAddr_sl (i := (0 : Int).toNat) Go.Proofs.Tryd.underlying48 sz137_w2b (lz.trans (pif_pos hg7_33_20)) (ev_const _ _) (hg_21 hg7_33_20).eq (hg_21 hg7_33_20).2) ?_
  refine rtg _ rfl (ls rfl (ls rfl lz)) (fun hg7_34_22 => opD_fieldAddr_el fo137_1_w2b (lz.trans (pif_pos hg7_34_22))) ?_
  refine rtg _ rfl (ls rfl (ls rfl (ls rfl lz))) (fun hg7_35_23 => opD_load_el_one ag3_w2b (lz.trans (pif_pos hg7_35_23)) (at_getD default (hg_21 hg7_35_23).2) rfl) ?_
  refine rtg _ rfl (ls rfl (ls rfl (ls rfl (ls rfl lz)))) (fun hg7_36_24 => opD_eql (lz.trans (pif_pos hg7_36_24)) (ev_const _ _)) ?_
  refine rts _ rfl (opD_and (ls rfl (ls rfl (ls rfl (ls rfl (ls rfl lz))))) lz) ?_
  refine rts _ rfl (opD_move lz) ?_
  refine rtg _ rfl lz (fun hg7_39_25 => opD_move (ls rfl (ls rfl (ls rfl (ls rfl (ls rfl (ls rfl (ls rfl (ls rfl (ls rfl (ls rfl (ls rfl (ls rfl (ls rfl (ls rfl (ls rfl (ls rfl (ls rfl (ls rfl (ls rfl (ls rfl (ls rfl (ls rfl (ls rfl (ls rfl (ls rfl (ls rfl (ls rfl (ls rfl (ls rfl (ls rfl (ls rfl (ls rfl (ls rfl (ls rfl (ls rfl (ls rfl (ls rfl (ls rfl (ls rfl (os rfl (os rfl (os rfl (os rfl oz)))))))))))))))))))))))))))))))))))))))))))) ?_
  refine rtg _ rfl (ls rfl lz) (fun hg7_40_26 => opD_eql (lz.trans (pif_pos hg7_40_26)) (ev_const _ _)) ?_
  refine rts _ rfl (opD_and (ls rfl (ls rfl lz)) lz) ?_
  refine rts _ rfl (opD_move lz) ?_
  refine rtg _ rfl lz (fun hg7_43_27 => opD_move (ls rfl (ls rfl (ls rfl (ls rfl (ls rfl (ls rfl (ls rfl (ls rfl (ls rfl (ls rfl (ls rfl (ls rfl (ls rfl (ls rfl (ls rfl (ls rfl (ls rfl (ls rfl (ls rfl (ls rfl (ls rfl (ls rfl (ls rfl (ls rfl (ls rfl (ls rfl (ls rfl (ls rfl (ls rfl (ls rfl (ls rfl (ls rfl (ls rfl (ls rfl (ls rfl (ls rfl (ls rfl (ls rfl (ls rfl (ls rfl (ls rfl (ls rfl (ls rfl (os rfl (os rfl (os rfl (os rfl (os rfl (os rfl oz)))))))))))))))))))))))))))))))))))))))))))))))))) ?_
  refine rtg _ rfl (ls rfl lz) (fun hg7_44_28 => opD_eql (lz.trans (pif_pos hg7_44_28)) (ev_const _ _)) ?_
  refine rts _ rfl (opD_and (ls rfl (ls rfl lz)) lz) ?_
  refine rts _ rfl (opD_move lz) ?_
  refine rtg _ rfl lz (fun hg7_47_29 => opD_move (ls rfl (ls rfl (ls rfl (ls rfl (ls rfl (ls rfl (ls rfl (ls rfl (ls rfl (ls rfl (ls rfl (ls rfl (ls rfl (ls rfl (ls rfl (ls rfl (ls rfl (ls rfl (ls rfl (ls rfl (ls rfl (ls rfl (ls rfl (ls rfl (ls rfl (ls rfl (ls rfl (ls rfl (ls rfl (ls rfl (ls rfl (ls rfl (ls rfl (ls rfl (ls rfl (ls rfl (ls rfl (ls rfl (ls rfl (ls rfl (ls rfl (ls rfl (ls rfl (ls rfl (ls rfl (ls rfl (ls rfl (os rfl (os rfl (os rfl (os rfl (os rfl (os rfl (os rfl (os rfl oz)))))))))))))))))))))))))))))))))))))))))))))))))))))))) ?_
  replace h0 := bnd_some h0
  obtain ⟨x_6, hx_6, h0⟩ := h0
  refine rtg _ rfl (ls rfl lz) (fun hg7_48_30 => opD_call ht38_w2b (c_num16 (gif_some hx_6 hg7_48_30) hst) ⟨le_of_eq (lz.trans (pif_pos hg7_48_30)), trivial⟩) ?_
  refine rtg _ rfl (ls rfl (ls rfl lz)) (fun hg7_49_31 => opD_eql (lz.trans (pif_pos hg7_49_31)) (ev_const _ _)) ?_
  refine rts _ rfl (opD_and (ls rfl (ls rfl (ls rfl lz))) lz) ?_
  refine rts _ rfl (opD_move lz) ?_
  refine rtg _ rfl lz (fun hg7_52_32 => opD_move (ls rfl (ls rfl (ls rfl (ls rfl (ls rfl (ls rfl (ls rfl (ls rfl (ls rfl (ls rfl (ls rfl (ls rfl (ls rfl (ls rfl (ls rfl (ls rfl (ls rfl (ls rfl (ls rfl (ls rfl (ls rfl (ls rfl (ls rfl (ls rfl (ls rfl (ls rfl (ls rfl (ls rfl (ls rfl (ls rfl (ls rfl (ls rfl (ls rfl (ls rfl (ls rfl (ls rfl (ls rfl (ls rfl (ls rfl (ls rfl (ls rfl (ls rfl (ls rfl (ls rfl (ls rfl (ls rfl (ls rfl (ls rfl (ls rfl (ls rfl (ls rfl (ls rfl (os rfl (os rfl (os rfl (os rfl (os rfl (os rfl (os rfl (os rfl (os rfl oz)))))))))))))))))))))))))))))))))))))))))))))))))))))))))))))) ?_
  refine rtg _ rfl (ls rfl lz) (fun hg7_53_33 => opD_len_sl Go.Proofs.Tryd.underlying48 (lz.trans (pif_pos hg7_53_33))) ?_
  refine rtg _ rfl (ls rfl (ls rfl lz)) (fun hg7_54_34 => opD_eql (lz.trans (pif_pos hg7_54_34)) (ev_const _ _)) ?_
  refine rts _ rfl (opD_and (ls rfl (ls rfl (ls rfl lz))) lz) ?_
  refine rts _ rfl (opD_move lz) ?_
  refine rtg _ rfl lz (fun hg7_57_35 => opD_move (ls rfl (ls rfl (ls rfl (ls rfl (ls rfl (ls rfl (ls rfl (ls rfl (ls rfl (ls rfl (ls rfl (ls rfl (ls rfl (ls rfl (ls rfl (ls rfl (ls rfl (ls rfl (ls rfl (ls rfl (ls rfl (ls rfl (ls rfl (ls rfl (ls rfl (ls rfl (ls rfl (ls rfl (ls rfl (ls rfl (ls rfl (ls rfl (ls rfl (ls rfl (ls rfl (ls rfl (ls rfl (ls rfl (ls rfl (ls rfl (ls rfl (ls rfl (ls rfl (ls rfl (ls rfl (ls rfl (ls rfl (ls rfl (ls rfl (ls rfl (ls rfl (ls rfl (ls rfl (ls rfl (ls rfl (ls rfl (ls rfl (os rfl (os rfl (os rfl (os rfl (os rfl (os rfl (os rfl (os rfl (os rfl oz))))))))))))))))))))))))))))))))))))))))))))))))))))))))))))))))))) ?_
  replace h0 := grd_some h0
  obtain ⟨hg_37, h0⟩ := h0
  refine rtg _ rfl (ls rfl lz) (fun hg7_58_36 => opD_indexAddr_sl (i := (1 : Int).toNat) Go.Proofs.Tryd.underlying48 sz137_w2b (lz.trans (pif_pos hg7_58_36)) (ev_const _ _) (hg_37 hg7_58_36).eq (hg_37 hg7_58_36).2) ?_
  refine rtg _ rfl (ls rfl (ls rfl lz)) (fun hg7_59_38 => opD_fieldAddr_el fo137_1_w2b (lz.trans (pif_pos hg7_59_38))) ?_
  refine rtg _ rfl (ls rfl (ls rfl (ls rfl lz))) (fun hg7_60_39 => opD_load_el_one ag3_w2b (lz.trans (pif_pos hg7_60_39)) (at_getD default (hg_37 hg7_60_39).2) rfl) ?_
  refine rtg _ rfl (ls rfl (ls rfl (ls rfl (ls rfl lz)))) (fun hg7_61_40 => opD_eql (lz.trans (pif_pos hg7_61_40)) (ev_const _ _)) ?_
  refine rts _ rfl (opD_and (ls rfl (ls rfl (ls rfl (ls rfl (ls rfl lz))))) lz) ?_
  refine rts _ rfl (opD_move lz) ?_
  refine rtg _ rfl lz (fun hg7_64_41 => opD_move (ls rfl (ls rfl (ls rfl (ls rfl (ls rfl (ls rfl (ls rfl (ls rfl (ls rfl (ls rfl (ls rfl (ls rfl (ls rfl (ls rfl (ls rfl (ls rfl (ls rfl (ls rfl (ls rfl (ls rfl (ls rfl (ls rfl (ls rfl (ls rfl (ls rfl (ls rfl (ls rfl (ls rfl (ls rfl (ls rfl (ls rfl (ls rfl (ls rfl (ls rfl (ls rfl (ls rfl (ls rfl (ls rfl (ls rfl (ls rfl (ls rfl (ls rfl (ls rfl (ls rfl (ls rfl (ls rfl (ls rfl (ls rfl (ls rfl (ls rfl (ls rfl (ls rfl (ls rfl (ls rfl (ls rfl (ls rfl (ls rfl (ls rfl (ls rfl (ls rfl (ls rfl (ls rfl (ls rfl (ls rfl oz))))))))))))))))))))))))))))))))))))))))))))))))))))))))))))))))) ?_
  replace h0 := bnd_some h0
  obtain ⟨x_7, hx_7, h0⟩ := h0
  refine rtg _ rfl (ls rfl lz) (fun hg7_65_42 => opD_pure ht39_w2b (c_xMany (gif_some hx_7 hg7_65_42)) ⟨(le_of_eq (lz.trans (pif_pos hg7_65_42))).trans (sl_any _ _ _ _), trivial⟩) ?_
  refine rtg _ rfl (ls rfl (ls rfl lz)) (fun hg7_66_43 => opD_eql (lz.trans (pif_pos hg7_66_43)) (ev_const _ _)) ?_
  refine rts _ rfl (opD_and (ls rfl (ls rfl (ls rfl lz))) lz) ?_
  refine rts _ rfl (opD_assign lz) ?_
  refine .nil ?_
  refine aw_keep [(0, _)] ⟨lg lz, trivial⟩ ?_
  refine aw_ret ?_
  obtain rfl := some_of h0
  exact done_ext (.inr rfl) ((res_one rfl (it_tmp oz)).le (Pd.le_refl _)) (pl_bnd _ _ _)

def F_lExtentTells (fl : Nat) (p0 : (List Stx)) (p1 : Int) (p2 : Int) : Option (Bool) :=
  ifb (decide (60 < (p0.length : Int))) (bnd (F_sure16 fl) fun x_1 => some x_1) (bnd (F_give16 fl p0) fun x_2 => bnd (F_xPage fl x_2 p2) fun x_3 => bnd (F_r16Page fl p0 p2) fun x_4 => bnd (F_xNumber fl x_2 p2) fun x_5 => bnd (F_r16Number fl p0 p2) fun x_6 => bnd (F_xFree fl x_2 p1) fun x_7 => bnd (F_r16Free fl p0 p1) fun x_8 => bnd (F_xReserve fl x_2 p2) fun x_9 => bnd (F_r16Reserve fl p0 p2) fun x_10 => bnd (F_xcheck fl x_2 p1) fun x_11 => bnd (F_r16May fl p0 p1) fun x_12 => bnd (gif (((x_11.isNone != x_12) == false) && (x_11.isSome == true)) (oNum16 x_11)) fun x_13 => bnd (gif (((x_11.isNone != x_12) || (x_11.isSome && (decide (x_13 ≠ 1)))) == false) (F_xMany fl x_2)) fun x_14 => bnd (gif (((x_11.isNone != x_12) || (x_11.isSome && (decide (x_13 ≠ 1)))) == false) (F_r16Pages fl p0)) fun x_15 => ifb (((x_11.isNone != x_12) || (x_11.isSome && (decide (x_13 ≠ 1)))) || (decide (x_14 ≠ (x_15.length : Int)))) (some false) (bnd (gif ((decide (x_3.1 = x_4.1)) == true) (oNum16 x_3.2)) fun x_16 => bnd (gif ((((decide (x_3.1 = x_4.1)) && (decide (x_16 = x_4.2))) && (decide (x_5.1 = x_6.1))) == true) (oNum16 x_5.2)) fun x_17 => bnd (gif (((((decide (x_3.1 = x_4.1)) && (decide (x_16 = x_4.2))) && (decide (x_5.1 = x_6.1))) && (decide (x_17 = x_6.2))) == true) (F_are16 fl x_7.1 x_8.1)) fun x_18 => bnd (gif ((((((decide (x_3.1 = x_4.1)) && (decide (x_16 = x_4.2))) && (decide (x_5.1 = x_6.1))) && (decide (x_17 = x_6.2))) && x_18) == true) (oNum16 x_7.2)) fun x_19 => bnd (gif (((((((decide (x_3.1 = x_4.1)) && (decide (x_16 = x_4.2))) && (decide (x_5.1 = x_6.1))) && (decide (x_17 = x_6.2))) && x_18) && (decide (x_19 = x_8.2))) == true) (F_are16 fl x_9.1 x_10.1)) fun x_20 => bnd (gif ((((((((decide (x_3.1 = x_4.1)) && (decide (x_16 = x_4.2))) && (decide (x_5.1 = x_6.1))) && (decide (x_17 = x_6.2))) && x_18) && (decide (x_19 = x_8.2))) && x_20) == true) (F_are16 fl x_9.2.1 x_10.2.1)) fun x_21 => bnd (gif (((((((((decide (x_3.1 = x_4.1)) && (decide (x_16 = x_4.2))) && (decide (x_5.1 = x_6.1))) && (decide (x_17 = x_6.2))) && x_18) && (decide (x_19 = x_8.2))) && x_20) && x_21) == true) (oNum16 x_9.2.2)) fun x_22 => bnd (gif ((((((((((decide (x_3.1 = x_4.1)) && (decide (x_16 = x_4.2))) && (decide (x_5.1 = x_6.1))) && (decide (x_17 = x_6.2))) && x_18) && (decide (x_19 = x_8.2))) && x_20) && x_21) && (decide (x_22 = x_10.2.2))) == true) (F_are16 fl x_2 p0)) fun x_23 => bnd (gif (((((((((((decide (x_3.1 = x_4.1)) && (decide (x_16 = x_4.2))) && (decide (x_5.1 = x_6.1))) && (decide (x_17 = x_6.2))) && x_18) && (decide (x_19 = x_8.2))) && x_20) && x_21) && (decide (x_22 = x_10.2.2))) && x_23) == true) (F_sure16 fl)) fun x_24 => some (((((((((((decide (x_3.1 = x_4.1)) && (decide (x_16 = x_4.2))) && (decide (x_5.1 = x_6.1))) && (decide (x_17 = x_6.2))) && x_18) && (decide (x_19 = x_8.2))) && x_20) && x_21) && (decide (x_22 = x_10.2.2))) && x_23) && x_24)))
set_option maxRecDepth 100000 in
set_option maxHeartbeats 2000000 in
theorem c_lExtentTells {fl : Nat} {p0 : (List Stx)} {p1 : Int} {p2 : Int} {R : Bool} {s : St} (h0 : F_lExtentTells fl p0 p1 p2 = some R) (hst : StGV s) : AC Go.Proofs.Tryd.prog 5 [sl kStx none none p0, pl (.int .i64 p1), pl (.int .i64 p2)] s (pl (.bool R)) s := by
  unfold F_lExtentTells at h0
  refine ac_of_aw s.boxes.length s.fr.length Go.Proofs.Tryd.func5 rfl (by simp [Go.Proofs.Tryd.ntmps5]) ?_
  refine aw_ext0 ?_
  refine aw_keep [(0, _), (1, _), (2, _)] ⟨lg ez, lg (es ez), lg (es (es ez)), trivial⟩ ?_
  refine aw_seq ?_
  refine aw_region (by decide) ?_
  refine rts _ rfl (opD_assign (ev_const _ _)) ?_
  refine .nil ?_
  refine aw_keep [(0, _), (1, _), (2, _)] ⟨lg (ls rfl oz), lg (ls rfl (os rfl oz)), lg (ls rfl (os rfl (os rfl oz))), trivial⟩ ?_
  refine aw_seq ?_
  refine aw_seq ?_
  refine aw_region (by decide) ?_
  refine rts _ rfl (opD_move oz) ?_
  refine rts _ rfl (opD_len_sl Go.Proofs.Tryd.underlying47 lz) ?_
  refine rts _ rfl (opD_gtr lz (ev_const _ _)) ?_
  refine .nil ?_
  refine aw_keep [(0, _), (1, _), (2, _), (29, _)] ⟨lg (ls rfl (ls rfl (ls rfl oz))), lg (ls rfl (ls rfl (ls rfl (os rfl oz)))), lg (ls rfl (ls rfl (ls rfl (os rfl (os rfl oz))))), lg lz, trivial⟩ ?_
  refine aw_cond _ (os rfl (os rfl (os rfl oz))) (fun hc => ?_) (fun hc => ?_)
  · skip
    replace h0 := ifb_t h0 hc
    clear hc
    refine aw_seq ?_
    refine aw_region (by decide) ?_
    replace h0 := bnd_some h0
    obtain ⟨x_1, hx_1, h0⟩ := h0
    refine rts _ rfl (opD_call ht26_w2b (c_sure16 hx_1 hst) trivial) ?_
    refine rts _ rfl (opD_assign lz) ?_
    refine .nil ?_
    refine aw_keep [(6, _)] ⟨lg lz, trivial⟩ ?_
    refine aw_ret ?_
    obtain rfl := some_of h0
    exact done_ext (.inr rfl) ((res_one rfl (it_tmp oz)).le (Pd.le_refl _)) (pl_bnd _ _ _)
  · skip
    replace h0 := ifb_f h0 hc
    clear hc
    refine aw_skip ?_
    refine aw_keep [(0, _), (1, _), (2, _)] ⟨lg oz, lg (os rfl oz), lg (os rfl (os rfl oz)), trivial⟩ ?_
    refine aw_seq ?_
    refine aw_region (by decide) ?_
    refine rts _ rfl (opD_move oz) ?_
    replace h0 := bnd_some h0
    obtain ⟨x_2, hx_2, h0⟩ := h0
    refine rts _ rfl (opD_pure ht27_w2b (c_give16 hx_2) ⟨le_of_eq lz, trivial⟩) ?_
    refine rts _ rfl (opD_assign lz) ?_
    refine .nil ?_
    refine aw_keep [(0, _), (1, _), (2, _), (7, _)] ⟨lg (ls rfl (ls rfl (ls rfl oz))), lg (ls rfl (ls rfl (ls rfl (os rfl oz)))), lg (ls rfl (ls rfl (ls rfl (os rfl (os rfl oz))))), lg lz, trivial⟩ ?_
    refine aw_seq ?_
    refine aw_region (by decide) ?_
    refine rts _ rfl (opD_move (os rfl (os rfl (os rfl oz)))) ?_
    refine rts _ rfl (opD_move (ls rfl (os rfl (os rfl oz)))) ?_
    replace h0 := bnd_some h0
    obtain ⟨x_3, hx_3, h0⟩ := h0
    refine rts _ rfl (opD_pure ht28_w2b (c_xPage hx_3) ⟨le_of_eq (ls rfl lz), le_of_eq lz, trivial⟩) ?_
    refine rts _ rfl (opD_move lz) ?_
    refine rts _ rfl (opD_extract lz rfl) ?_
    refine rts _ rfl (opD_extract (ls rfl lz) rfl) ?_
    refine rts _ rfl (opD_assign (ls rfl lz)) ?_
    refine rts _ rfl (opD_assign (ls rfl lz)) ?_
    refine .nil ?_
    refine aw_keep [(0, _), (1, _), (2, _), (7, _), (8, _), (9, _)] ⟨lg (ls rfl (ls rfl (ls rfl (ls rfl (ls rfl (ls rfl (ls rfl (ls rfl oz)))))))), lg (ls rfl (ls rfl (ls rfl (ls rfl (ls rfl (ls rfl (ls rfl (ls rfl (os rfl oz))))))))), lg (ls rfl (ls rfl (ls rfl (ls rfl (ls rfl (ls rfl (ls rfl (ls rfl (os rfl (os rfl oz)))))))))), lg (ls rfl (ls rfl (ls rfl (ls rfl (ls rfl (ls rfl (ls rfl (ls rfl (os rfl (os rfl (os rfl oz))))))))))), lg (ls rfl lz), lg lz, trivial⟩ ?_
    refine aw_seq ?_
    refine aw_region (by decide) ?_
    refine rts _ rfl (opD_move oz) ?_
    refine rts _ rfl (opD_move (ls rfl (os rfl (os rfl oz)))) ?_
    replace h0 := bnd_some h0
    obtain ⟨x_4, hx_4, h0⟩ := h0
    refine rts _ rfl (opD_pure ht29_w2b (c_r16Page hx_4) ⟨le_of_eq (ls rfl lz), le_of_eq lz, trivial⟩) ?_
    refine rts _ rfl (opD_move lz) ?_
    refine rts _ rfl (opD_extract lz rfl) ?_
    refine rts _ rfl (opD_extract (ls rfl lz) rfl) ?_
    refine rts _ rfl (opD_assign (ls rfl lz)) ?_
    refine rts _ rfl (opD_assign (ls rfl lz)) ?_
    refine .nil ?_
    refine aw_keep [(0, _), (1, _), (2, _), (7, _), (8, _), (9, _), (10, _), (11, _)] ⟨lg (ls rfl (ls rfl (ls rfl (ls rfl (ls rfl (ls rfl (ls rfl (ls rfl oz)))))))), lg (ls rfl (ls rfl (ls rfl (ls rfl (ls rfl (ls rfl (ls rfl (ls rfl (os rfl oz))))))))), lg (ls rfl (ls rfl (ls rfl (ls rfl (ls rfl (ls rfl (ls rfl (ls rfl (os rfl (os rfl oz)))))))))), lg (ls rfl (ls rfl (ls rfl (ls rfl (ls rfl (ls rfl (ls rfl (ls rfl (os rfl (os rfl (os rfl oz))))))))))), lg (ls rfl (ls rfl (ls rfl (ls rfl (ls rfl (ls rfl (ls rfl (ls rfl (os rfl (os rfl (os rfl (os rfl oz)))))))))))), lg (ls rfl (ls rfl (ls rfl (ls rfl (ls rfl (ls rfl (ls rfl (ls rfl (os rfl (os rfl (os rfl (os rfl (os rfl oz))))))))))))), lg (ls rfl lz), lg lz, trivial⟩ ?_
    refine aw_seq ?_
    refine aw_region (by decide) ?_
    refine rts _ rfl (opD_move (os rfl (os rfl (os rfl oz)))) ?_
    refine rts _ rfl (opD_move (ls rfl (os rfl (os rfl oz)))) ?_
    replace h0 := bnd_some h0
    obtain ⟨x_5, hx_5, h0⟩ := h0
    refine rts _ rfl (opD_pure ht30_w2b (c_xNumber hx_5) ⟨le_of_eq (ls rfl lz), le_of_eq lz, trivial⟩) ?_
    refine rts _ rfl (opD_move lz) ?_
    refine rts _ rfl (opD_extract lz rfl) ?_
    refine rts _ rfl (opD_extract (ls rfl lz) rfl) ?_
    refine rts _ rfl (opD_assign (ls rfl lz)) ?_
    refine rts _ rfl (opD_assign (ls rfl lz)) ?_
    refine .nil ?_
    refine aw_keep [(0, _), (1, _), (2, _), (7, _), (8, _), (9, _), (10, _), (11, _), (12, _), (13, _)] ⟨lg (ls rfl (ls rfl (ls rfl (ls rfl (ls rfl (ls rfl (ls rfl (ls rfl oz)))))))), lg (ls rfl (ls rfl (ls rfl (ls rfl (ls rfl (ls rfl (ls rfl (ls rfl (os rfl oz))))))))), lg (ls rfl (ls rfl (ls rfl (ls rfl (ls rfl (ls rfl (ls rfl (ls rfl (os rfl (os rfl oz)))))))))), lg (ls rfl (ls rfl (ls rfl (ls rfl (ls rfl (ls rfl (ls rfl (ls rfl (os rfl (os rfl (os rfl oz))))))))))), lg (ls rfl (ls rfl (ls rfl (ls rfl (ls rfl (ls rfl (ls rfl (ls rfl (os rfl (os rfl (os rfl (os rfl oz)))))))))))), lg (ls rfl (ls rfl (ls rfl (ls rfl (ls rfl (ls rfl (ls rfl (ls rfl (os rfl (os rfl (os rfl (os rfl (os rfl oz))))))))))))), lg (ls rfl (ls rfl (ls rfl (ls rfl (ls rfl (ls rfl (ls rfl (ls rfl (os rfl (os rfl (os rfl (os rfl (os rfl (os rfl oz)))))))))))))), lg (ls rfl (ls rfl (ls rfl (ls rfl (ls rfl (ls rfl (ls rfl (ls rfl (os rfl (os rfl (os rfl (os rfl (os rfl (os rfl (os rfl oz))))))))))))))), lg (ls rfl lz), lg lz, trivial⟩ ?_
    refine aw_seq ?_
    refine aw_region (by decide) ?_
    refine rts _ rfl (opD_move oz) ?_
    refine rts _ rfl (opD_move (ls rfl (os rfl (os rfl oz)))) ?_
    replace h0 := bnd_some h0
    obtain ⟨x_6, hx_6, h0⟩ := h0
    refine rts _ rfl (opD_pure ht31_w2b (c_r16Number hx_6) ⟨le_of_eq (ls rfl lz), le_of_eq lz, trivial⟩) ?_
    refine rts _ rfl (opD_move lz) ?_
    refine rts _ rfl (opD_extract lz rfl) ?_
    refine rts _ rfl (opD_extract (ls rfl lz) rfl) ?_
    refine rts _ rfl (opD_assign (ls rfl lz)) ?_
    refine rts _ rfl (opD_assign (ls rfl lz)) ?_
    refine .nil ?_
    refine aw_keep [(0, _), (1, _), (2, _), (7, _), (8, _), (9, _), (10, _), (11, _), (12, _), (13, _), (14, _), (15, _)] ⟨lg (ls rfl (ls rfl (ls rfl (ls rfl (ls rfl (ls rfl (ls rfl (ls rfl oz)))))))), lg (ls rfl (ls rfl (ls rfl (ls rfl (ls rfl (ls rfl (ls rfl (ls rfl (os rfl oz))))))))), lg (ls rfl (ls rfl (ls rfl (ls rfl (ls rfl (ls rfl (ls rfl (ls rfl (os rfl (os rfl oz)))))))))), lg (ls rfl (ls rfl (ls rfl (ls rfl (ls rfl (ls rfl (ls rfl (ls rfl (os rfl (os rfl (os rfl oz))))))))))), lg (ls rfl (ls rfl (ls rfl (ls rfl (ls rfl (ls rfl (ls rfl (ls rfl (os rfl (os rfl (os rfl (os rfl oz)))))))))))), lg (ls rfl (ls rfl (ls rfl (ls rfl (ls rfl (ls rfl (ls rfl (ls rfl (os rfl (os rfl (os rfl (os rfl (os rfl oz))))))))))))), lg (ls rfl (ls rfl (ls rfl (ls rfl (ls rfl (ls rfl (ls rfl (ls rfl (os rfl (os rfl (os rfl (os rfl (os rfl (os rfl oz)))))))))))))), lg (ls rfl (ls rfl (ls rfl (ls rfl (ls rfl (ls rfl (ls rfl (ls rfl (os rfl (os rfl (os rfl (os rfl (os rfl (os rfl (os rfl oz))))))))))))))), lg (ls rfl (ls rfl (ls rfl (ls rfl (ls rfl (ls rfl (ls rfl (ls rfl (os rfl (os rfl (os rfl (os rfl (os rfl (os rfl (os rfl (os rfl oz)))))))))))))))), lg (ls rfl (ls rfl (ls rfl (ls rfl (ls rfl (ls rfl (ls rfl (ls rfl (os rfl (os rfl (os rfl (os rfl (os rfl (os rfl (os rfl (os rfl (os rfl oz))))))))))))))))), lg (ls rfl lz), lg lz, trivial⟩ ?_
    refine aw_seq ?_
    refine aw_region (by decide) ?_
    refine rts _ rfl (opD_move (os rfl (os rfl (os rfl oz)))) ?_
    refine rts _ rfl (opD_move (ls rfl (os rfl oz))) ?_
    replace h0 := bnd_some h0
    obtain ⟨x_7, hx_7, h0⟩ := h0
    refine rts _ rfl (opD_pure ht32_w2b (c_xFree hx_7) ⟨le_of_eq (ls rfl lz), le_of_eq lz, trivial⟩) ?_
    refine rts _ rfl (opD_move lz) ?_
    refine rts _ rfl (opD_extract lz rfl) ?_
    refine rts _ rfl (opD_extract (ls rfl lz) rfl) ?_
    refine rts _ rfl (opD_assign (ls rfl lz)) ?_
    refine rts _ rfl (opD_assign (ls rfl lz)) ?_
    refine .nil ?_
    refine aw_keep [(0, _), (1, _), (2, _), (7, _), (8, _), (9, _), (10, _), (11, _), (12, _), (13, _), (14, _), (15, _), (16, _), (17, _)] ⟨lg (ls rfl (ls rfl (ls rfl (ls rfl (ls rfl (ls rfl (ls rfl (ls rfl oz)))))))), lg (ls rfl (ls rfl (ls rfl (ls rfl (ls rfl (ls rfl (ls rfl (ls rfl (os rfl oz))))))))), lg (ls rfl (ls rfl (ls rfl (ls rfl (ls rfl (ls rfl (ls rfl (ls rfl (os rfl (os rfl oz)))))))))), lg (ls rfl (ls rfl (ls rfl (ls rfl (ls rfl (ls rfl (ls rfl (ls rfl (os rfl (os rfl (os rfl oz))))))))))), lg (ls rfl (ls rfl (ls rfl (ls rfl (ls rfl (ls rfl (ls rfl (ls rfl (os rfl (os rfl (os rfl (os rfl oz)))))))))))), lg (ls rfl (ls rfl (ls rfl (ls rfl (ls rfl (ls rfl (ls rfl (ls rfl (os rfl (os rfl (os rfl (os rfl (os rfl oz))))))))))))), lg (ls rfl (ls rfl (ls rfl (ls rfl (ls rfl (ls rfl (ls rfl (ls rfl (os rfl (os rfl (os rfl (os rfl (os rfl (os rfl oz)))))))))))))), lg (ls rfl (ls rfl (ls rfl (ls rfl (ls rfl (ls rfl (ls rfl (ls rfl (os rfl (os rfl (os rfl (os rfl (os rfl (os rfl (os rfl oz))))))))))))))), lg (ls rfl (ls rfl (ls rfl (ls rfl (ls rfl (ls rfl (ls rfl (ls rfl (os rfl (os rfl (os rfl (os rfl (os rfl (os rfl (os rfl (os rfl oz)))))))))))))))), lg (ls rfl (ls rfl (ls rfl (ls rfl (ls rfl (ls rfl (ls rfl (ls rfl (os rfl (os rfl (os rfl (os rfl (os rfl (os rfl (os rfl (os rfl (os rfl oz))))))))))))))))), lg (ls rfl (ls rfl (ls rfl (ls rfl (ls rfl (ls rfl (ls rfl (ls rfl (os rfl (os rfl (os rfl (os rfl (os rfl (os rfl (os rfl (os rfl (os rfl (os rfl oz)))))))))))))))))), lg (ls rfl (ls rfl (ls rfl (ls rfl (ls rfl (ls rfl (ls rfl (ls rfl (os rfl (os rfl (os rfl (os rfl (os rfl (os rfl (os rfl (os rfl (os rfl (os rfl (os rfl oz))))))))))))))))))), lg (ls rfl lz), lg lz, trivial⟩ ?_
    refine aw_seq ?_
    refine aw_region (by decide) ?_
    refine rts _ rfl (opD_move oz) ?_
    refine rts _ rfl (opD_move (ls rfl (os rfl oz))) ?_
    replace h0 := bnd_some h0
    obtain ⟨x_8, hx_8, h0⟩ := h0
    refine rts _ rfl (opD_pure ht33_w2b (c_r16Free hx_8) ⟨le_of_eq (ls rfl lz), le_of_eq lz, trivial⟩) ?_
    refine rts _ rfl (opD_move lz) ?_
    refine rts _ rfl (opD_extract lz rfl) ?_
    refine rts _ rfl (opD_extract (ls rfl lz) rfl) ?_
    refine rts _ rfl (opD_assign (ls rfl lz)) ?_
    refine rts _ rfl (opD_assign (ls rfl lz)) ?_
    refine .nil ?_
    refine aw_keep [(0, _), (1, _), (2, _), (7, _), (8, _), (9, _), (10, _), (11, _), (12, _), (13, _), (14, _), (15, _), (16, _), (17, _), (18, _), (19, _)] ⟨lg (ls rfl (ls rfl (ls rfl (ls rfl (ls rfl (ls rfl (ls rfl (ls rfl oz)))))))), lg (ls rfl (ls rfl (ls rfl (ls rfl (ls rfl (ls rfl (ls rfl (ls rfl (os rfl oz))))))))), lg (ls rfl (ls rfl (ls rfl (ls rfl (ls rfl (ls rfl (ls rfl (ls rfl (os rfl (os rfl oz)))))))))), lg (ls rfl (ls rfl (ls rfl (ls rfl (ls rfl (ls rfl (ls rfl (ls rfl (os rfl (os rfl (os rfl oz))))))))))), lg (ls rfl (ls rfl (ls rfl (ls rfl (ls rfl (ls rfl (ls rfl (ls rfl (os rfl (os rfl (os rfl (os rfl oz)))))))))))), lg (ls rfl (ls rfl (ls rfl (ls rfl (ls rfl (ls rfl (ls rfl (ls rfl (os rfl (os rfl (os rfl (os rfl (os rfl oz))))))))))))), lg (ls rfl (ls rfl (ls rfl (ls rfl (ls rfl (ls rfl (ls rfl (ls rfl (os rfl (os rfl (os rfl (os rfl (os rfl (os rfl oz)))))))))))))), lg (ls rfl (ls rfl (ls rfl (ls rfl (ls rfl (ls rfl (ls rfl (ls rfl (os rfl (os rfl (os rfl (os rfl (os rfl (os rfl (os rfl oz))))))))))))))), lg (ls rfl (ls rfl (ls rfl (ls rfl (ls rfl (ls rfl (ls rfl (ls rfl (os rfl (os rfl (os rfl (os rfl (os rfl (os rfl (os rfl (os rfl oz)))))))))))))))), lg (ls rfl (ls rfl (ls rfl (ls rfl (ls rfl (ls rfl (ls rfl (ls rfl (os rfl (os rfl (os rfl (os rfl (os rfl (os rfl (os rfl (os rfl (os rfl oz))))))))))))))))), lg (ls rfl (ls rfl (ls rfl (ls rfl (ls rfl (ls rfl (ls rfl (ls rfl (os rfl (os rfl (os rfl (os rfl (os rfl (os rfl (os rfl (os rfl (os rfl (os rfl oz)))))))))))))))))), lg (ls rfl (ls rfl (ls rfl (ls rfl (ls rfl (ls rfl (ls rfl (ls rfl (os rfl (os rfl (os rfl (os rfl (os rfl (os rfl (os rfl (os rfl (os rfl (os rfl (os rfl oz))))))))))))))))))), lg (ls rfl (ls rfl (ls rfl (ls rfl (ls rfl (ls rfl (ls rfl (ls rfl (os rfl (os rfl (os rfl (os rfl (os rfl (os rfl (os rfl (os rfl (os rfl (os rfl (os rfl (os rfl oz)))))))))))))))))))), lg (ls rfl (ls rfl (ls rfl (ls rfl (ls rfl (ls rfl (ls rfl (ls rfl (os rfl (os rfl (os rfl (os rfl (os rfl (os rfl (os rfl (os rfl (os rfl (os rfl (os rfl (os rfl (os rfl oz))))))))))))))))))))), lg (ls rfl lz), lg lz, trivial⟩ ?_
    refine aw_seq ?_
    refine aw_region (by decide) ?_
    refine rts _ rfl (opD_move (os rfl (os rfl (os rfl oz)))) ?_
    refine rts _ rfl (opD_move (ls rfl (os rfl (os rfl oz)))) ?_
    replace h0 := bnd_some h0
    obtain ⟨x_9, hx_9, h0⟩ := h0
    refine rts _ rfl (opD_pure ht34_w2b (c_xReserve hx_9) ⟨le_of_eq (ls rfl lz), le_of_eq lz, trivial⟩) ?_
    refine rts _ rfl (opD_move lz) ?_
    refine rts _ rfl (opD_extract lz rfl) ?_
    refine rts _ rfl (opD_extract (ls rfl lz) rfl) ?_
    refine rts _ rfl (opD_extract (ls rfl (ls rfl lz)) rfl) ?_
    refine rts _ rfl (opD_assign (ls rfl (ls rfl lz))) ?_
    refine rts _ rfl (opD_assign (ls rfl (ls rfl lz))) ?_
    refine rts _ rfl (opD_assign (ls rfl (ls rfl lz))) ?_
    refine .nil ?_
    refine aw_keep [(0, _), (1, _), (2, _), (7, _), (8, _), (9, _), (10, _), (11, _), (12, _), (13, _), (14, _), (15, _), (16, _), (17, _), (18, _), (19, _), (20, _), (21, _), (22, _)] ⟨lg (ls rfl (ls rfl (ls rfl (ls rfl (ls rfl (ls rfl (ls rfl (ls rfl (ls rfl (ls rfl oz)))))))))), lg (ls rfl (ls rfl (ls rfl (ls rfl (ls rfl (ls rfl (ls rfl (ls rfl (ls rfl (ls rfl (os rfl oz))))))))))), lg (ls rfl (ls rfl (ls rfl (ls rfl (ls rfl (ls rfl (ls rfl (ls rfl (ls rfl (ls rfl (os rfl (os rfl oz)))))))))))), lg (ls rfl (ls rfl (ls rfl (ls rfl (ls rfl (ls rfl (ls rfl (ls rfl (ls rfl (ls rfl (os rfl (os rfl (os rfl oz))))))))))))), lg (ls rfl (ls rfl (ls rfl (ls rfl (ls rfl (ls rfl (ls rfl (ls rfl (ls rfl (ls rfl (os rfl (os rfl (os rfl (os rfl oz)))))))))))))), lg (ls rfl (ls rfl (ls rfl (ls rfl (ls rfl (ls rfl (ls rfl (ls rfl (ls rfl (ls rfl (os rfl (os rfl (os rfl (os rfl (os rfl oz))))))))))))))), lg (ls rfl (ls rfl (ls rfl (ls rfl (ls rfl (ls rfl (ls rfl (ls rfl (ls rfl (ls rfl (os rfl (os rfl (os rfl (os rfl (os rfl (os rfl oz)))))))))))))))), lg (ls rfl (ls rfl (ls rfl (ls rfl (ls rfl (ls rfl (ls rfl (ls rfl (ls rfl (ls rfl (os rfl (os rfl (os rfl (os rfl (os rfl (os rfl (os rfl oz))))))))))))))))), lg (ls rfl (ls rfl (ls rfl (ls rfl (ls rfl (ls rfl (ls rfl (ls rfl (ls rfl (ls rfl (os rfl (os rfl (os rfl (os rfl (os rfl (os rfl (os rfl (os rfl oz)))))))))))))))))), lg (ls rfl (ls rfl (ls rfl (ls rfl (ls rfl (ls rfl (ls rfl (ls rfl (ls rfl (ls rfl (os rfl (os rfl (os rfl (os rfl (os rfl (os rfl (os rfl (os rfl (os rfl oz))))))))))))))))))), lg (ls rfl (ls rfl (ls rfl (ls rfl (ls rfl (ls rfl (ls rfl (ls rfl (ls rfl (ls rfl (os rfl (os rfl (os rfl (os rfl (os rfl (os rfl (os rfl (os rfl (os rfl (os rfl oz)))))))))))))))))))), lg (ls rfl (ls rfl (ls rfl (ls rfl (ls rfl (ls rfl (ls rfl (ls rfl (ls rfl (ls rfl (os rfl (os rfl (os rfl (os rfl (os rfl (os rfl (os rfl (os rfl (os rfl (os rfl (os rfl oz))))))))))))))))))))), lg (ls rfl (ls rfl (ls rfl (ls rfl (ls rfl (ls rfl (ls rfl (ls rfl (ls rfl (ls rfl (os rfl (os rfl (os rfl (os rfl (os rfl (os rfl (os rfl (os rfl (os rfl (os rfl (os rfl (os rfl oz)))))))))))))))))))))), lg (ls rfl (ls rfl (ls rfl (ls rfl (ls rfl (ls rfl (ls rfl (ls rfl (ls rfl (ls rfl (os rfl (os rfl (os rfl (os rfl (os rfl (os rfl (os rfl (os rfl (os rfl (os rfl (os rfl (os rfl (os rfl oz))))))))))))))))))))))), lg (ls rfl (ls rfl (ls rfl (ls rfl (ls rfl (ls rfl (ls rfl (ls rfl (ls rfl (ls rfl (os rfl (os rfl (os rfl (os rfl (os rfl (os rfl (os rfl (os rfl (os rfl (os rfl (os rfl (os rfl (os rfl (os rfl oz)))))))))))))))))))))))), lg (ls rfl (ls rfl (ls rfl (ls rfl (ls rfl (ls rfl (ls rfl (ls rfl (ls rfl (ls rfl (os rfl (os rfl (os rfl (os rfl (os rfl (os rfl (os rfl (os rfl (os rfl (os rfl (os rfl (os rfl (os rfl (os rfl (os rfl oz))))))))))))))))))))))))), lg (ls rfl (ls rfl lz)), lg (ls rfl lz), lg lz, trivial⟩ ?_
    refine aw_seq ?_
    refine aw_region (by decide) ?_
    refine rts _ rfl (opD_move oz) ?_
    refine rts _ rfl (opD_move (ls rfl (os rfl (os rfl oz)))) ?_
    replace h0 := bnd_some h0
    obtain ⟨x_10, hx_10, h0⟩ := h0
    refine rts _ rfl (opD_pure ht35_w2b (c_r16Reserve hx_10) ⟨le_of_eq (ls rfl lz), le_of_eq lz, trivial⟩) ?_
    refine rts _ rfl (opD_move lz) ?_
    refine rts _ rfl (opD_extract lz rfl) ?_
    refine rts _ rfl (opD_extract (ls rfl lz) rfl) ?_
    refine rts _ rfl (opD_extract (ls rfl (ls rfl lz)) rfl) ?_
    refine rts _ rfl (opD_assign (ls rfl (ls rfl lz))) ?_
    refine rts _ rfl (opD_assign (ls rfl (ls rfl lz))) ?_
    refine rts _ rfl (opD_assign (ls rfl (ls rfl lz))) ?_
    refine .nil ?_
    refine aw_keep [(0, _), (1, _), (7, _), (8, _), (9, _), (10, _), (11, _), (12, _), (13, _), (14, _), (15, _), (16, _), (17, _), (18, _), (19, _), (20, _), (21, _), (22, _), (23, _), (24, _), (25, _)] ⟨lg (ls rfl (ls rfl (ls rfl (ls rfl (ls rfl (ls rfl (ls rfl (ls rfl (ls rfl (ls rfl oz)))))))))), lg (ls rfl (ls rfl (ls rfl (ls rfl (ls rfl (ls rfl (ls rfl (ls rfl (ls rfl (ls rfl (os rfl oz))))))))))), lg (ls rfl (ls rfl (ls rfl (ls rfl (ls rfl (ls rfl (ls rfl (ls rfl (ls rfl (ls rfl (os rfl (os rfl (os rfl oz))))))))))))), lg (ls rfl (ls rfl (ls rfl (ls rfl (ls rfl (ls rfl (ls rfl (ls rfl (ls rfl (ls rfl (os rfl (os rfl (os rfl (os rfl oz)))))))))))))), lg (ls rfl (ls rfl (ls rfl (ls rfl (ls rfl (ls rfl (ls rfl (ls rfl (ls rfl (ls rfl (os rfl (os rfl (os rfl (os rfl (os rfl oz))))))))))))))), lg (ls rfl (ls rfl (ls rfl (ls rfl (ls rfl (ls rfl (ls rfl (ls rfl (ls rfl (ls rfl (os rfl (os rfl (os rfl (os rfl (os rfl (os rfl oz)))))))))))))))), lg (ls rfl (ls rfl (ls rfl (ls rfl (ls rfl (ls rfl (ls rfl (ls rfl (ls rfl (ls rfl (os rfl (os rfl (os rfl (os rfl (os rfl (os rfl (os rfl oz))))))))))))))))), lg (ls rfl (ls rfl (ls rfl (ls rfl (ls rfl (ls rfl (ls rfl (ls rfl (ls rfl (ls rfl (os rfl (os rfl (os rfl (os rfl (os rfl (os rfl (os rfl (os rfl oz)))))))))))))))))), lg (ls rfl (ls rfl (ls rfl (ls rfl (ls rfl (ls rfl (ls rfl (ls rfl (ls rfl (ls rfl (os rfl (os rfl (os rfl (os rfl (os rfl (os rfl (os rfl (os rfl (os rfl oz))))))))))))))))))), lg (ls rfl (ls rfl (ls rfl (ls rfl (ls rfl (ls rfl (ls rfl (ls rfl (ls rfl (ls rfl (os rfl (os rfl (os rfl (os rfl (os rfl (os rfl (os rfl (os rfl (os rfl (os rfl oz)))))))))))))))))))), lg (ls rfl (ls rfl (ls rfl (ls rfl (ls rfl (ls rfl (ls rfl (ls rfl (ls rfl (ls rfl (os rfl (os rfl (os rfl (os rfl (os rfl (os rfl (os rfl (os rfl (os rfl (os rfl (os rfl oz))))))))))))))))))))), lg (ls rfl (ls rfl (ls rfl (ls rfl (ls rfl (ls rfl (ls rfl (ls rfl (ls rfl (ls rfl (os rfl (os rfl (os rfl (os rfl (os rfl (os rfl (os rfl (os rfl (os rfl (os rfl (os rfl (os rfl oz)))))))))))))))))))))), lg (ls rfl (ls rfl (ls rfl (ls rfl (ls rfl (ls rfl (ls rfl (ls rfl (ls rfl (ls rfl (os rfl (os rfl (os rfl (os rfl (os rfl (os rfl (os rfl (os rfl (os rfl (os rfl (os rfl (os rfl (os rfl oz))))))))))))))))))))))), lg (ls rfl (ls rfl (ls rfl (ls rfl (ls rfl (ls rfl (ls rfl (ls rfl (ls rfl (ls rfl (os rfl (os rfl (os rfl (os rfl (os rfl (os rfl (os rfl (os rfl (os rfl (os rfl (os rfl (os rfl (os rfl (os rfl oz)))))))))))))))))))))))), lg (ls rfl (ls rfl (ls rfl (ls rfl (ls rfl (ls rfl (ls rfl (ls rfl (ls rfl (ls rfl (os rfl (os rfl (os rfl (os rfl (os rfl (os rfl (os rfl (os rfl (os rfl (os rfl (os rfl (os rfl (os rfl (os rfl (os rfl oz))))))))))))))))))))))))), lg (ls rfl (ls rfl (ls rfl (ls rfl (ls rfl (ls rfl (ls rfl (ls rfl (ls rfl (ls rfl (os rfl (os rfl (os rfl (os rfl (os rfl (os rfl (os rfl (os rfl (os rfl (os rfl (os rfl (os rfl (os rfl (os rfl (os rfl (os rfl oz)))))))))))))))))))))))))), lg (ls rfl (ls rfl (ls rfl (ls rfl (ls rfl (ls rfl (ls rfl (ls rfl (ls rfl (ls rfl (os rfl (os rfl (os rfl (os rfl (os rfl (os rfl (os rfl (os rfl (os rfl (os rfl (os rfl (os rfl (os rfl (os rfl (os rfl (os rfl (os rfl oz))))))))))))))))))))))))))), lg (ls rfl (ls rfl (ls rfl (ls rfl (ls rfl (ls rfl (ls rfl (ls rfl (ls rfl (ls rfl (os rfl (os rfl (os rfl (os rfl (os rfl (os rfl (os rfl (os rfl (os rfl (os rfl (os rfl (os rfl (os rfl (os rfl (os rfl (os rfl (os rfl (os rfl oz)))))))))))))))))))))))))))), lg (ls rfl (ls rfl lz)), lg (ls rfl lz), lg lz, trivial⟩ ?_
    refine aw_seq ?_
    refine aw_region (by decide) ?_
    refine rts _ rfl (opD_move (os rfl (os rfl oz))) ?_
    refine rts _ rfl (opD_move (ls rfl (os rfl oz))) ?_
    replace h0 := bnd_some h0
    obtain ⟨x_11, hx_11, h0⟩ := h0
    refine rts _ rfl (opD_pure ht36_w2b (c_xcheck hx_11) ⟨le_of_eq (ls rfl lz), le_of_eq lz, trivial⟩) ?_
    refine rts _ rfl (opD_assign lz) ?_
    refine .nil ?_
    refine aw_keep [(0, _), (1, _), (7, _), (8, _), (9, _), (10, _), (11, _), (12, _), (13, _), (14, _), (15, _), (16, _), (17, _), (18, _), (19, _), (20, _), (21, _), (22, _), (23, _), (24, _), (25, _), (26, _)] ⟨lg (ls rfl (ls rfl (ls rfl (ls rfl oz)))), lg (ls rfl (ls rfl (ls rfl (ls rfl (os rfl oz))))), lg (ls rfl (ls rfl (ls rfl (ls rfl (os rfl (os rfl oz)))))), lg (ls rfl (ls rfl (ls rfl (ls rfl (os rfl (os rfl (os rfl oz))))))), lg (ls rfl (ls rfl (ls rfl (ls rfl (os rfl (os rfl (os rfl (os rfl oz)))))))), lg (ls rfl (ls rfl (ls rfl (ls rfl (os rfl (os rfl (os rfl (os rfl (os rfl oz))))))))), lg (ls rfl (ls rfl (ls rfl (ls rfl (os rfl (os rfl (os rfl (os rfl (os rfl (os rfl oz)))))))))), lg (ls rfl (ls rfl (ls rfl (ls rfl (os rfl (os rfl (os rfl (os rfl (os rfl (os rfl (os rfl oz))))))))))), lg (ls rfl (ls rfl (ls rfl (ls rfl (os rfl (os rfl (os rfl (os rfl (os rfl (os rfl (os rfl (os rfl oz)))))))))))), lg (ls rfl (ls rfl (ls rfl (ls rfl (os rfl (os rfl (os rfl (os rfl (os rfl (os rfl (os rfl (os rfl (os rfl oz))))))))))))), lg (ls rfl (ls rfl (ls rfl (ls rfl (os rfl (os rfl (os rfl (os rfl (os rfl (os rfl (os rfl (os rfl (os rfl (os rfl oz)))))))))))))), lg (ls rfl (ls rfl (ls rfl (ls rfl (os rfl (os rfl (os rfl (os rfl (os rfl (os rfl (os rfl (os rfl (os rfl (os rfl (os rfl oz))))))))))))))), lg (ls rfl (ls rfl (ls rfl (ls rfl (os rfl (os rfl (os rfl (os rfl (os rfl (os rfl (os rfl (os rfl (os rfl (os rfl (os rfl (os rfl oz)))))))))))))))), lg (ls rfl (ls rfl (ls rfl (ls rfl (os rfl (os rfl (os rfl (os rfl (os rfl (os rfl (os rfl (os rfl (os rfl (os rfl (os rfl (os rfl (os rfl oz))))))))))))))))), lg (ls rfl (ls rfl (ls rfl (ls rfl (os rfl (os rfl (os rfl (os rfl (os rfl (os rfl (os rfl (os rfl (os rfl (os rfl (os rfl (os rfl (os rfl (os rfl oz)))))))))))))))))), lg (ls rfl (ls rfl (ls rfl (ls rfl (os rfl (os rfl (os rfl (os rfl (os rfl (os rfl (os rfl (os rfl (os rfl (os rfl (os rfl (os rfl (os rfl (os rfl (os rfl oz))))))))))))))))))), lg (ls rfl (ls rfl (ls rfl (ls rfl (os rfl (os rfl (os rfl (os rfl (os rfl (os rfl (os rfl (os rfl (os rfl (os rfl (os rfl (os rfl (os rfl (os rfl (os rfl (os rfl oz)))))))))))))))))))), lg (ls rfl (ls rfl (ls rfl (ls rfl (os rfl (os rfl (os rfl (os rfl (os rfl (os rfl (os rfl (os rfl (os rfl (os rfl (os rfl (os rfl (os rfl (os rfl (os rfl (os rfl (os rfl oz))))))))))))))))))))), lg (ls rfl (ls rfl (ls rfl (ls rfl (os rfl (os rfl (os rfl (os rfl (os rfl (os rfl (os rfl (os rfl (os rfl (os rfl (os rfl (os rfl (os rfl (os rfl (os rfl (os rfl (os rfl (os rfl oz)))))))))))))))))))))), lg (ls rfl (ls rfl (ls rfl (ls rfl (os rfl (os rfl (os rfl (os rfl (os rfl (os rfl (os rfl (os rfl (os rfl (os rfl (os rfl (os rfl (os rfl (os rfl (os rfl (os rfl (os rfl (os rfl (os rfl oz))))))))))))))))))))))), lg (ls rfl (ls rfl (ls rfl (ls rfl (os rfl (os rfl (os rfl (os rfl (os rfl (os rfl (os rfl (os rfl (os rfl (os rfl (os rfl (os rfl (os rfl (os rfl (os rfl (os rfl (os rfl (os rfl (os rfl (os rfl oz)))))))))))))))))))))))), lg lz, trivial⟩ ?_
    refine aw_seq ?_
    refine aw_seq ?_
    refine aw_flat mixed_w2b (by decide +kernel) ?_
    refine zts _ rfl (opD_move (os rfl (os rfl (os rfl (os rfl (os rfl (os rfl (os rfl (os rfl (os rfl (os rfl (os rfl (os rfl (os rfl (os rfl (os rfl (os rfl (os rfl (os rfl (os rfl (os rfl (os rfl oz)))))))))))))))))))))) ?_
    refine zts _ rfl (opD_bin lz (ev_const _ _) (fun w => errV_geql _ w _) (fun w => errV_eql _ w)) ?_
    refine zts _ rfl (opD_move (ls rfl (ls rfl oz))) ?_
    refine zts _ rfl (opD_move (ls rfl (ls rfl (ls rfl (os rfl oz))))) ?_
    replace h0 := bnd_some h0
    obtain ⟨x_12, hx_12, h0⟩ := h0
    refine zts _ rfl (opD_pure ht37_w2b (c_r16May hx_12) ⟨le_of_eq (ls rfl lz), le_of_eq lz, trivial⟩) ?_
    refine zts _ rfl (opD_bneq Go.Proofs.Tryd.underlying4 (ls rfl (ls rfl (ls rfl lz))) lz) ?_
    refine zts _ rfl (opD_move lz) ?_
    refine ztg _ rfl lz (fun hg13_7_14 => opD_move (ls rfl (ls rfl (ls rfl (ls rfl (ls rfl (ls rfl (ls rfl (os rfl (os rfl (os rfl (os rfl (os rfl (os rfl (os rfl (os rfl (os rfl (os rfl (os rfl (os rfl (os rfl (os rfl (os rfl (os rfl (os rfl (os rfl (os rfl (os rfl (os rfl oz))))))))))))))))))))))))))))) ?_
    refine ztg _ rfl (ls rfl lz) (fun hg13_8_15 => opD_bin (lz.trans (pif_pos hg13_8_15)) (ev_const _ _) (fun w => errV_guard _ w _) (fun w => errV_beq _ w)) ?_
    refine ztg _ rfl (ls rfl (ls rfl lz)) (fun hg13_9_16 => opD_move (lz.trans (pif_pos hg13_9_16))) ?_
    refine ztg2 _ rfl lz (fun hg13_10_17 => opD_move (ls rfl (ls rfl (ls rfl (ls rfl (ls rfl (ls rfl (ls rfl (ls rfl (ls rfl (ls rfl (os rfl (os rfl (os rfl (os rfl (os rfl (os rfl (os rfl (os rfl (os rfl (os rfl (os rfl (os rfl (os rfl (os rfl (os rfl (os rfl (os rfl (os rfl (os rfl (os rfl (os rfl oz)))))))))))))))))))))))))))))))) ?_
    replace h0 := bnd_some h0
    obtain ⟨x_13, hx_13, h0⟩ := h0
    refine ztg2 _ rfl (ls rfl lz) (fun hg13_11_18 => opD_call ht38_w2b (c_num16 (gif_some hx_13 hg13_11_18) hst) ⟨le_of_eq (lz.trans (pif_pos hg13_11_18)), trivial⟩) ?_
    refine ztg2 _ rfl (ls rfl (ls rfl lz)) (fun hg13_12_19 => opD_neq (lz.trans (pif_pos hg13_12_19)) (ev_const _ _)) ?_
    refine ztg _ rfl (ls rfl (ls rfl (ls rfl (ls rfl (ls rfl (ls rfl lz)))))) (fun hg13_13_20 => opD_and ((ls rfl (ls rfl (ls rfl lz))).trans (pif_pos hg13_13_20)) (lz.trans (pif_and hg13_13_20))) ?_
    refine zts _ rfl (opD_or (ls rfl (ls rfl (ls rfl (ls rfl (ls rfl (ls rfl (ls rfl lz))))))) lz) ?_
    refine zts _ rfl (opD_move lz) ?_
    refine ztg _ rfl lz (fun hg13_16_21 => opD_move (ls rfl (ls rfl (ls rfl (ls rfl (ls rfl (ls rfl (ls rfl (ls rfl (ls rfl (ls rfl (ls rfl (ls rfl (ls rfl (ls rfl (ls rfl (ls rfl (os rfl (os rfl oz))))))))))))))))))) ?_
    replace h0 := bnd_some h0
    obtain ⟨x_14, hx_14, h0⟩ := h0
    refine ztg _ rfl (ls rfl lz) (fun hg13_17_22 => opD_pure ht39_w2b (c_xMany (gif_some hx_14 hg13_17_22)) ⟨le_of_eq (lz.trans (pif_pos hg13_17_22)), trivial⟩) ?_
    refine ztg _ rfl (ls rfl (ls rfl lz)) (fun hg13_18_23 => opD_move (ls rfl (ls rfl (ls rfl (ls rfl (ls rfl (ls rfl (ls rfl (ls rfl (ls rfl (ls rfl (ls rfl (ls rfl (ls rfl (ls rfl (ls rfl (ls rfl (ls rfl (ls rfl oz))))))))))))))))))) ?_
    replace h0 := bnd_some h0
    obtain ⟨x_15, hx_15, h0⟩ := h0
    refine ztg _ rfl (ls rfl (ls rfl (ls rfl lz))) (fun hg13_19_24 => opD_pure ht40_w2b (c_r16Pages (gif_some hx_15 hg13_19_24)) ⟨le_of_eq (lz.trans (pif_pos hg13_19_24)), trivial⟩) ?_
    refine ztg _ rfl (ls rfl (ls rfl (ls rfl (ls rfl lz)))) (fun hg13_20_25 => opD_len_sl Go.Proofs.Tryd.underlying36 (lz.trans (pif_pos hg13_20_25))) ?_
    refine ztg _ rfl (ls rfl (ls rfl (ls rfl (ls rfl (ls rfl lz))))) (fun hg13_21_26 => opD_neq ((ls rfl (ls rfl (ls rfl lz))).trans (pif_pos hg13_21_26)) (lz.trans (pif_pos hg13_21_26))) ?_
    refine zts _ rfl (opD_or (ls rfl (ls rfl (ls rfl (ls rfl (ls rfl (ls rfl lz)))))) lz) ?_
    refine .nil ?_
    refine aw_keep [(0, _), (7, _), (8, _), (9, _), (10, _), (11, _), (12, _), (13, _), (14, _), (15, _), (16, _), (17, _), (18, _), (19, _), (20, _), (21, _), (22, _), (23, _), (24, _), (25, _), (108, _)] ⟨lg (ls rfl (ls rfl (ls rfl (ls rfl (ls rfl (ls rfl (ls rfl (ls rfl (ls rfl (ls rfl (ls rfl (ls rfl (ls rfl (ls rfl (ls rfl (ls rfl (ls rfl (ls rfl (ls rfl (ls rfl (ls rfl (ls rfl (ls rfl oz))))))))))))))))))))))), lg (ls rfl (ls rfl (ls rfl (ls rfl (ls rfl (ls rfl (ls rfl (ls rfl (ls rfl (ls rfl (ls rfl (ls rfl (ls rfl (ls rfl (ls rfl (ls rfl (ls rfl (ls rfl (ls rfl (ls rfl (ls rfl (ls rfl (ls rfl (os rfl (os rfl oz))))))))))))))))))))))))), lg (ls rfl (ls rfl (ls rfl (ls rfl (ls rfl (ls rfl (ls rfl (ls rfl (ls rfl (ls rfl (ls rfl (ls rfl (ls rfl (ls rfl (ls rfl (ls rfl (ls rfl (ls rfl (ls rfl (ls rfl (ls rfl (ls rfl (ls rfl (os rfl (os rfl (os rfl oz)))))))))))))))))))))))))), lg (ls rfl (ls rfl (ls rfl (ls rfl (ls rfl (ls rfl (ls rfl (ls rfl (ls rfl (ls rfl (ls rfl (ls rfl (ls rfl (ls rfl (ls rfl (ls rfl (ls rfl (ls rfl (ls rfl (ls rfl (ls rfl (ls rfl (ls rfl (os rfl (os rfl (os rfl (os rfl oz))))))))))))))))))))))))))), lg (ls rfl (ls rfl (ls rfl (ls rfl (ls rfl (ls rfl (ls rfl (ls rfl (ls rfl (ls rfl (ls rfl (ls rfl (ls rfl (ls rfl (ls rfl (ls rfl (ls rfl (ls rfl (ls rfl (ls rfl (ls rfl (ls rfl (ls rfl (os rfl (os rfl (os rfl (os rfl (os rfl oz)))))))))))))))))))))))))))), lg (ls rfl (ls rfl (ls rfl (ls rfl (ls rfl (ls rfl (ls rfl (ls rfl (ls rfl (ls rfl (ls rfl (ls rfl (ls rfl (ls rfl (ls rfl (ls rfl (ls rfl (ls rfl (ls rfl (ls rfl (ls rfl (ls rfl (ls rfl (os rfl (os rfl (os rfl (os rfl (os rfl (os rfl oz))))))))))))))))))))))))))))), lg (ls rfl (ls rfl (ls rfl (ls rfl (ls rfl (ls rfl (ls rfl (ls rfl (ls rfl (ls rfl (ls rfl (ls rfl (ls rfl (ls rfl (ls rfl (ls rfl (ls rfl (ls rfl (ls rfl (ls rfl (ls rfl (ls rfl (ls rfl (os rfl (os rfl (os rfl (os rfl (os rfl (os rfl (os rfl oz)))))))))))))))))))))))))))))), lg (ls rfl (ls rfl (ls rfl (ls rfl (ls rfl (ls rfl (ls rfl (ls rfl (ls rfl (ls rfl (ls rfl (ls rfl (ls rfl (ls rfl (ls rfl (ls rfl (ls rfl (ls rfl (ls rfl (ls rfl (ls rfl (ls rfl (ls rfl (os rfl (os rfl (os rfl (os rfl (os rfl (os rfl (os rfl (os rfl oz))))))))))))))))))))))))))))))), lg (ls rfl (ls rfl (ls rfl (ls rfl (ls rfl (ls rfl (ls rfl (ls rfl (ls rfl (ls rfl (ls rfl (ls rfl (ls rfl (ls rfl (ls rfl (ls rfl (ls rfl (ls rfl (ls rfl (ls rfl (ls rfl (ls rfl (ls rfl (os rfl (os rfl (os rfl (os rfl (os rfl (os rfl (os rfl (os rfl (os rfl oz)))))))))))))))))))))))))))))))), lg (ls rfl (ls rfl (ls rfl (ls rfl (ls rfl (ls rfl (ls rfl (ls rfl (ls rfl (ls rfl (ls rfl (ls rfl (ls rfl (ls rfl (ls rfl (ls rfl (ls rfl (ls rfl (ls rfl (ls rfl (ls rfl (ls rfl (ls rfl (os rfl (os rfl (os rfl (os rfl (os rfl (os rfl (os rfl (os rfl (os rfl (os rfl oz))))))))))))))))))))))))))))))))), lg (ls rfl (ls rfl (ls rfl (ls rfl (ls rfl (ls rfl (ls rfl (ls rfl (ls rfl (ls rfl (ls rfl (ls rfl (ls rfl (ls rfl (ls rfl (ls rfl (ls rfl (ls rfl (ls rfl (ls rfl (ls rfl (ls rfl (ls rfl (os rfl (os rfl (os rfl (os rfl (os rfl (os rfl (os rfl (os rfl (os rfl (os rfl (os rfl oz)))))))))))))))))))))))))))))))))), lg (ls rfl (ls rfl (ls rfl (ls rfl (ls rfl (ls rfl (ls rfl (ls rfl (ls rfl (ls rfl (ls rfl (ls rfl (ls rfl (ls rfl (ls rfl (ls rfl (ls rfl (ls rfl (ls rfl (ls rfl (ls rfl (ls rfl (ls rfl (os rfl (os rfl (os rfl (os rfl (os rfl (os rfl (os rfl (os rfl (os rfl (os rfl (os rfl (os rfl oz))))))))))))))))))))))))))))))))))), lg (ls rfl (ls rfl (ls rfl (ls rfl (ls rfl (ls rfl (ls rfl (ls rfl (ls rfl (ls rfl (ls rfl (ls rfl (ls rfl (ls rfl (ls rfl (ls rfl (ls rfl (ls rfl (ls rfl (ls rfl (ls rfl (ls rfl (ls rfl (os rfl (os rfl (os rfl (os rfl (os rfl (os rfl (os rfl (os rfl (os rfl (os rfl (os rfl (os rfl (os rfl oz)))))))))))))))))))))))))))))))))))), lg (ls rfl (ls rfl (ls rfl (ls rfl (ls rfl (ls rfl (ls rfl (ls rfl (ls rfl (ls rfl (ls rfl (ls rfl (ls rfl (ls rfl (ls rfl (ls rfl (ls rfl (ls rfl (ls rfl (ls rfl (ls rfl (ls rfl (ls rfl (os rfl (os rfl (os rfl (os rfl (os rfl (os rfl (os rfl (os rfl (os rfl (os rfl (os rfl (os rfl (os rfl (os rfl oz))))))))))))))))))))))))))))))))))))), lg (ls rfl (ls rfl (ls rfl (ls rfl (ls rfl (ls rfl (ls rfl (ls rfl (ls rfl (ls rfl (ls rfl (ls rfl (ls rfl (ls rfl (ls rfl (ls rfl (ls rfl (ls rfl (ls rfl (ls rfl (ls rfl (ls rfl (ls rfl (os rfl (os rfl (os rfl (os rfl (os rfl (os rfl (os rfl (os rfl (os rfl (os rfl (os rfl (os rfl (os rfl (os rfl (os rfl oz)))))))))))))))))))))))))))))))))))))), lg (ls rfl (ls rfl (ls rfl (ls rfl (ls rfl (ls rfl (ls rfl (ls rfl (ls rfl (ls rfl (ls rfl (ls rfl (ls rfl (ls rfl (ls rfl (ls rfl (ls rfl (ls rfl (ls rfl (ls rfl (ls rfl (ls rfl (ls rfl (os rfl (os rfl (os rfl (os rfl (os rfl (os rfl (os rfl (os rfl (os rfl (os rfl (os rfl (os rfl (os rfl (os rfl (os rfl (os rfl oz))))))))))))))))))))))))))))))))))))))), lg (ls rfl (ls rfl (ls rfl (ls rfl (ls rfl (ls rfl (ls rfl (ls rfl (ls rfl (ls rfl (ls rfl (ls rfl (ls rfl (ls rfl (ls rfl (ls rfl (ls rfl (ls rfl (ls rfl (ls rfl (ls rfl (ls rfl (ls rfl (os rfl (os rfl (os rfl (os rfl (os rfl (os rfl (os rfl (os rfl (os rfl (os rfl (os rfl (os rfl (os rfl (os rfl (os rfl (os rfl (os rfl oz)))))))))))))))))))))))))))))))))))))))), lg (ls rfl (ls rfl (ls rfl (ls rfl (ls rfl (ls rfl (ls rfl (ls rfl (ls rfl (ls rfl (ls rfl (ls rfl (ls rfl (ls rfl (ls rfl (ls rfl (ls rfl (ls rfl (ls rfl (ls rfl (ls rfl (ls rfl (ls rfl (os rfl (os rfl (os rfl (os rfl (os rfl (os rfl (os rfl (os rfl (os rfl (os rfl (os rfl (os rfl (os rfl (os rfl (os rfl (os rfl (os rfl (os rfl oz))))))))))))))))))))))))))))))))))))))))), lg (ls rfl (ls rfl (ls rfl (ls rfl (ls rfl (ls rfl (ls rfl (ls rfl (ls rfl (ls rfl (ls rfl (ls rfl (ls rfl (ls rfl (ls rfl (ls rfl (ls rfl (ls rfl (ls rfl (ls rfl (ls rfl (ls rfl (ls rfl (os rfl (os rfl (os rfl (os rfl (os rfl (os rfl (os rfl (os rfl (os rfl (os rfl (os rfl (os rfl (os rfl (os rfl (os rfl (os rfl (os rfl (os rfl (os rfl oz)))))))))))))))))))))))))))))))))))))))))), lg (ls rfl (ls rfl (ls rfl (ls rfl (ls rfl (ls rfl (ls rfl (ls rfl (ls rfl (ls rfl (ls rfl (ls rfl (ls rfl (ls rfl (ls rfl (ls rfl (ls rfl (ls rfl (ls rfl (ls rfl (ls rfl (ls rfl (ls rfl (os rfl (os rfl (os rfl (os rfl (os rfl (os rfl (os rfl (os rfl (os rfl (os rfl (os rfl (os rfl (os rfl (os rfl (os rfl (os rfl (os rfl (os rfl (os rfl (os rfl oz))))))))))))))))))))))))))))))))))))))))))), lg lz, trivial⟩ ?_
    refine aw_cond _ (os rfl (os rfl (os rfl (os rfl (os rfl (os rfl (os rfl (os rfl (os rfl (os rfl (os rfl (os rfl (os rfl (os rfl (os rfl (os rfl (os rfl (os rfl (os rfl (os rfl oz)))))))))))))))))))) (fun hc => ?_) (fun hc => ?_)
    · skip
      replace h0 := ifb_t h0 hc
      clear hc
      refine aw_seq ?_
      refine aw_region (by decide) ?_
      refine rts _ rfl (opD_assign (ev_const _ _)) ?_
      refine .nil ?_
      refine aw_keep [(6, _)] ⟨lg lz, trivial⟩ ?_
      refine aw_ret ?_
      obtain rfl := some_of h0
      exact done_ext (.inr rfl) ((res_one rfl (it_tmp oz)).le (Pd.le_refl _)) (pl_bnd _ _ _)
    · skip
      replace h0 := ifb_f h0 hc
      clear hc
      refine aw_skip ?_
      refine aw_keep [(0, _), (7, _), (8, _), (9, _), (10, _), (11, _), (12, _), (13, _), (14, _), (15, _), (16, _), (17, _), (18, _), (19, _), (20, _), (21, _), (22, _), (23, _), (24, _), (25, _)] ⟨lg oz, lg (os rfl oz), lg (os rfl (os rfl oz)), lg (os rfl (os rfl (os rfl oz))), lg (os rfl (os rfl (os rfl (os rfl oz)))), lg (os rfl (os rfl (os rfl (os rfl (os rfl oz))))), lg (os rfl (os rfl (os rfl (os rfl (os rfl (os rfl oz)))))), lg (os rfl (os rfl (os rfl (os rfl (os rfl (os rfl (os rfl oz))))))), lg (os rfl (os rfl (os rfl (os rfl (os rfl (os rfl (os rfl (os rfl oz)))))))), lg (os rfl (os rfl (os rfl (os rfl (os rfl (os rfl (os rfl (os rfl (os rfl oz))))))))), lg (os rfl (os rfl (os rfl (os rfl (os rfl (os rfl (os rfl (os rfl (os rfl (os rfl oz)))))))))), lg (os rfl (os rfl (os rfl (os rfl (os rfl (os rfl (os rfl (os rfl (os rfl (os rfl (os rfl oz))))))))))), lg (os rfl (os rfl (os rfl (os rfl (os rfl (os rfl (os rfl (os rfl (os rfl (os rfl (os rfl (os rfl oz)))))))))))), lg (os rfl (os rfl (os rfl (os rfl (os rfl (os rfl (os rfl (os rfl (os rfl (os rfl (os rfl (os rfl (os rfl oz))))))))))))), lg (os rfl (os rfl (os rfl (os rfl (os rfl (os rfl (os rfl (os rfl (os rfl (os rfl (os rfl (os rfl (os rfl (os rfl oz)))))))))))))), lg (os rfl (os rfl (os rfl (os rfl (os rfl (os rfl (os rfl (os rfl (os rfl (os rfl (os rfl (os rfl (os rfl (os rfl (os rfl oz))))))))))))))), lg (os rfl (os rfl (os rfl (os rfl (os rfl (os rfl (os rfl (os rfl (os rfl (os rfl (os rfl (os rfl (os rfl (os rfl (os rfl (os rfl oz)))))))))))))))), lg (os rfl (os rfl (os rfl (os rfl (os rfl (os rfl (os rfl (os rfl (os rfl (os rfl (os rfl (os rfl (os rfl (os rfl (os rfl (os rfl (os rfl oz))))))))))))))))), lg (os rfl (os rfl (os rfl (os rfl (os rfl (os rfl (os rfl (os rfl (os rfl (os rfl (os rfl (os rfl (os rfl (os rfl (os rfl (os rfl (os rfl (os rfl oz)))))))))))))))))), lg (os rfl (os rfl (os rfl (os rfl (os rfl (os rfl (os rfl (os rfl (os rfl (os rfl (os rfl (os rfl (os rfl (os rfl (os rfl (os rfl (os rfl (os rfl (os rfl oz))))))))))))))))))), trivial⟩ ?_
      refine aw_seq ?_
      refine aw_region (by decide) ?_
      refine rts _ rfl (opD_move (os rfl (os rfl oz))) ?_
      refine rts _ rfl (opD_move (ls rfl (os rfl (os rfl (os rfl (os rfl oz)))))) ?_
      refine rts _ rfl (opD_eql (ls rfl lz) lz) ?_
      refine rts _ rfl (opD_move lz) ?_
      refine rtg _ rfl lz (fun hg15_4_27 => opD_move (ls rfl (ls rfl (ls rfl (ls rfl (os rfl (os rfl (os rfl oz)))))))) ?_
      replace h0 := bnd_some h0
      obtain ⟨x_16, hx_16, h0⟩ := h0
      refine rtg _ rfl (ls rfl lz) (fun hg15_5_28 => opD_call ht38_w2b (c_num16 (gif_some hx_16 hg15_5_28) hst) ⟨le_of_eq (lz.trans (pif_pos hg15_5_28)), trivial⟩) ?_
      refine rtg _ rfl (ls rfl (ls rfl lz)) (fun hg15_6_29 => opD_move (ls rfl (ls rfl (ls rfl (ls rfl (ls rfl (ls rfl (os rfl (os rfl (os rfl (os rfl (os rfl oz)))))))))))) ?_
      refine rtg _ rfl (ls rfl (ls rfl (ls rfl lz))) (fun hg15_7_30 => opD_eql ((ls rfl lz).trans (pif_pos hg15_7_30)) (lz.trans (pif_pos hg15_7_30))) ?_
      refine rts _ rfl (opD_and (ls rfl (ls rfl (ls rfl (ls rfl lz)))) lz) ?_
      refine rts _ rfl (opD_move lz) ?_
      refine rtg _ rfl lz (fun hg15_10_31 => opD_move (ls rfl (ls rfl (ls rfl (ls rfl (ls rfl (ls rfl (ls rfl (ls rfl (ls rfl (ls rfl (os rfl (os rfl (os rfl (os rfl (os rfl (os rfl oz))))))))))))))))) ?_
      refine rtg _ rfl (ls rfl lz) (fun hg15_11_32 => opD_move (ls rfl (ls rfl (ls rfl (ls rfl (ls rfl (ls rfl (ls rfl (ls rfl (ls rfl (ls rfl (ls rfl (os rfl (os rfl (os rfl (os rfl (os rfl (os rfl (os rfl (os rfl oz)))))))))))))))))))) ?_
      refine rtg _ rfl (ls rfl (ls rfl lz)) (fun hg15_12_33 => opD_eql ((ls rfl lz).trans (pif_pos hg15_12_33)) (lz.trans (pif_pos hg15_12_33))) ?_
      refine rts _ rfl (opD_and (ls rfl (ls rfl (ls rfl lz))) lz) ?_
      refine rts _ rfl (opD_move lz) ?_
      refine rtg _ rfl lz (fun hg15_15_34 => opD_move (ls rfl (ls rfl (ls rfl (ls rfl (ls rfl (ls rfl (ls rfl (ls rfl (ls rfl (ls rfl (ls rfl (ls rfl (ls rfl (ls rfl (ls rfl (os rfl (os rfl (os rfl (os rfl (os rfl (os rfl (os rfl oz))))))))))))))))))))))) ?_
      replace h0 := bnd_some h0
      obtain ⟨x_17, hx_17, h0⟩ := h0
      refine rtg _ rfl (ls rfl lz) (fun hg15_16_35 => opD_call ht38_w2b (c_num16 (gif_some hx_17 hg15_16_35) hst) ⟨le_of_eq (lz.trans (pif_pos hg15_16_35)), trivial⟩) ?_
      refine rtg _ rfl (ls rfl (ls rfl lz)) (fun hg15_17_36 => opD_move (ls rfl (ls rfl (ls rfl (ls rfl (ls rfl (ls rfl (ls rfl (ls rfl (ls rfl (ls rfl (ls rfl (ls rfl (ls rfl (ls rfl (ls rfl (ls rfl (ls rfl (os rfl (os rfl (os rfl (os rfl (os rfl (os rfl (os rfl (os rfl (os rfl oz))))))))))))))))))))))))))) ?_
      refine rtg _ rfl (ls rfl (ls rfl (ls rfl lz))) (fun hg15_18_37 => opD_eql ((ls rfl lz).trans (pif_pos hg15_18_37)) (lz.trans (pif_pos hg15_18_37))) ?_
      refine rts _ rfl (opD_and (ls rfl (ls rfl (ls rfl (ls rfl lz)))) lz) ?_
      refine rts _ rfl (opD_move lz) ?_
      refine rtg _ rfl lz (fun hg15_21_38 => opD_move (ls rfl (ls rfl (ls rfl (ls rfl (ls rfl (ls rfl (ls rfl (ls rfl (ls rfl (ls rfl (ls rfl (ls rfl (ls rfl (ls rfl (ls rfl (ls rfl (ls rfl (ls rfl (ls rfl (ls rfl (ls rfl (os rfl (os rfl (os rfl (os rfl (os rfl (os rfl (os rfl (os rfl (os rfl (os rfl oz)))))))))))))))))))))))))))))))) ?_
      refine rtg _ rfl (ls rfl lz) (fun hg15_22_39 => opD_move (ls rfl (ls rfl (ls rfl (ls rfl (ls rfl (ls rfl (ls rfl (ls rfl (ls rfl (ls rfl (ls rfl (ls rfl (ls rfl (ls rfl (ls rfl (ls rfl (ls rfl (ls rfl (ls rfl (ls rfl (ls rfl (ls rfl (os rfl (os rfl (os rfl (os rfl (os rfl (os rfl (os rfl (os rfl (os rfl (os rfl (os rfl (os rfl oz))))))))))))))))))))))))))))))))))) ?_
      replace h0 := bnd_some h0
      obtain ⟨x_18, hx_18, h0⟩ := h0
      refine rtg _ rfl (ls rfl (ls rfl lz)) (fun hg15_23_40 => opD_pure ht41_w2b (c_are16 (gif_some hx_18 hg15_23_40)) ⟨le_of_eq ((ls rfl lz).trans (pif_pos hg15_23_40)), le_of_eq (lz.trans (pif_pos hg15_23_40)), trivial⟩) ?_
      refine rts _ rfl (opD_and (ls rfl (ls rfl (ls rfl lz))) lz) ?_
      refine rts _ rfl (opD_move lz) ?_
      refine rtg _ rfl lz (fun hg15_26_41 => opD_move (ls rfl (ls rfl (ls rfl (ls rfl (ls rfl (ls rfl (ls rfl (ls rfl (ls rfl (ls rfl (ls rfl (ls rfl (ls rfl (ls rfl (ls rfl (ls rfl (ls rfl (ls rfl (ls rfl (ls rfl (ls rfl (ls rfl (ls rfl (ls rfl (ls rfl (ls rfl (os rfl (os rfl (os rfl (os rfl (os rfl (os rfl (os rfl (os rfl (os rfl (os rfl (os rfl oz)))))))))))))))))))))))))))))))))))))) ?_
      replace h0 := bnd_some h0
      obtain ⟨x_19, hx_19, h0⟩ := h0
      refine rtg _ rfl (ls rfl lz) (fun hg15_27_42 => opD_call ht38_w2b (c_num16 (gif_some hx_19 hg15_27_42) hst) ⟨le_of_eq (lz.trans (pif_pos hg15_27_42)), trivial⟩) ?_
      refine rtg _ rfl (ls rfl (ls rfl lz)) (fun hg15_28_43 => opD_move (ls rfl (ls rfl (ls rfl (ls rfl (ls rfl (ls rfl (ls rfl (ls rfl (ls rfl (ls rfl (ls rfl (ls rfl (ls rfl (ls rfl (ls rfl (ls rfl (ls rfl (ls rfl (ls rfl (ls rfl (ls rfl (ls rfl (ls rfl (ls rfl (ls rfl (ls rfl (ls rfl (ls rfl (os rfl (os rfl (os rfl (os rfl (os rfl (os rfl (os rfl (os rfl (os rfl (os rfl (os rfl (os rfl (os rfl oz)))))))))))))))))))))))))))))))))))))))))) ?_
      refine rtg _ rfl (ls rfl (ls rfl (ls rfl lz))) (fun hg15_29_44 => opD_eql ((ls rfl lz).trans (pif_pos hg15_29_44)) (lz.trans (pif_pos hg15_29_44))) ?_
      refine rts _ rfl (opD_and (ls rfl (ls rfl (ls rfl (ls rfl lz)))) lz) ?_
      refine rts _ rfl (opD_move lz) ?_
      refine rtg _ rfl lz (fun hg15_32_45 => opD_move (ls rfl (ls rfl (ls rfl (ls rfl (ls rfl (ls rfl (ls rfl (ls rfl (ls rfl (ls rfl (ls rfl (ls rfl (ls rfl (ls rfl (ls rfl (ls rfl (ls rfl (ls rfl (ls rfl (ls rfl (ls rfl (ls rfl (ls rfl (ls rfl (ls rfl (ls rfl (ls rfl (ls rfl (ls rfl (ls rfl (ls rfl (ls rfl (os rfl (os rfl (os rfl (os rfl (os rfl (os rfl (os rfl (os rfl (os rfl (os rfl (os rfl (os rfl (os rfl (os rfl oz))))))))))))))))))))))))))))))))))))))))))))))) ?_
      refine rtg _ rfl (ls rfl lz) (fun hg15_33_46 => opD_move (ls rfl (ls rfl (ls rfl (ls rfl (ls rfl (ls rfl (ls rfl (ls rfl (ls rfl (ls rfl (ls rfl (ls rfl (ls rfl (ls rfl (ls rfl (ls rfl (ls rfl (ls rfl (ls rfl (ls rfl (ls rfl (ls rfl (ls rfl (ls rfl (ls rfl (ls rfl (ls rfl (ls rfl (ls rfl (ls rfl (ls rfl (ls rfl (ls rfl (os rfl (os rfl (os rfl (os rfl (os rfl (os rfl (os rfl (os rfl (os rfl (os rfl (os rfl (os rfl (os rfl (os rfl (os rfl (os rfl (os rfl oz))))))))))))))))))))))))))))))))))))))))))))))))))) ?_
      replace h0 := bnd_some h0
      obtain ⟨x_20, hx_20, h0⟩ := h0
      refine rtg _ rfl (ls rfl (ls rfl lz)) (fun hg15_34_47 => opD_pure ht41_w2b (c_are16 (gif_some hx_20 hg15_34_47)) ⟨le_of_eq ((ls rfl lz).trans (pif_pos hg15_34_47)), le_of_eq (lz.trans (pif_pos hg15_34_47)), trivial⟩) ?_
      refine rts _ rfl (opD_and (ls rfl (ls rfl (ls rfl lz))) lz) ?_
      refine rts _ rfl (opD_move lz) ?_
      refine rtg _ rfl lz (fun hg15_37_48 => opD_move (ls rfl (ls rfl (ls rfl (ls rfl (ls rfl (ls rfl (ls rfl (ls rfl (ls rfl (ls rfl (ls rfl (ls rfl (ls rfl (ls rfl (ls rfl (ls rfl (ls rfl (ls rfl (ls rfl (ls rfl (ls rfl (ls rfl (ls rfl (ls rfl (ls rfl (ls rfl (ls rfl (ls rfl (ls rfl (ls rfl (ls rfl (ls rfl (ls rfl (ls rfl (ls rfl (ls rfl (ls rfl (os rfl (os rfl (os rfl (os rfl (os rfl (os rfl (os rfl (os rfl (os rfl (os rfl (os rfl (os rfl (os rfl (os rfl (os rfl oz))))))))))))))))))))))))))))))))))))))))))))))))))))) ?_
      refine rtg _ rfl (ls rfl lz) (fun hg15_38_49 => opD_move (ls rfl (ls rfl (ls rfl (ls rfl (ls rfl (ls rfl (ls rfl (ls rfl (ls rfl (ls rfl (ls rfl (ls rfl (ls rfl (ls rfl (ls rfl (ls rfl (ls rfl (ls rfl (ls rfl (ls rfl (ls rfl (ls rfl (ls rfl (ls rfl (ls rfl (ls rfl (ls rfl (ls rfl (ls rfl (ls rfl (ls rfl (ls rfl (ls rfl (ls rfl (ls rfl (ls rfl (ls rfl (ls rfl (os rfl (os rfl (os rfl (os rfl (os rfl (os rfl (os rfl (os rfl (os rfl (os rfl (os rfl (os rfl (os rfl (os rfl (os rfl (os rfl (os rfl (os rfl oz))))))))))))))))))))))))))))))))))))))))))))))))))))))))) ?_
      replace h0 := bnd_some h0
      obtain ⟨x_21, hx_21, h0⟩ := h0
      refine rtg _ rfl (ls rfl (ls rfl lz)) (fun hg15_39_50 => opD_pure ht41_w2b (c_are16 (gif_some hx_21 hg15_39_50)) ⟨le_of_eq ((ls rfl lz).trans (pif_pos hg15_39_50)), le_of_eq (lz.trans (pif_pos hg15_39_50)), trivial⟩) ?_
      refine rts _ rfl (opD_and (ls rfl (ls rfl (ls rfl lz))) lz) ?_
      refine rts _ rfl (opD_move lz) ?_
      refine rtg _ rfl lz (fun hg15_42_51 => opD_move (ls rfl (ls rfl (ls rfl (ls rfl (ls rfl (ls rfl (ls rfl (ls rfl (ls rfl (ls rfl (ls rfl (ls rfl (ls rfl (ls rfl (ls rfl (ls rfl (ls rfl (ls rfl (ls rfl (ls rfl (ls rfl (ls rfl (ls rfl (ls rfl (ls rfl (ls rfl (ls rfl (ls rfl (ls rfl (ls rfl (ls rfl (ls rfl (ls rfl (ls rfl (ls rfl (ls rfl (ls rfl (ls rfl (ls rfl (ls rfl (ls rfl (ls rfl (os rfl (os rfl (os rfl (os rfl (os rfl (os rfl (os rfl (os rfl (os rfl (os rfl (os rfl (os rfl (os rfl (os rfl (os rfl (os rfl oz))))))))))))))))))))))))))))))))))))))))))))))))))))))))))) ?_
      replace h0 := bnd_some h0
      obtain ⟨x_22, hx_22, h0⟩ := h0
      refine rtg _ rfl (ls rfl lz) (fun hg15_43_52 => opD_call ht38_w2b (c_num16 (gif_some hx_22 hg15_43_52) hst) ⟨le_of_eq (lz.trans (pif_pos hg15_43_52)), trivial⟩) ?_
      refine rtg _ rfl (ls rfl (ls rfl lz)) (fun hg15_44_53 => opD_move (ls rfl (ls rfl (ls rfl (ls rfl (ls rfl (ls rfl (ls rfl (ls rfl (ls rfl (ls rfl (ls rfl (ls rfl (ls rfl (ls rfl (ls rfl (ls rfl (ls rfl (ls rfl (ls rfl (ls rfl (ls rfl (ls rfl (ls rfl (ls rfl (ls rfl (ls rfl (ls rfl (ls rfl (ls rfl (ls rfl (ls rfl (ls rfl (ls rfl (ls rfl (ls rfl (ls rfl (ls rfl (ls rfl (ls rfl (ls rfl (ls rfl (ls rfl (ls rfl (ls rfl (os rfl (os rfl (os rfl (os rfl (os rfl (os rfl (os rfl (os rfl (os rfl (os rfl (os rfl (os rfl (os rfl (os rfl (os rfl (os rfl (os rfl (os rfl (os rfl oz)))))))))))))))))))))))))))))))))))))))))))))))))))))))))))))))) ?_
      refine rtg _ rfl (ls rfl (ls rfl (ls rfl lz))) (fun hg15_45_54 => opD_eql ((ls rfl lz).trans (pif_pos hg15_45_54)) (lz.trans (pif_pos hg15_45_54))) ?_
      refine rts _ rfl (opD_and (ls rfl (ls rfl (ls rfl (ls rfl lz)))) lz) ?_
      refine rts _ rfl (opD_move lz) ?_
      refine rtg _ rfl lz (fun hg15_48_55 => opD_move (ls rfl (ls rfl (ls rfl (ls rfl (ls rfl (ls rfl (ls rfl (ls rfl (ls rfl (ls rfl (ls rfl (ls rfl (ls rfl (ls rfl (ls rfl (ls rfl (ls rfl (ls rfl (ls rfl (ls rfl (ls rfl (ls rfl (ls rfl (ls rfl (ls rfl (ls rfl (ls rfl (ls rfl (ls rfl (ls rfl (ls rfl (ls rfl (ls rfl (ls rfl (ls rfl (ls rfl (ls rfl (ls rfl (ls rfl (ls rfl (ls rfl (ls rfl (ls rfl (ls rfl (ls rfl (ls rfl (ls rfl (ls rfl (os rfl oz)))))))))))))))))))))))))))))))))))))))))))))))))) ?_
      refine rtg _ rfl (ls rfl lz) (fun hg15_49_56 => opD_move (ls rfl (ls rfl (ls rfl (ls rfl (ls rfl (ls rfl (ls rfl (ls rfl (ls rfl (ls rfl (ls rfl (ls rfl (ls rfl (ls rfl (ls rfl (ls rfl (ls rfl (ls rfl (ls rfl (ls rfl (ls rfl (ls rfl (ls rfl (ls rfl (ls rfl (ls rfl (ls rfl (ls rfl (ls rfl (ls rfl (ls rfl (ls rfl (ls rfl (ls rfl (ls rfl (ls rfl (ls rfl (ls rfl (ls rfl (ls rfl (ls rfl (ls rfl (ls rfl (ls rfl (ls rfl (ls rfl (ls rfl (ls rfl (ls rfl oz)))))))))))))))))))))))))))))))))))))))))))))))))) ?_
      replace h0 := bnd_some h0
      obtain ⟨x_23, hx_23, h0⟩ := h0
      refine rtg _ rfl (ls rfl (ls rfl lz)) (fun hg15_50_57 => opD_pure ht41_w2b (c_are16 (gif_some hx_23 hg15_50_57)) ⟨le_of_eq ((ls rfl lz).trans (pif_pos hg15_50_57)), le_of_eq (lz.trans (pif_pos hg15_50_57)), trivial⟩) ?_
      refine rts _ rfl (opD_and (ls rfl (ls rfl (ls rfl lz))) lz) ?_
      refine rts _ rfl (opD_move lz) ?_
      replace h0 := bnd_some h0
      obtain ⟨x_24, hx_24, h0⟩ := h0
      refine rtg _ rfl lz (fun hg15_53_58 => opD_call ht26_w2b (c_sure16 (gif_some hx_24 hg15_53_58) hst) trivial) ?_
      refine rts _ rfl (opD_and (ls rfl lz) lz) ?_
      refine rts _ rfl (opD_assign lz) ?_
      refine .nil ?_
      refine aw_keep [(6, _)] ⟨lg lz, trivial⟩ ?_
      refine aw_ret ?_
      obtain rfl := some_of h0
      exact done_ext (.inr rfl) ((res_one rfl (it_tmp oz)).le (Pd.le_refl _)) (pl_bnd _ _ _)

def F_lExtentBack_b0 (fl : Nat) (p1 : Int) (x_1 : ((List Stx))) (x_4 : (Int)) (t_6 : Int) : Option ((Int) ⊕ ((Bool) ⊕ (Unit))) :=
  ifb ((decide (t_6 < x_4)) && (decide (t_6 < 300))) (bnd (F_xPage fl x_1 t_6) fun x_8 => bnd (F_xNumber fl x_1 x_8.1) fun x_9 => ifb ((((x_8.2.isSome || x_9.2.isSome) || (decide (x_9.1 ≠ t_6))) || (decide (x_8.1 < 0))) || (decide ((IntKind.i64.wrap (1 + (IntKind.i64.wrap (p1)))) ≤ x_8.1))) (some (.inr (.inl false))) (some (.inl (IntKind.i64.wrap (t_6 + 1))))) (some (.inr (.inr ())))
def F_lExtentBack (fl : Nat) (p0 : (List Stx)) (p1 : Int) (p2 : Int) : Option (Bool) :=
  bnd (F_give16 fl p0) fun x_1 => bnd (gif ((decide (60 < (p0.length : Int))) == false) (F_xcheck fl x_1 (IntKind.i64.wrap (1 + (IntKind.i64.wrap (p1)))))) fun x_2 => ifb ((decide (60 < (p0.length : Int))) || x_2.isSome) (bnd (F_sure16 fl) fun x_3 => some x_3) (bnd (F_xMany fl x_1) fun x_4 => bnd (lp (F_lExtentBack_b0 fl p1 x_1 x_4) fl 0) fun z_5 => ocs z_5 (fun qz_5_0 => some qz_5_0) fun z_5_0 => bnd (F_xFree fl x_1 (IntKind.i64.wrap (1 + (IntKind.i64.wrap (p1))))) fun x_10 => ifb x_10.2.isSome (some false) (grd (Fits 16 (([] : (List Stx)).length + x_10.1.length)) <| grd (Fits 16 (x_10.1.length + x_1.length)) <| bnd (F_xcheck fl (x_10.1 ++ x_1) (IntKind.i64.wrap (1 + (IntKind.i64.wrap (p1))))) fun x_11 => bnd (gif (x_11.isSome == false) (F_xMany fl x_10.1)) fun x_12 => ifb (x_11.isSome || (decide ((IntKind.i64.wrap (x_12 + x_4)) ≠ (IntKind.i64.wrap (1 + (IntKind.i64.wrap (p1))))))) (some false) (grd (IntKind.i64.wrap ((IntKind.i64.wrap (1 + (IntKind.i64.wrap (p1)))) + 1) ≠ 0) <| bnd (F_xReserve fl x_10.1 (IntKind.i64.wrap (1 + ((IntKind.i64.wrap (p2)).tmod (IntKind.i64.wrap ((IntKind.i64.wrap (1 + (IntKind.i64.wrap (p1)))) + 1)))))) fun x_13 => ifb x_13.2.2.isSome (bnd (oNum16 x_13.2.2) fun x_14 => bnd (gif ((decide (x_14 = 7)) == true) (F_xMany fl x_10.1)) fun x_15 => bnd (gif (((decide (x_14 = 7)) && ((decide (x_15 < (IntKind.i64.wrap (1 + ((IntKind.i64.wrap (p2)).tmod (IntKind.i64.wrap ((IntKind.i64.wrap (1 + (IntKind.i64.wrap (p1)))) + 1))))))) || (decide (8 < (x_10.1.length : Int))))) == true) (F_sure16 fl)) fun x_16 => some (((decide (x_14 = 7)) && ((decide (x_15 < (IntKind.i64.wrap (1 + ((IntKind.i64.wrap (p2)).tmod (IntKind.i64.wrap ((IntKind.i64.wrap (1 + (IntKind.i64.wrap (p1)))) + 1))))))) || (decide (8 < (x_10.1.length : Int))))) && x_16)) (bnd (F_xMany fl x_13.1) fun x_17 => bnd (gif ((decide (x_17 = (IntKind.i64.wrap (1 + ((IntKind.i64.wrap (p2)).tmod (IntKind.i64.wrap ((IntKind.i64.wrap (1 + (IntKind.i64.wrap (p1)))) + 1))))))) == true) (F_xMany fl x_13.2.1)) fun x_18 => bnd (gif ((decide (x_17 = (IntKind.i64.wrap (1 + ((IntKind.i64.wrap (p2)).tmod (IntKind.i64.wrap ((IntKind.i64.wrap (1 + (IntKind.i64.wrap (p1)))) + 1))))))) == true) (F_xMany fl x_10.1)) fun x_19 => ifb (((decide (x_17 = (IntKind.i64.wrap (1 + ((IntKind.i64.wrap (p2)).tmod (IntKind.i64.wrap ((IntKind.i64.wrap (1 + (IntKind.i64.wrap (p1)))) + 1))))))) && (decide (x_18 = (IntKind.i64.wrap (x_19 - (IntKind.i64.wrap (1 + ((IntKind.i64.wrap (p2)).tmod (IntKind.i64.wrap ((IntKind.i64.wrap (1 + (IntKind.i64.wrap (p1)))) + 1)))))))))) && (decide ((x_13.1.length : Int) ≤ 8))) (grd (Fits 16 (([] : (List Stx)).length + x_13.1.length)) <| grd (Fits 16 (x_13.1.length + x_13.2.1.length)) <| bnd (F_xcheck fl (x_13.1 ++ x_13.2.1) (IntKind.i64.wrap (1 + (IntKind.i64.wrap (p1))))) fun x_20 => bnd (gif (x_20.isNone == true) (F_sure16 fl)) fun x_21 => some (x_20.isNone && x_21)) (some false)))))
set_option maxRecDepth 100000 in
set_option maxHeartbeats 2000000 in
theorem c_lExtentBack {fl : Nat} {p0 : (List Stx)} {p1 : Int} {p2 : Int} {R : Bool} {s : St} (h0 : F_lExtentBack fl p0 p1 p2 = some R) (hst : StGV s) : AC Go.Proofs.Tryd.prog 6 [sl kStx none none p0, pl (.int .u8 p1), pl (.int .u16 p2)] s (pl (.bool R)) s := by
  unfold F_lExtentBack at h0
  refine ac_of_aw s.boxes.length s.fr.length Go.Proofs.Tryd.func6 rfl (by simp [Go.Proofs.Tryd.ntmps6]) ?_
  refine aw_ext0 ?_
  refine aw_keep [(0, _), (1, _), (2, _)] ⟨lg ez, lg (es ez), lg (es (es ez)), trivial⟩ ?_
  refine aw_seq ?_
  refine aw_region (by decide) ?_
  refine rts _ rfl (opD_assign (ev_const _ _)) ?_
  refine .nil ?_
  refine aw_keep [(0, _), (1, _), (2, _)] ⟨lg (ls rfl oz), lg (ls rfl (os rfl oz)), lg (ls rfl (os rfl (os rfl oz))), trivial⟩ ?_
  refine aw_seq ?_
  refine aw_region (by decide) ?_
  refine rts _ rfl (opD_move oz) ?_
  replace h0 := bnd_some h0
  obtain ⟨x_1, hx_1, h0⟩ := h0
  refine rts _ rfl (opD_pure ht27_w2b (c_give16 hx_1) ⟨le_of_eq lz, trivial⟩) ?_
  refine rts _ rfl (opD_move (ls rfl (ls rfl (os rfl oz)))) ?_
  refine rts _ rfl (opD_conv_int Go.Proofs.Tryd.underlying5 Go.Proofs.Tryd.underlying3 lz rfl) ?_
  refine rts _ rfl (opD_add (ev_const _ _) lz rfl) ?_
  refine rts _ rfl (opD_assign (ls rfl (ls rfl (ls rfl lz)))) ?_
  refine rts _ rfl (opD_assign (ls rfl lz)) ?_
  refine .nil ?_
  refine aw_keep [(0, _), (2, _), (7, _), (8, _)] ⟨lg (ls rfl (ls rfl (ls rfl (ls rfl (ls rfl (ls rfl (ls rfl oz))))))), lg (ls rfl (ls rfl (ls rfl (ls rfl (ls rfl (ls rfl (ls rfl (os rfl (os rfl oz))))))))), lg (ls rfl lz), lg lz, trivial⟩ ?_
  refine aw_seq ?_
  refine aw_seq ?_
  refine aw_region (by decide) ?_
  refine rts _ rfl (opD_move oz) ?_
  refine rts _ rfl (opD_len_sl Go.Proofs.Tryd.underlying47 lz) ?_
  refine rts _ rfl (opD_gtr lz (ev_const _ _)) ?_
  refine rts _ rfl (opD_move lz) ?_
  refine rtg _ rfl lz (fun hg2_4_1 => opD_move (ls rfl (ls rfl (ls rfl (ls rfl (os rfl (os rfl oz))))))) ?_
  refine rtg _ rfl (ls rfl lz) (fun hg2_5_2 => opD_move (ls rfl (ls rfl (ls rfl (ls rfl (ls rfl (os rfl (os rfl (os rfl oz))))))))) ?_
  replace h0 := bnd_some h0
  obtain ⟨x_2, hx_2, h0⟩ := h0
  refine rtg _ rfl (ls rfl (ls rfl lz)) (fun hg2_6_3 => opD_pure ht36_w2b (c_xcheck (gif_some hx_2 hg2_6_3)) ⟨le_of_eq ((ls rfl lz).trans (pif_pos hg2_6_3)), le_of_eq (lz.trans (pif_pos hg2_6_3)), trivial⟩) ?_
  refine rtg _ rfl (ls rfl (ls rfl (ls rfl lz))) (fun hg2_7_4 => opD_bin (lz.trans (pif_pos hg2_7_4)) (ev_const _ _) (fun w => errV_guard _ w _) (fun w => errV_beq _ w)) ?_
  refine rts _ rfl (opD_or (ls rfl (ls rfl (ls rfl (ls rfl lz)))) lz) ?_
  refine .nil ?_
  refine aw_keep [(2, _), (7, _), (8, _), (34, _)] ⟨lg (ls rfl (ls rfl (ls rfl (ls rfl (ls rfl (ls rfl (ls rfl (ls rfl (ls rfl (os rfl oz)))))))))), lg (ls rfl (ls rfl (ls rfl (ls rfl (ls rfl (ls rfl (ls rfl (ls rfl (ls rfl (os rfl (os rfl oz))))))))))), lg (ls rfl (ls rfl (ls rfl (ls rfl (ls rfl (ls rfl (ls rfl (ls rfl (ls rfl (os rfl (os rfl (os rfl oz)))))))))))), lg lz, trivial⟩ ?_
  refine aw_cond _ (os rfl (os rfl (os rfl oz))) (fun hc => ?_) (fun hc => ?_)
  · skip
    replace h0 := ifb_t h0 hc
    clear hc
    refine aw_seq ?_
    refine aw_region (by decide) ?_
    replace h0 := bnd_some h0
    obtain ⟨x_3, hx_3, h0⟩ := h0
    refine rts _ rfl (opD_call ht26_w2b (c_sure16 hx_3 hst) trivial) ?_
    refine rts _ rfl (opD_assign lz) ?_
    refine .nil ?_
    refine aw_keep [(6, _)] ⟨lg lz, trivial⟩ ?_
    refine aw_ret ?_
    obtain rfl := some_of h0
    exact done_ext (.inr rfl) ((res_one rfl (it_tmp oz)).le (Pd.le_refl _)) (pl_bnd _ _ _)
  · skip
    replace h0 := ifb_f h0 hc
    clear hc
    refine aw_skip ?_
    refine aw_keep [(2, _), (7, _), (8, _)] ⟨lg oz, lg (os rfl oz), lg (os rfl (os rfl oz)), trivial⟩ ?_
    refine aw_seq ?_
    refine aw_region (by decide) ?_
    refine rts _ rfl (opD_move (os rfl oz)) ?_
    replace h0 := bnd_some h0
    obtain ⟨x_4, hx_4, h0⟩ := h0
    refine rts _ rfl (opD_pure ht39_w2b (c_xMany hx_4) ⟨le_of_eq lz, trivial⟩) ?_
    refine rts _ rfl (opD_assign lz) ?_
    refine .nil ?_
    refine aw_keep [(2, _), (7, _), (8, _), (9, _)] ⟨lg (ls rfl (ls rfl (ls rfl oz))), lg (ls rfl (ls rfl (ls rfl (os rfl oz)))), lg (ls rfl (ls rfl (ls rfl (os rfl (os rfl oz))))), lg lz, trivial⟩ ?_
    refine aw_seq ?_
    refine aw_seq ?_
    refine aw_region (by decide) ?_
    refine rts _ rfl (opD_assign (ev_const _ _)) ?_
    refine .nil ?_
    refine aw_keep [(2, _), (7, _), (8, _), (9, _), (10, _)] ⟨lg (ls rfl oz), lg (ls rfl (os rfl oz)), lg (ls rfl (os rfl (os rfl oz))), lg (ls rfl (os rfl (os rfl (os rfl oz)))), lg lz, trivial⟩ ?_
    replace h0 := bnd_some h0
    obtain ⟨z_5, hz_5, h0⟩ := h0
    refine aw_mid (fun e st => ∃ v : Unit, Holds e [(2, pl (.int .u16 p2)), (7, sl kStx none none x_1), (8, pl (.int .i64 (IntKind.i64.wrap (1 + (IntKind.i64.wrap (p1)))))), (9, pl (.int .i64 x_4))] ∧ st = s.ext [] [] ∧ (.inr v) = z_5) ?_ ?_
    · skip
      refine aw_wkN rfl 0 0 rfl rfl ?_
      refine aw_block ?_
      refine aw_loop (fun n e st => ∃ v : Int, Holds e [(2, pl (.int .u16 p2)), (7, sl kStx none none x_1), (8, pl (.int .i64 (IntKind.i64.wrap (1 + (IntKind.i64.wrap (p1)))))), (9, pl (.int .i64 x_4)), (10, pl (.int .i64 v))] ∧ st = s.ext [] [] ∧ lp (F_lExtentBack_b0 fl p1 x_1 x_4) n v = some z_5) fl ⟨0, ⟨le_of_eq (eg oz), le_of_eq (eg (os rfl oz)), le_of_eq (eg (os rfl (os rfl oz))), le_of_eq (eg (os rfl (os rfl (os rfl oz)))), le_of_eq (eg (os rfl (os rfl (os rfl (os rfl oz))))), trivial⟩, rfl, hz_5⟩ ?_
      rintro n e st ⟨t_6, hH, rfl, hz_5⟩
      replace hz_5 := lp_some hz_5
      obtain ⟨m_z_7, z_7, rfl, hz_7, hz_5⟩ := hz_5
      unfold F_lExtentBack_b0 at hz_7
      refine aw_keep _ hH ?_
      refine aw_wkN rfl 0 0 rfl rfl ?_
      refine aw_seq ?_
      refine aw_seq ?_
      refine aw_region (by decide) ?_
      refine rts _ rfl (opD_move (os rfl (os rfl (os rfl (os rfl oz))))) ?_
      refine rts _ rfl (opD_move (ls rfl (os rfl (os rfl (os rfl oz))))) ?_
      refine rts _ rfl (opD_lss (ls rfl lz) lz) ?_
      refine rts _ rfl (opD_move lz) ?_
      refine rtg _ rfl lz (fun hg6_4_41 => opD_move (ls rfl (ls rfl (ls rfl (ls rfl (os rfl (os rfl (os rfl (os rfl oz))))))))) ?_
      refine rtg _ rfl (ls rfl lz) (fun hg6_5_42 => opD_lss (lz.trans (pif_pos hg6_5_42)) (ev_const _ _)) ?_
      refine rts _ rfl (opD_and (ls rfl (ls rfl lz)) lz) ?_
      refine .nil ?_
      refine aw_keep [(2, _), (7, _), (8, _), (9, _), (10, _), (44, _)] ⟨lg (ls rfl (ls rfl (ls rfl (ls rfl (ls rfl (ls rfl (ls rfl oz))))))), lg (ls rfl (ls rfl (ls rfl (ls rfl (ls rfl (ls rfl (ls rfl (os rfl oz)))))))), lg (ls rfl (ls rfl (ls rfl (ls rfl (ls rfl (ls rfl (ls rfl (os rfl (os rfl oz))))))))), lg (ls rfl (ls rfl (ls rfl (ls rfl (ls rfl (ls rfl (ls rfl (os rfl (os rfl (os rfl oz)))))))))), lg (ls rfl (ls rfl (ls rfl (ls rfl (ls rfl (ls rfl (ls rfl (os rfl (os rfl (os rfl (os rfl oz))))))))))), lg lz, trivial⟩ ?_
      refine aw_cond _ (os rfl (os rfl (os rfl (os rfl (os rfl oz))))) (fun hc => ?_) (fun hc => ?_)
      · skip
        replace hz_7 := ifb_t hz_7 hc
        clear hc
        refine aw_skip ?_
        refine aw_keep [(2, _), (7, _), (8, _), (9, _), (10, _)] ⟨lg oz, lg (os rfl oz), lg (os rfl (os rfl oz)), lg (os rfl (os rfl (os rfl oz))), lg (os rfl (os rfl (os rfl (os rfl oz)))), trivial⟩ ?_
        refine aw_seq ?_
        refine aw_block ?_
        refine aw_seq ?_
        refine aw_region (by decide) ?_
        refine rts _ rfl (opD_move (os rfl oz)) ?_
        refine rts _ rfl (opD_move (ls rfl (os rfl (os rfl (os rfl (os rfl oz)))))) ?_
        replace hz_7 := bnd_some hz_7
        obtain ⟨x_8, hx_8, hz_7⟩ := hz_7
        refine rts _ rfl (opD_pure ht28_w2b (c_xPage hx_8) ⟨le_of_eq (ls rfl lz), le_of_eq lz, trivial⟩) ?_
        refine rts _ rfl (opD_move lz) ?_
        refine rts _ rfl (opD_extract lz rfl) ?_
        refine rts _ rfl (opD_extract (ls rfl lz) rfl) ?_
        refine rts _ rfl (opD_assign (ls rfl lz)) ?_
        refine rts _ rfl (opD_assign (ls rfl lz)) ?_
        refine .nil ?_
        refine aw_keep [(2, _), (7, _), (8, _), (9, _), (10, _), (11, _), (12, _)] ⟨lg (ls rfl (ls rfl (ls rfl (ls rfl (ls rfl (ls rfl (ls rfl (ls rfl oz)))))))), lg (ls rfl (ls rfl (ls rfl (ls rfl (ls rfl (ls rfl (ls rfl (ls rfl (os rfl oz))))))))), lg (ls rfl (ls rfl (ls rfl (ls rfl (ls rfl (ls rfl (ls rfl (ls rfl (os rfl (os rfl oz)))))))))), lg (ls rfl (ls rfl (ls rfl (ls rfl (ls rfl (ls rfl (ls rfl (ls rfl (os rfl (os rfl (os rfl oz))))))))))), lg (ls rfl (ls rfl (ls rfl (ls rfl (ls rfl (ls rfl (ls rfl (ls rfl (os rfl (os rfl (os rfl (os rfl oz)))))))))))), lg (ls rfl lz), lg lz, trivial⟩ ?_
        refine aw_seq ?_
        refine aw_region (by decide) ?_
        refine rts _ rfl (opD_move (os rfl oz)) ?_
        refine rts _ rfl (opD_move (ls rfl (os rfl (os rfl (os rfl (os rfl (os rfl oz))))))) ?_
        replace hz_7 := bnd_some hz_7
        obtain ⟨x_9, hx_9, hz_7⟩ := hz_7
        refine rts _ rfl (opD_pure ht30_w2b (c_xNumber hx_9) ⟨le_of_eq (ls rfl lz), le_of_eq lz, trivial⟩) ?_
        refine rts _ rfl (opD_move lz) ?_
        refine rts _ rfl (opD_extract lz rfl) ?_
        refine rts _ rfl (opD_extract (ls rfl lz) rfl) ?_
        refine rts _ rfl (opD_assign (ls rfl lz)) ?_
        refine rts _ rfl (opD_assign (ls rfl lz)) ?_
        refine .nil ?_
        refine aw_keep [(2, _), (7, _), (8, _), (9, _), (10, _), (11, _), (12, _), (13, _), (14, _)] ⟨lg (ls rfl (ls rfl (ls rfl (ls rfl (ls rfl (ls rfl (ls rfl (ls rfl oz)))))))), lg (ls rfl (ls rfl (ls rfl (ls rfl (ls rfl (ls rfl (ls rfl (ls rfl (os rfl oz))))))))), lg (ls rfl (ls rfl (ls rfl (ls rfl (ls rfl (ls rfl (ls rfl (ls rfl (os rfl (os rfl oz)))))))))), lg (ls rfl (ls rfl (ls rfl (ls rfl (ls rfl (ls rfl (ls rfl (ls rfl (os rfl (os rfl (os rfl oz))))))))))), lg (ls rfl (ls rfl (ls rfl (ls rfl (ls rfl (ls rfl (ls rfl (ls rfl (os rfl (os rfl (os rfl (os rfl oz)))))))))))), lg (ls rfl (ls rfl (ls rfl (ls rfl (ls rfl (ls rfl (ls rfl (ls rfl (os rfl (os rfl (os rfl (os rfl (os rfl oz))))))))))))), lg (ls rfl (ls rfl (ls rfl (ls rfl (ls rfl (ls rfl (ls rfl (ls rfl (os rfl (os rfl (os rfl (os rfl (os rfl (os rfl oz)))))))))))))), lg (ls rfl lz), lg lz, trivial⟩ ?_
        refine aw_seq ?_
        refine aw_region (by decide) ?_
        refine rts _ rfl (opD_move (os rfl (os rfl (os rfl (os rfl (os rfl (os rfl oz))))))) ?_
        refine rts _ rfl (opD_bin lz (ev_const _ _) (fun w => errV_guard _ w _) (fun w => errV_beq _ w)) ?_
        refine rts _ rfl (opD_move lz) ?_
        refine rtg _ rfl lz (fun hg10_3_43 => opD_move (ls rfl (ls rfl (ls rfl (os rfl (os rfl (os rfl (os rfl (os rfl (os rfl (os rfl (os rfl oz)))))))))))) ?_
        refine rtg _ rfl (ls rfl lz) (fun hg10_4_44 => opD_bin (lz.trans (pif_pos hg10_4_44)) (ev_const _ _) (fun w => errV_guard _ w _) (fun w => errV_beq _ w)) ?_
        refine rts _ rfl (opD_or (ls rfl (ls rfl lz)) lz) ?_
        refine rts _ rfl (opD_move lz) ?_
        refine rtg _ rfl lz (fun hg10_7_45 => opD_move (ls rfl (ls rfl (ls rfl (ls rfl (ls rfl (ls rfl (ls rfl (os rfl (os rfl (os rfl (os rfl (os rfl (os rfl (os rfl oz))))))))))))))) ?_
        refine rtg _ rfl (ls rfl lz) (fun hg10_8_46 => opD_move (ls rfl (ls rfl (ls rfl (ls rfl (ls rfl (ls rfl (ls rfl (ls rfl (os rfl (os rfl (os rfl (os rfl oz))))))))))))) ?_
        refine rtg _ rfl (ls rfl (ls rfl lz)) (fun hg10_9_47 => opD_neq ((ls rfl lz).trans (pif_pos hg10_9_47)) (lz.trans (pif_pos hg10_9_47))) ?_
        refine rts _ rfl (opD_or (ls rfl (ls rfl (ls rfl lz))) lz) ?_
        refine rts _ rfl (opD_move lz) ?_
        refine rtg _ rfl lz (fun hg10_12_48 => opD_move (ls rfl (ls rfl (ls rfl (ls rfl (ls rfl (ls rfl (ls rfl (ls rfl (ls rfl (ls rfl (ls rfl (ls rfl (os rfl (os rfl (os rfl (os rfl (os rfl oz)))))))))))))))))) ?_
        refine rtg _ rfl (ls rfl lz) (fun hg10_13_49 => opD_lss (lz.trans (pif_pos hg10_13_49)) (ev_const _ _)) ?_
        refine rts _ rfl (opD_or (ls rfl (ls rfl lz)) lz) ?_
        refine rts _ rfl (opD_move lz) ?_
        refine rtg _ rfl lz (fun hg10_16_50 => opD_move (ls rfl (ls rfl (ls rfl (ls rfl (ls rfl (ls rfl (ls rfl (ls rfl (ls rfl (ls rfl (ls rfl (ls rfl (ls rfl (ls rfl (ls rfl (ls rfl (os rfl (os rfl (os rfl (os rfl (os rfl oz)))))))))))))))))))))) ?_
        refine rtg _ rfl (ls rfl lz) (fun hg10_17_51 => opD_move (ls rfl (ls rfl (ls rfl (ls rfl (ls rfl (ls rfl (ls rfl (ls rfl (ls rfl (ls rfl (ls rfl (ls rfl (ls rfl (ls rfl (ls rfl (ls rfl (ls rfl (os rfl (os rfl oz)))))))))))))))))))) ?_
        refine rtg _ rfl (ls rfl (ls rfl lz)) (fun hg10_18_52 => opD_geq ((ls rfl lz).trans (pif_pos hg10_18_52)) (lz.trans (pif_pos hg10_18_52))) ?_
        refine rts _ rfl (opD_or (ls rfl (ls rfl (ls rfl lz))) lz) ?_
        refine .nil ?_
        refine aw_keep [(2, _), (7, _), (8, _), (9, _), (10, _), (78, _)] ⟨lg (ls rfl (ls rfl (ls rfl (ls rfl (ls rfl (ls rfl (ls rfl (ls rfl (ls rfl (ls rfl (ls rfl (ls rfl (ls rfl (ls rfl (ls rfl (ls rfl (ls rfl (ls rfl (ls rfl (ls rfl oz)))))))))))))))))))), lg (ls rfl (ls rfl (ls rfl (ls rfl (ls rfl (ls rfl (ls rfl (ls rfl (ls rfl (ls rfl (ls rfl (ls rfl (ls rfl (ls rfl (ls rfl (ls rfl (ls rfl (ls rfl (ls rfl (ls rfl (os rfl oz))))))))))))))))))))), lg (ls rfl (ls rfl (ls rfl (ls rfl (ls rfl (ls rfl (ls rfl (ls rfl (ls rfl (ls rfl (ls rfl (ls rfl (ls rfl (ls rfl (ls rfl (ls rfl (ls rfl (ls rfl (ls rfl (ls rfl (os rfl (os rfl oz)))))))))))))))))))))), lg (ls rfl (ls rfl (ls rfl (ls rfl (ls rfl (ls rfl (ls rfl (ls rfl (ls rfl (ls rfl (ls rfl (ls rfl (ls rfl (ls rfl (ls rfl (ls rfl (ls rfl (ls rfl (ls rfl (ls rfl (os rfl (os rfl (os rfl oz))))))))))))))))))))))), lg (ls rfl (ls rfl (ls rfl (ls rfl (ls rfl (ls rfl (ls rfl (ls rfl (ls rfl (ls rfl (ls rfl (ls rfl (ls rfl (ls rfl (ls rfl (ls rfl (ls rfl (ls rfl (ls rfl (ls rfl (os rfl (os rfl (os rfl (os rfl oz)))))))))))))))))))))))), lg lz, trivial⟩ ?_
        refine aw_cond _ (os rfl (os rfl (os rfl (os rfl (os rfl oz))))) (fun hc => ?_) (fun hc => ?_)
        · skip
          replace hz_7 := ifb_t hz_7 hc
          clear hc
          refine aw_seq ?_
          refine aw_region (by decide) ?_
          refine rts _ rfl (opD_assign (ev_const _ _)) ?_
          refine .nil ?_
          refine aw_keep [(6, _)] ⟨lg lz, trivial⟩ ?_
          refine aw_ret ?_
          obtain rfl := some_of hz_7
          replace hz_5 := ocs_r hz_5
          obtain rfl := some_of hz_5
          replace h0 := ocs_l h0
          refine wk_no ?_
          refine wk_no ?_
          obtain rfl := some_of h0
          exact done_ext (.inr rfl) ((res_one rfl (it_tmp oz)).le (Pd.le_refl _)) (pl_bnd _ _ _)
        · skip
          replace hz_7 := ifb_f hz_7 hc
          clear hc
          refine aw_skip ?_
          refine aw_keep [(2, _), (7, _), (8, _), (9, _), (10, _)] ⟨lg oz, lg (os rfl oz), lg (os rfl (os rfl oz)), lg (os rfl (os rfl (os rfl oz))), lg (os rfl (os rfl (os rfl (os rfl oz)))), trivial⟩ ?_
          refine aw_region (by decide) ?_
          refine rts _ rfl (opD_move (os rfl (os rfl (os rfl (os rfl oz))))) ?_
          refine rts _ rfl (opD_add lz (ev_const _ _) rfl) ?_
          refine rts _ rfl (opD_assign lz) ?_
          refine .nil ?_
          obtain rfl := some_of hz_7
          replace hz_5 := ocs_l hz_5
          refine wk_yesN rfl (l := [(2, pl (.int .u16 p2)), (7, sl kStx none none x_1), (8, pl (.int .i64 (IntKind.i64.wrap (1 + (IntKind.i64.wrap (p1)))))), (9, pl (.int .i64 x_4)), (10, pl (.int .i64 (IntKind.i64.wrap (t_6 + 1))))]) (bs' := []) ⟨le_of_eq (eg (ls rfl (ls rfl (ls rfl oz)))), le_of_eq (eg (ls rfl (ls rfl (ls rfl (os rfl oz))))), le_of_eq (eg (ls rfl (ls rfl (ls rfl (os rfl (os rfl oz)))))), le_of_eq (eg (ls rfl (ls rfl (ls rfl (os rfl (os rfl (os rfl oz))))))), le_of_eq (eg lz), trivial⟩ (bnd_cons (pl_bnd _ _ _) (bnd_cons (sl_b kb_Stx) (bnd_cons (pl_bnd _ _ _) (bnd_cons (pl_bnd _ _ _) (bnd_cons (pl_bnd _ _ _) bnd_nil))))) (Nat.le_of_ble_eq_true rfl) (by simp only [na, nb, nc, nd, nf, ng, nh, ni, nj, nk] <;> rfl) bxle_nil rfl (by simp only [na, nb, nc, nd, nf, ng, nh, ni, nj, nk] <;> rfl) bl_nil ?_
          exact ⟨m_z_7, Nat.lt_succ_self _, IntKind.i64.wrap (t_6 + 1), ⟨le_of_eq (eg oz), le_of_eq (eg (os rfl oz)), le_of_eq (eg (os rfl (os rfl oz))), le_of_eq (eg (os rfl (os rfl (os rfl oz)))), le_of_eq (eg (os rfl (os rfl (os rfl (os rfl oz))))), trivial⟩, rfl, hz_5⟩
      · skip
        replace hz_7 := ifb_f hz_7 hc
        clear hc
        refine aw_exit ?_
        obtain rfl := some_of hz_7
        replace hz_5 := ocs_r hz_5
        refine wk_no ?_
        refine wk_yesN rfl (l := [(2, pl (.int .u16 p2)), (7, sl kStx none none x_1), (8, pl (.int .i64 (IntKind.i64.wrap (1 + (IntKind.i64.wrap (p1)))))), (9, pl (.int .i64 x_4))]) (bs' := []) ⟨le_of_eq (eg oz), le_of_eq (eg (os rfl oz)), le_of_eq (eg (os rfl (os rfl oz))), le_of_eq (eg (os rfl (os rfl (os rfl oz)))), trivial⟩ (bnd_cons (pl_bnd _ _ _) (bnd_cons (sl_b kb_Stx) (bnd_cons (pl_bnd _ _ _) (bnd_cons (pl_bnd _ _ _) bnd_nil)))) (Nat.le_of_ble_eq_true rfl) (by simp only [na, nb, nc, nd, nf, ng, nh, ni, nj, nk] <;> rfl) bxle_nil rfl (by simp only [na, nb, nc, nd, nf, ng, nh, ni, nj, nk] <;> rfl) bl_nil ?_
        exact ⟨(), ⟨le_of_eq (eg oz), le_of_eq (eg (os rfl oz)), le_of_eq (eg (os rfl (os rfl oz))), le_of_eq (eg (os rfl (os rfl (os rfl oz)))), trivial⟩, rfl, some_of hz_5⟩
    · rintro e st ⟨vz_5, hH, rfl, rfl⟩
      refine aw_keep _ hH ?_
      replace h0 := ocs_r h0
      refine aw_keep [(2, _), (7, _), (8, _), (9, _)] ⟨lg oz, lg (os rfl oz), lg (os rfl (os rfl oz)), lg (os rfl (os rfl (os rfl oz))), trivial⟩ ?_
      refine aw_seq ?_
      refine aw_region (by decide) ?_
      refine rts _ rfl (opD_move (os rfl oz)) ?_
      refine rts _ rfl (opD_move (ls rfl (os rfl (os rfl oz)))) ?_
      replace h0 := bnd_some h0
      obtain ⟨x_10, hx_10, h0⟩ := h0
      refine rts _ rfl (opD_pure ht32_w2b (c_xFree hx_10) ⟨le_of_eq (ls rfl lz), le_of_eq lz, trivial⟩) ?_
      refine rts _ rfl (opD_move lz) ?_
      refine rts _ rfl (opD_extract lz rfl) ?_
      refine rts _ rfl (opD_extract (ls rfl lz) rfl) ?_
      refine rts _ rfl (opD_assign (ls rfl lz)) ?_
      refine rts _ rfl (opD_assign (ls rfl lz)) ?_
      refine .nil ?_
      refine aw_keep [(2, _), (7, _), (8, _), (9, _), (15, _), (16, _)] ⟨lg (ls rfl (ls rfl (ls rfl (ls rfl (ls rfl (ls rfl (ls rfl (ls rfl oz)))))))), lg (ls rfl (ls rfl (ls rfl (ls rfl (ls rfl (ls rfl (ls rfl (ls rfl (os rfl oz))))))))), lg (ls rfl (ls rfl (ls rfl (ls rfl (ls rfl (ls rfl (ls rfl (ls rfl (os rfl (os rfl oz)))))))))), lg (ls rfl (ls rfl (ls rfl (ls rfl (ls rfl (ls rfl (ls rfl (ls rfl (os rfl (os rfl (os rfl oz))))))))))), lg (ls rfl lz), lg lz, trivial⟩ ?_
      refine aw_seq ?_
      refine aw_seq ?_
      refine aw_region (by decide) ?_
      refine rts _ rfl (opD_move (os rfl (os rfl (os rfl (os rfl (os rfl oz)))))) ?_
      refine rts _ rfl (opD_bin lz (ev_const _ _) (fun w => errV_guard _ w _) (fun w => errV_beq _ w)) ?_
      refine rts _ rfl (opD_move lz) ?_
      refine rt_cases 87 (eg lz) (fun hc => ?_) (fun hc => ?_)
      · skip
        replace h0 := ifb_t h0 hc
        clear hc
        refine rtk ⟨_, rfl, .inl ⟨_, eg lz, rfl⟩⟩ ?_
        refine rtk ⟨_, rfl, .inl ⟨_, eg (ls rfl lz), rfl⟩⟩ ?_
        refine rtk ⟨_, rfl, .inl ⟨_, eg (ls rfl (ls rfl lz)), rfl⟩⟩ ?_
        refine rtk ⟨_, rfl, .inl ⟨_, eg (ls rfl (ls rfl (ls rfl lz))), rfl⟩⟩ ?_
        refine rtk ⟨_, rfl, .inl ⟨_, eg (ls rfl (ls rfl (ls rfl (ls rfl lz)))), rfl⟩⟩ ?_
        refine rtk ⟨_, rfl, .inl ⟨_, eg (ls rfl (ls rfl (ls rfl (ls rfl (ls rfl lz))))), rfl⟩⟩ ?_
        refine rtk ⟨_, rfl, .inl ⟨_, eg (ls rfl (ls rfl (ls rfl (ls rfl (ls rfl (ls rfl lz)))))), rfl⟩⟩ ?_
        refine rtk ⟨_, rfl, .inl ⟨_, eg (ls rfl (ls rfl (ls rfl (ls rfl (ls rfl (ls rfl (ls rfl lz))))))), rfl⟩⟩ ?_
        refine rts _ rfl (opD_pickT (ls rfl (ls rfl (ls rfl (ls rfl (ls rfl (ls rfl (ls rfl (ls rfl lz)))))))) (ev_const _ _)) ?_
        refine rts _ rfl (opD_move lz) ?_
        refine rtk ⟨_, rfl, .inl ⟨_, eg lz, rfl⟩⟩ ?_
        refine rtk ⟨_, rfl, .inl ⟨_, eg (ls rfl lz), rfl⟩⟩ ?_
        refine rtk ⟨_, rfl, .inl ⟨_, eg (ls rfl (ls rfl lz)), rfl⟩⟩ ?_
        refine rtk ⟨_, rfl, .inl ⟨_, eg (ls rfl (ls rfl (ls rfl lz))), rfl⟩⟩ ?_
        refine rtk ⟨_, rfl, .inl ⟨_, eg (ls rfl (ls rfl (ls rfl (ls rfl lz)))), rfl⟩⟩ ?_
        refine rtk ⟨_, rfl, .inl ⟨_, eg (ls rfl (ls rfl (ls rfl (ls rfl (ls rfl lz))))), rfl⟩⟩ ?_
        refine rts _ rfl (opD_pickT (ls rfl (ls rfl (ls rfl (ls rfl (ls rfl (ls rfl lz)))))) (ev_const _ _)) ?_
        refine .nil ?_
        refine aw_keep [(2, _), (8, _), (15, _), (104, _)] ⟨lg (ls rfl (ls rfl (ls rfl (ls rfl (ls rfl (ls rfl (ls rfl (ls rfl (ls rfl (ls rfl (ls rfl (ls rfl (ls rfl (ls rfl (ls rfl (ls rfl (ls rfl (ls rfl (ls rfl (ls rfl (ls rfl oz))))))))))))))))))))), lg (ls rfl (ls rfl (ls rfl (ls rfl (ls rfl (ls rfl (ls rfl (ls rfl (ls rfl (ls rfl (ls rfl (ls rfl (ls rfl (ls rfl (ls rfl (ls rfl (ls rfl (ls rfl (ls rfl (ls rfl (ls rfl (os rfl (os rfl oz))))))))))))))))))))))), lg (ls rfl (ls rfl (ls rfl (ls rfl (ls rfl (ls rfl (ls rfl (ls rfl (ls rfl (ls rfl (ls rfl (ls rfl (ls rfl (ls rfl (ls rfl (ls rfl (ls rfl (ls rfl (ls rfl (ls rfl (ls rfl (os rfl (os rfl (os rfl (os rfl oz))))))))))))))))))))))))), lg lz, trivial⟩ ?_
        refine aw_cond _ (os rfl (os rfl (os rfl oz))) (fun hc => ?_) (fun hc => ?_)
        · skip
          refine aw_seq ?_
          refine aw_region (by decide) ?_
          refine rts _ rfl (opD_assign (ev_const _ _)) ?_
          refine .nil ?_
          refine aw_keep [(6, _)] ⟨lg lz, trivial⟩ ?_
          refine aw_ret ?_
          obtain rfl := some_of h0
          exact done_ext (.inr rfl) ((res_one rfl (it_tmp oz)).le (Pd.le_refl _)) (pl_bnd _ _ _)
        · skip
          cases hc
      · skip
        replace h0 := ifb_f h0 hc
        clear hc
        refine rts _ ⟨_, rfl, .inl ⟨_, eg lz, rfl⟩⟩ (opD_buildEmpty (k := kStx) Go.Proofs.Tryd.underlying48 sz137_w2b zt137_w2b rfl (by first | exact List.length_nil | (simp only [List.length_cons, List.length_nil, Nat.zero_add, Nat.reduceAdd] <;> rfl)) (by simp only [na, nb, nc, nd, nf, ng, nh, ni, nj, nk] <;> rfl)) ?_
        refine rts _ ⟨_, rfl, .inl ⟨_, eg (ls rfl lz), rfl⟩⟩ (opD_move (ls rfl (ls rfl (ls rfl (ls rfl (ls rfl (os rfl (os rfl (os rfl (os rfl oz)))))))))) ?_
        replace h0 := grd_some h0
        obtain ⟨hg_53, h0⟩ := h0
        refine rts _ ⟨_, rfl, .inl ⟨_, eg (ls rfl (ls rfl lz)), rfl⟩⟩ (opD_appendX Go.Proofs.Tryd.underlying48 el137_w2b (ls rfl lz) lz rfl hg_53.1 hg_53.2 (List.nil_append _) (by simp only [na, nb, nc, nd, nf, ng, nh, ni, nj, nk] <;> rfl)) ?_
        refine rts _ ⟨_, rfl, .inl ⟨_, eg (ls rfl (ls rfl (ls rfl lz))), rfl⟩⟩ (opD_move (ls rfl (ls rfl (ls rfl (ls rfl (ls rfl (ls rfl (ls rfl (os rfl oz))))))))) ?_
        replace h0 := grd_some h0
        obtain ⟨hg_54, h0⟩ := h0
        refine rts _ ⟨_, rfl, .inl ⟨_, eg (ls rfl (ls rfl (ls rfl (ls rfl lz)))), rfl⟩⟩ (opD_appendX Go.Proofs.Tryd.underlying48 el137_w2b (ls rfl lz) lz rfl hg_54.1 hg_54.2 rfl (by simp only [na, nb, nc, nd, nf, ng, nh, ni, nj, nk] <;> rfl)) ?_
        refine rts _ ⟨_, rfl, .inl ⟨_, eg (ls rfl (ls rfl (ls rfl (ls rfl (ls rfl lz))))), rfl⟩⟩ (opD_move (ls rfl (ls rfl (ls rfl (ls rfl (ls rfl (ls rfl (ls rfl (ls rfl (ls rfl (os rfl (os rfl oz)))))))))))) ?_
        replace h0 := bnd_some h0
        obtain ⟨x_11, hx_11, h0⟩ := h0
        refine rts _ ⟨_, rfl, .inl ⟨_, eg (ls rfl (ls rfl (ls rfl (ls rfl (ls rfl (ls rfl lz)))))), rfl⟩⟩ (opD_pure ht36_w2b (c_xcheck hx_11) ⟨(le_of_eq (ls rfl lz)).trans (sl_any _ _ _ _), le_of_eq lz, trivial⟩) ?_
        refine rts _ ⟨_, rfl, .inl ⟨_, eg (ls rfl (ls rfl (ls rfl (ls rfl (ls rfl (ls rfl (ls rfl lz))))))), rfl⟩⟩ (opD_bin lz (ev_const _ _) (fun w => errV_guard _ w _) (fun w => errV_beq _ w)) ?_
        refine rts _ rfl (opD_pickF (ls rfl (ls rfl (ls rfl (ls rfl (ls rfl (ls rfl (ls rfl (ls rfl lz)))))))) lz) ?_
        refine rts _ rfl (opD_move lz) ?_
        refine rtg _ rfl lz (fun hg13_13_55 => opD_move (ls rfl (ls rfl (ls rfl (ls rfl (ls rfl (ls rfl (ls rfl (ls rfl (ls rfl (ls rfl (ls rfl (ls rfl (ls rfl (ls rfl (os rfl (os rfl (os rfl (os rfl oz))))))))))))))))))) ?_
        replace h0 := bnd_some h0
        obtain ⟨x_12, hx_12, h0⟩ := h0
        refine rtg _ rfl (ls rfl lz) (fun hg13_14_56 => opD_pure ht39_w2b (c_xMany (gif_some hx_12 hg13_14_56)) ⟨le_of_eq (lz.trans (pif_pos hg13_14_56)), trivial⟩) ?_
        refine rtg _ rfl (ls rfl (ls rfl lz)) (fun hg13_15_57 => opD_move (ls rfl (ls rfl (ls rfl (ls rfl (ls rfl (ls rfl (ls rfl (ls rfl (ls rfl (ls rfl (ls rfl (ls rfl (ls rfl (ls rfl (ls rfl (ls rfl (os rfl (os rfl (os rfl oz)))))))))))))))))))) ?_
        refine rtg _ rfl (ls rfl (ls rfl (ls rfl lz))) (fun hg13_16_58 => opD_add ((ls rfl lz).trans (pif_pos hg13_16_58)) (lz.trans (pif_pos hg13_16_58)) rfl) ?_
        refine rtg _ rfl (ls rfl (ls rfl (ls rfl (ls rfl lz)))) (fun hg13_17_59 => opD_move (ls rfl (ls rfl (ls rfl (ls rfl (ls rfl (ls rfl (ls rfl (ls rfl (ls rfl (ls rfl (ls rfl (ls rfl (ls rfl (ls rfl (ls rfl (ls rfl (ls rfl (ls rfl (os rfl (os rfl oz))))))))))))))))))))) ?_
        refine rtg _ rfl (ls rfl (ls rfl (ls rfl (ls rfl (ls rfl lz))))) (fun hg13_18_60 => opD_neq ((ls rfl lz).trans (pif_pos hg13_18_60)) (lz.trans (pif_pos hg13_18_60))) ?_
        refine rts _ rfl (opD_or (ls rfl (ls rfl (ls rfl (ls rfl (ls rfl (ls rfl lz)))))) lz) ?_
        refine .nil ?_
        refine aw_keep [(2, _), (8, _), (15, _), (104, _)] ⟨lg (ls rfl (ls rfl (ls rfl (ls rfl (ls rfl (ls rfl (ls rfl (ls rfl (ls rfl (ls rfl (ls rfl (ls rfl (ls rfl (ls rfl (ls rfl (ls rfl (ls rfl (ls rfl (ls rfl (ls rfl (ls rfl oz))))))))))))))))))))), lg (ls rfl (ls rfl (ls rfl (ls rfl (ls rfl (ls rfl (ls rfl (ls rfl (ls rfl (ls rfl (ls rfl (ls rfl (ls rfl (ls rfl (ls rfl (ls rfl (ls rfl (ls rfl (ls rfl (ls rfl (ls rfl (os rfl (os rfl oz))))))))))))))))))))))), lg (ls rfl (ls rfl (ls rfl (ls rfl (ls rfl (ls rfl (ls rfl (ls rfl (ls rfl (ls rfl (ls rfl (ls rfl (ls rfl (ls rfl (ls rfl (ls rfl (ls rfl (ls rfl (ls rfl (ls rfl (ls rfl (os rfl (os rfl (os rfl (os rfl oz))))))))))))))))))))))))), lg lz, trivial⟩ ?_
        refine aw_cond _ (os rfl (os rfl (os rfl oz))) (fun hc => ?_) (fun hc => ?_)
        · skip
          replace h0 := ifb_t h0 hc
          clear hc
          refine aw_seq ?_
          refine aw_region (by decide) ?_
          refine rts _ rfl (opD_assign (ev_const _ _)) ?_
          refine .nil ?_
          refine aw_keep [(6, _)] ⟨lg lz, trivial⟩ ?_
          refine aw_ret ?_
          obtain rfl := some_of h0
          exact done_ext (.inr rfl) ((res_one rfl (it_tmp oz)).le (Pd.le_refl _)) (pl_bnd _ _ _)
        · skip
          replace h0 := ifb_f h0 hc
          clear hc
          refine aw_skip ?_
          refine aw_keep [(2, _), (8, _), (15, _)] ⟨lg oz, lg (os rfl oz), lg (os rfl (os rfl oz)), trivial⟩ ?_
          refine aw_seq ?_
          refine aw_region (by decide) ?_
          refine rts _ rfl (opD_move oz) ?_
          refine rts _ rfl (opD_conv_int Go.Proofs.Tryd.underlying68 Go.Proofs.Tryd.underlying3 lz rfl) ?_
          refine rts _ rfl (opD_move (ls rfl (ls rfl (os rfl oz)))) ?_
          refine rts _ rfl (opD_add lz (ev_const _ _) rfl) ?_
          replace h0 := grd_some h0
          obtain ⟨hg_61, h0⟩ := h0
          refine rts _ rfl (opD_rem (ls rfl (ls rfl lz)) lz hg_61 rfl) ?_
          refine rts _ rfl (opD_add (ev_const _ _) lz rfl) ?_
          refine rts _ rfl (opD_assign lz) ?_
          refine .nil ?_
          refine aw_keep [(8, _), (15, _), (17, _)] ⟨lg (ls rfl (ls rfl (ls rfl (ls rfl (ls rfl (ls rfl (ls rfl (os rfl oz)))))))), lg (ls rfl (ls rfl (ls rfl (ls rfl (ls rfl (ls rfl (ls rfl (os rfl (os rfl oz))))))))), lg lz, trivial⟩ ?_
          refine aw_seq ?_
          refine aw_region (by decide) ?_
          refine rts _ rfl (opD_move (os rfl oz)) ?_
          refine rts _ rfl (opD_move (ls rfl (os rfl (os rfl oz)))) ?_
          replace h0 := bnd_some h0
          obtain ⟨x_13, hx_13, h0⟩ := h0
          refine rts _ rfl (opD_pure ht34_w2b (c_xReserve hx_13) ⟨le_of_eq (ls rfl lz), le_of_eq lz, trivial⟩) ?_
          refine rts _ rfl (opD_move lz) ?_
          refine rts _ rfl (opD_extract lz rfl) ?_
          refine rts _ rfl (opD_extract (ls rfl lz) rfl) ?_
          refine rts _ rfl (opD_extract (ls rfl (ls rfl lz)) rfl) ?_
          refine rts _ rfl (opD_assign (ls rfl (ls rfl lz))) ?_
          refine rts _ rfl (opD_assign (ls rfl (ls rfl lz))) ?_
          refine rts _ rfl (opD_assign (ls rfl (ls rfl lz))) ?_
          refine .nil ?_
          refine aw_keep [(8, _), (15, _), (17, _), (18, _), (19, _), (20, _)] ⟨lg (ls rfl (ls rfl (ls rfl (ls rfl (ls rfl (ls rfl (ls rfl (ls rfl (ls rfl (ls rfl oz)))))))))), lg (ls rfl (ls rfl (ls rfl (ls rfl (ls rfl (ls rfl (ls rfl (ls rfl (ls rfl (ls rfl (os rfl oz))))))))))), lg (ls rfl (ls rfl (ls rfl (ls rfl (ls rfl (ls rfl (ls rfl (ls rfl (ls rfl (ls rfl (os rfl (os rfl oz)))))))))))), lg (ls rfl (ls rfl lz)), lg (ls rfl lz), lg lz, trivial⟩ ?_
          refine aw_seq ?_
          refine aw_seq ?_
          refine aw_region (by decide) ?_
          refine rts _ rfl (opD_move (os rfl (os rfl (os rfl (os rfl (os rfl oz)))))) ?_
          refine rts _ rfl (opD_bin lz (ev_const _ _) (fun w => errV_guard _ w _) (fun w => errV_beq _ w)) ?_
          refine .nil ?_
          refine aw_keep [(8, _), (15, _), (17, _), (18, _), (19, _), (20, _), (119, _)] ⟨lg (ls rfl (ls rfl oz)), lg (ls rfl (ls rfl (os rfl oz))), lg (ls rfl (ls rfl (os rfl (os rfl oz)))), lg (ls rfl (ls rfl (os rfl (os rfl (os rfl oz))))), lg (ls rfl (ls rfl (os rfl (os rfl (os rfl (os rfl oz)))))), lg (ls rfl (ls rfl (os rfl (os rfl (os rfl (os rfl (os rfl oz))))))), lg lz, trivial⟩ ?_
          refine aw_cond _ (os rfl (os rfl (os rfl (os rfl (os rfl (os rfl oz)))))) (fun hc => ?_) (fun hc => ?_)
          · skip
            replace h0 := ifb_t h0 hc
            clear hc
            refine aw_seq ?_
            refine aw_region (by decide) ?_
            refine rts _ rfl (opD_move (os rfl (os rfl (os rfl (os rfl (os rfl oz)))))) ?_
            replace h0 := bnd_some h0
            obtain ⟨x_14, hx_14, h0⟩ := h0
            refine rts _ rfl (opD_call ht38_w2b (c_num16 hx_14 hst) ⟨le_of_eq lz, trivial⟩) ?_
            refine rts _ rfl (opD_eql lz (ev_const _ _)) ?_
            refine rts _ rfl (opD_move lz) ?_
            refine rtg _ rfl lz (fun hg18_4_62 => opD_move (ls rfl (ls rfl (ls rfl (ls rfl (os rfl (os rfl oz))))))) ?_
            refine rtg _ rfl (ls rfl lz) (fun hg18_5_63 => opD_move (ls rfl (ls rfl (ls rfl (ls rfl (ls rfl (os rfl oz))))))) ?_
            replace h0 := bnd_some h0
            obtain ⟨x_15, hx_15, h0⟩ := h0
            refine rtg _ rfl (ls rfl (ls rfl lz)) (fun hg18_6_64 => opD_pure ht39_w2b (c_xMany (gif_some hx_15 hg18_6_64)) ⟨le_of_eq (lz.trans (pif_pos hg18_6_64)), trivial⟩) ?_
            refine rtg _ rfl (ls rfl (ls rfl (ls rfl lz))) (fun hg18_7_65 => opD_gtr ((ls rfl (ls rfl lz)).trans (pif_pos hg18_7_65)) (lz.trans (pif_pos hg18_7_65))) ?_
            refine rtg _ rfl (ls rfl (ls rfl (ls rfl (ls rfl lz)))) (fun hg18_8_66 => opD_move (lz.trans (pif_pos hg18_8_66))) ?_
            refine rtg2 _ rfl lz (fun hg18_9_67 => opD_move (ls rfl (ls rfl (ls rfl (ls rfl (ls rfl (ls rfl (ls rfl (ls rfl (ls rfl (os rfl oz))))))))))) ?_
            refine rtg2 _ rfl (ls rfl lz) (fun hg18_10_68 => opD_len_sl Go.Proofs.Tryd.underlying48 (lz.trans (pif_pos hg18_10_68))) ?_
            refine rtg2 _ rfl (ls rfl (ls rfl lz)) (fun hg18_11_69 => opD_gtr (lz.trans (pif_pos hg18_11_69)) (ev_const _ _)) ?_
            refine rtg _ rfl (ls rfl (ls rfl (ls rfl (ls rfl (ls rfl (ls rfl (ls rfl (ls rfl lz)))))))) (fun hg18_12_70 => opD_or ((ls rfl (ls rfl (ls rfl lz))).trans (pif_pos hg18_12_70)) (lz.trans (pif_and hg18_12_70))) ?_
            refine rts _ rfl (opD_and (ls rfl (ls rfl (ls rfl (ls rfl (ls rfl (ls rfl (ls rfl (ls rfl (ls rfl lz))))))))) lz) ?_
            refine rts _ rfl (opD_move lz) ?_
            replace h0 := bnd_some h0
            obtain ⟨x_16, hx_16, h0⟩ := h0
            refine rtg _ rfl lz (fun hg18_15_71 => opD_call ht26_w2b (c_sure16 (gif_some hx_16 hg18_15_71) hst) trivial) ?_
            refine rts _ rfl (opD_and (ls rfl lz) lz) ?_
            refine rts _ rfl (opD_assign lz) ?_
            refine .nil ?_
            refine aw_keep [(6, _)] ⟨lg lz, trivial⟩ ?_
            refine aw_ret ?_
            obtain rfl := some_of h0
            exact done_ext (.inr rfl) ((res_one rfl (it_tmp oz)).le (Pd.le_refl _)) (pl_bnd _ _ _)
          · skip
            replace h0 := ifb_f h0 hc
            clear hc
            refine aw_skip ?_
            refine aw_keep [(8, _), (15, _), (17, _), (18, _), (19, _)] ⟨lg oz, lg (os rfl oz), lg (os rfl (os rfl oz)), lg (os rfl (os rfl (os rfl oz))), lg (os rfl (os rfl (os rfl (os rfl oz)))), trivial⟩ ?_
            refine aw_seq ?_
            refine aw_region (by decide) ?_
            refine rts _ rfl (opD_move (os rfl (os rfl (os rfl oz)))) ?_
            replace h0 := bnd_some h0
            obtain ⟨x_17, hx_17, h0⟩ := h0
            refine rts _ rfl (opD_pure ht39_w2b (c_xMany hx_17) ⟨le_of_eq lz, trivial⟩) ?_
            refine rts _ rfl (opD_move (ls rfl (ls rfl (os rfl (os rfl oz))))) ?_
            refine rts _ rfl (opD_eql (ls rfl lz) lz) ?_
            refine rts _ rfl (opD_move lz) ?_
            refine rtg _ rfl lz (fun hg19_5_72 => opD_move (ls rfl (ls rfl (ls rfl (ls rfl (ls rfl (os rfl (os rfl (os rfl (os rfl oz)))))))))) ?_
            replace h0 := bnd_some h0
            obtain ⟨x_18, hx_18, h0⟩ := h0
            refine rtg _ rfl (ls rfl lz) (fun hg19_6_73 => opD_pure ht39_w2b (c_xMany (gif_some hx_18 hg19_6_73)) ⟨le_of_eq (lz.trans (pif_pos hg19_6_73)), trivial⟩) ?_
            refine rtg _ rfl (ls rfl (ls rfl lz)) (fun hg19_7_74 => opD_move (ls rfl (ls rfl (ls rfl (ls rfl (ls rfl (ls rfl (ls rfl (os rfl oz))))))))) ?_
            replace h0 := bnd_some h0
            obtain ⟨x_19, hx_19, h0⟩ := h0
            refine rtg _ rfl (ls rfl (ls rfl (ls rfl lz))) (fun hg19_8_75 => opD_pure ht39_w2b (c_xMany (gif_some hx_19 hg19_8_75)) ⟨le_of_eq (lz.trans (pif_pos hg19_8_75)), trivial⟩) ?_
            refine rtg _ rfl (ls rfl (ls rfl (ls rfl (ls rfl lz)))) (fun hg19_9_76 => opD_move (ls rfl (ls rfl (ls rfl (ls rfl (ls rfl (ls rfl (ls rfl (ls rfl (ls rfl (os rfl (os rfl oz)))))))))))) ?_
            refine rtg _ rfl (ls rfl (ls rfl (ls rfl (ls rfl (ls rfl lz))))) (fun hg19_10_77 => opD_sub ((ls rfl lz).trans (pif_pos hg19_10_77)) (lz.trans (pif_pos hg19_10_77)) rfl) ?_
            refine rtg _ rfl (ls rfl (ls rfl (ls rfl (ls rfl (ls rfl (ls rfl lz)))))) (fun hg19_11_78 => opD_eql ((ls rfl (ls rfl (ls rfl (ls rfl lz)))).trans (pif_pos hg19_11_78)) (lz.trans (pif_pos hg19_11_78))) ?_
            refine rts _ rfl (opD_and (ls rfl (ls rfl (ls rfl (ls rfl (ls rfl (ls rfl (ls rfl lz))))))) lz) ?_
            refine rts _ rfl (opD_move lz) ?_
            refine rtg _ rfl lz (fun hg19_14_79 => opD_move (ls rfl (ls rfl (ls rfl (ls rfl (ls rfl (ls rfl (ls rfl (ls rfl (ls rfl (ls rfl (ls rfl (ls rfl (ls rfl (ls rfl (os rfl (os rfl (os rfl oz)))))))))))))))))) ?_
            refine rtg _ rfl (ls rfl lz) (fun hg19_15_80 => opD_len_sl Go.Proofs.Tryd.underlying48 (lz.trans (pif_pos hg19_15_80))) ?_
            refine rtg _ rfl (ls rfl (ls rfl lz)) (fun hg19_16_81 => opD_leq (lz.trans (pif_pos hg19_16_81)) (ev_const _ _)) ?_
            refine rts _ rfl (opD_and (ls rfl (ls rfl (ls rfl lz))) lz) ?_
            refine rts _ rfl (opD_move lz) ?_
            refine rt_cases 155 (eg lz) (fun hc => ?_) (fun hc => ?_)
            · skip
              replace h0 := ifb_t h0 hc
              clear hc
              refine rts _ ⟨_, rfl, .inl ⟨_, eg lz, rfl⟩⟩ (opD_buildEmpty (k := kStx) Go.Proofs.Tryd.underlying48 sz137_w2b zt137_w2b rfl (by first | exact List.length_nil | (simp only [List.length_cons, List.length_nil, Nat.zero_add, Nat.reduceAdd] <;> rfl)) (by simp only [na, nb, nc, nd, nf, ng, nh, ni, nj, nk] <;> rfl)) ?_
              refine rts _ ⟨_, rfl, .inl ⟨_, eg (ls rfl lz), rfl⟩⟩ (opD_move (ls rfl (ls rfl (ls rfl (ls rfl (ls rfl (ls rfl (ls rfl (ls rfl (ls rfl (ls rfl (ls rfl (ls rfl (ls rfl (ls rfl (ls rfl (ls rfl (ls rfl (ls rfl (ls rfl (ls rfl (ls rfl (os rfl (os rfl (os rfl oz))))))))))))))))))))))))) ?_
              replace h0 := grd_some h0
              obtain ⟨hg_82, h0⟩ := h0
              refine rts _ ⟨_, rfl, .inl ⟨_, eg (ls rfl (ls rfl lz)), rfl⟩⟩ (opD_appendX Go.Proofs.Tryd.underlying48 el137_w2b (ls rfl lz) lz rfl hg_82.1 hg_82.2 (List.nil_append _) (by simp only [na, nb, nc, nd, nf, ng, nh, ni, nj, nk] <;> rfl)) ?_
              refine rts _ ⟨_, rfl, .inl ⟨_, eg (ls rfl (ls rfl (ls rfl lz))), rfl⟩⟩ (opD_move (ls rfl (ls rfl (ls rfl (ls rfl (ls rfl (ls rfl (ls rfl (ls rfl (ls rfl (ls rfl (ls rfl (ls rfl (ls rfl (ls rfl (ls rfl (ls rfl (ls rfl (ls rfl (ls rfl (ls rfl (ls rfl (ls rfl (ls rfl (os rfl (os rfl (os rfl (os rfl oz)))))))))))))))))))))))))))) ?_
              replace h0 := grd_some h0
              obtain ⟨hg_83, h0⟩ := h0
              refine rts _ ⟨_, rfl, .inl ⟨_, eg (ls rfl (ls rfl (ls rfl (ls rfl lz)))), rfl⟩⟩ (opD_appendX Go.Proofs.Tryd.underlying48 el137_w2b (ls rfl lz) lz rfl hg_83.1 hg_83.2 rfl (by simp only [na, nb, nc, nd, nf, ng, nh, ni, nj, nk] <;> rfl)) ?_
              refine rts _ ⟨_, rfl, .inl ⟨_, eg (ls rfl (ls rfl (ls rfl (ls rfl (ls rfl lz))))), rfl⟩⟩ (opD_move (ls rfl (ls rfl (ls rfl (ls rfl (ls rfl (ls rfl (ls rfl (ls rfl (ls rfl (ls rfl (ls rfl (ls rfl (ls rfl (ls rfl (ls rfl (ls rfl (ls rfl (ls rfl (ls rfl (ls rfl (ls rfl (ls rfl (ls rfl (ls rfl (ls rfl oz)))))))))))))))))))))))))) ?_
              replace h0 := bnd_some h0
              obtain ⟨x_20, hx_20, h0⟩ := h0
              refine rts _ ⟨_, rfl, .inl ⟨_, eg (ls rfl (ls rfl (ls rfl (ls rfl (ls rfl (ls rfl lz)))))), rfl⟩⟩ (opD_pure ht36_w2b (c_xcheck hx_20) ⟨(le_of_eq (ls rfl lz)).trans (sl_any _ _ _ _), le_of_eq lz, trivial⟩) ?_
              refine rts _ ⟨_, rfl, .inl ⟨_, eg (ls rfl (ls rfl (ls rfl (ls rfl (ls rfl (ls rfl (ls rfl lz))))))), rfl⟩⟩ (opD_bin lz (ev_const _ _) (fun w => errV_geql _ w _) (fun w => errV_eql _ w)) ?_
              refine rts _ rfl (opD_pickT (ls rfl (ls rfl (ls rfl (ls rfl (ls rfl (ls rfl (ls rfl (ls rfl lz)))))))) lz) ?_
              refine rts _ rfl (opD_move lz) ?_
              replace h0 := bnd_some h0
              obtain ⟨x_21, hx_21, h0⟩ := h0
              refine rtg _ rfl lz (fun hg19_29_84 => opD_call ht26_w2b (c_sure16 (gif_some hx_21 hg19_29_84) hst) trivial) ?_
              refine rts _ rfl (opD_and (ls rfl lz) lz) ?_
              refine rts _ rfl (opD_assign lz) ?_
              refine .nil ?_
              refine aw_keep [(6, _)] ⟨lg lz, trivial⟩ ?_
              refine aw_ret ?_
              obtain rfl := some_of h0
              exact done_ext (.inr rfl) ((res_one rfl (it_tmp oz)).le (Pd.le_refl _)) (pl_bnd _ _ _)
            · skip
              replace h0 := ifb_f h0 hc
              clear hc
              refine rtk ⟨_, rfl, .inl ⟨_, eg lz, rfl⟩⟩ ?_
              refine rtk ⟨_, rfl, .inl ⟨_, eg (ls rfl lz), rfl⟩⟩ ?_
              refine rtk ⟨_, rfl, .inl ⟨_, eg (ls rfl (ls rfl lz)), rfl⟩⟩ ?_
              refine rtk ⟨_, rfl, .inl ⟨_, eg (ls rfl (ls rfl (ls rfl lz))), rfl⟩⟩ ?_
              refine rtk ⟨_, rfl, .inl ⟨_, eg (ls rfl (ls rfl (ls rfl (ls rfl lz)))), rfl⟩⟩ ?_
              refine rtk ⟨_, rfl, .inl ⟨_, eg (ls rfl (ls rfl (ls rfl (ls rfl (ls rfl lz))))), rfl⟩⟩ ?_
              refine rtk ⟨_, rfl, .inl ⟨_, eg (ls rfl (ls rfl (ls rfl (ls rfl (ls rfl (ls rfl lz)))))), rfl⟩⟩ ?_
              refine rtk ⟨_, rfl, .inl ⟨_, eg (ls rfl (ls rfl (ls rfl (ls rfl (ls rfl (ls rfl (ls rfl lz))))))), rfl⟩⟩ ?_
              refine rts _ rfl (opD_pickF (ls rfl (ls rfl (ls rfl (ls rfl (ls rfl (ls rfl (ls rfl (ls rfl lz)))))))) (ev_const _ _)) ?_
              refine rts _ rfl (opD_move lz) ?_
              refine rtk ⟨_, rfl, .inl ⟨_, eg lz, rfl⟩⟩ ?_
              refine rts _ rfl (opD_pickF (ls rfl lz) (ev_const _ _)) ?_
              refine rts _ rfl (opD_assign lz) ?_
              refine .nil ?_
              refine aw_keep [(6, _)] ⟨lg lz, trivial⟩ ?_
              refine aw_ret ?_
              obtain rfl := some_of h0
              exact done_ext (.inr rfl) ((res_one rfl (it_tmp oz)).le (Pd.le_refl _)) (pl_bnd _ _ _)

def F_lExtentApart_b0 (p0 : (List Stx)) (p1 : Int) (t_8 : Bool × Int) : Option ((Bool × Int) ⊕ ((Bool))) :=
  ifb (decide (t_8.2 < (p0.length : Int))) (grd ((t_8.1 == false) = true → Below t_8.2 p0.length) <| grd (((t_8.1 == false) && ((decide (((p0.getD t_8.2.toNat default).From) ≤ (IntKind.i64.wrap (p1)))) == true)) = true → Below t_8.2 p0.length) <| grd (((t_8.1 == false) && ((decide (((p0.getD t_8.2.toNat default).From) ≤ (IntKind.i64.wrap (p1)))) == true)) = true → Below t_8.2 p0.length) <| some (.inl ((t_8.1 || ((decide (((p0.getD t_8.2.toNat default).From) ≤ (IntKind.i64.wrap (p1)))) && (decide ((IntKind.i64.wrap (p1)) < (IntKind.i64.wrap (((p0.getD t_8.2.toNat default).From) + ((p0.getD t_8.2.toNat default).Many))))))), IntKind.i64.wrap (t_8.2 + 1)))) (some (.inr t_8.1))
def F_lExtentApart (fl : Nat) (p0 : (List Stx)) (p1 : Int) (p2 : Int) : Option (Bool) :=
  bnd (F_give16 fl p0) fun x_1 => bnd (F_xMany fl x_1) fun x_2 => bnd (gif ((decide (60 < (p0.length : Int))) == false) (F_xcheck fl x_1 1024)) fun x_3 => ifb (((decide (60 < (p0.length : Int))) || x_3.isSome) || (decide (x_2 = 0))) (bnd (F_sure16 fl) fun x_4 => some x_4) (grd (x_2 ≠ 0) <| grd (x_2 ≠ 0) <| bnd (F_xPage fl x_1 ((IntKind.i64.wrap (p1)).tmod x_2)) fun x_5 => bnd (F_xPage fl x_1 ((IntKind.i64.wrap (p2)).tmod x_2)) fun x_6 => ifb ((x_5.2.isSome || x_6.2.isSome) || ((decide (x_5.1 = x_6.1)) != (decide (((IntKind.i64.wrap (p1)).tmod x_2) = ((IntKind.i64.wrap (p2)).tmod x_2))))) (some false) (bnd (lp (F_lExtentApart_b0 p0 p1) fl (false, 0)) fun z_7 => bnd (F_xNumber fl x_1 (IntKind.i64.wrap (p1))) fun x_10 => bnd (gif (((x_10.2.isNone == z_7) == true) && (x_10.2.isNone == false)) (oNum16 x_10.2)) fun x_11 => bnd (gif (((x_10.2.isNone == z_7) && (x_10.2.isNone || (decide (x_11 = 2)))) == true) (F_sure16 fl)) fun x_12 => some (((x_10.2.isNone == z_7) && (x_10.2.isNone || (decide (x_11 = 2)))) && x_12)))
set_option maxRecDepth 100000 in
set_option maxHeartbeats 2000000 in
theorem c_lExtentApart {fl : Nat} {p0 : (List Stx)} {p1 : Int} {p2 : Int} {R : Bool} {s : St} (h0 : F_lExtentApart fl p0 p1 p2 = some R) (hst : StGV s) : AC Go.Proofs.Tryd.prog 7 [sl kStx none none p0, pl (.int .u8 p1), pl (.int .u8 p2)] s (pl (.bool R)) s := by
  unfold F_lExtentApart at h0
  refine ac_of_aw s.boxes.length s.fr.length Go.Proofs.Tryd.func7 rfl (by simp [Go.Proofs.Tryd.ntmps7]) ?_
  refine aw_ext0 ?_
  refine aw_keep [(0, _), (1, _), (2, _)] ⟨lg ez, lg (es ez), lg (es (es ez)), trivial⟩ ?_
  refine aw_seq ?_
  refine aw_region (by decide) ?_
  refine rts _ rfl (opD_assign (ev_const _ _)) ?_
  refine .nil ?_
  refine aw_keep [(0, _), (1, _), (2, _)] ⟨lg (ls rfl oz), lg (ls rfl (os rfl oz)), lg (ls rfl (os rfl (os rfl oz))), trivial⟩ ?_
  refine aw_seq ?_
  refine aw_region (by decide) ?_
  refine rts _ rfl (opD_move oz) ?_
  replace h0 := bnd_some h0
  obtain ⟨x_1, hx_1, h0⟩ := h0
  refine rts _ rfl (opD_pure ht27_w2b (c_give16 hx_1) ⟨le_of_eq lz, trivial⟩) ?_
  refine rts _ rfl (opD_assign lz) ?_
  refine .nil ?_
  refine aw_keep [(0, _), (1, _), (2, _), (7, _)] ⟨lg (ls rfl (ls rfl (ls rfl oz))), lg (ls rfl (ls rfl (ls rfl (os rfl oz)))), lg (ls rfl (ls rfl (ls rfl (os rfl (os rfl oz))))), lg lz, trivial⟩ ?_
  refine aw_seq ?_
  refine aw_region (by decide) ?_
  refine rts _ rfl (opD_move (os rfl (os rfl (os rfl oz)))) ?_
  replace h0 := bnd_some h0
  obtain ⟨x_2, hx_2, h0⟩ := h0
  refine rts _ rfl (opD_pure ht39_w2b (c_xMany hx_2) ⟨le_of_eq lz, trivial⟩) ?_
  refine rts _ rfl (opD_assign lz) ?_
  refine .nil ?_
  refine aw_keep [(0, _), (1, _), (2, _), (7, _), (8, _)] ⟨lg (ls rfl (ls rfl (ls rfl oz))), lg (ls rfl (ls rfl (ls rfl (os rfl oz)))), lg (ls rfl (ls rfl (ls rfl (os rfl (os rfl oz))))), lg (ls rfl (ls rfl (ls rfl (os rfl (os rfl (os rfl oz)))))), lg lz, trivial⟩ ?_
  refine aw_seq ?_
  refine aw_seq ?_
  refine aw_region (by decide) ?_
  refine rts _ rfl (opD_move oz) ?_
  refine rts _ rfl (opD_len_sl Go.Proofs.Tryd.underlying47 lz) ?_
  refine rts _ rfl (opD_gtr lz (ev_const _ _)) ?_
  refine rts _ rfl (opD_move lz) ?_
  refine rtg _ rfl lz (fun hg3_4_1 => opD_move (ls rfl (ls rfl (ls rfl (ls rfl (os rfl (os rfl (os rfl oz)))))))) ?_
  replace h0 := bnd_some h0
  obtain ⟨x_3, hx_3, h0⟩ := h0
  refine rtg _ rfl (ls rfl lz) (fun hg3_5_2 => opD_pure ht36_w2b (c_xcheck (gif_some hx_3 hg3_5_2)) ⟨le_of_eq (lz.trans (pif_pos hg3_5_2)), le_of_eq (ev_const _ _), trivial⟩) ?_
  refine rtg _ rfl (ls rfl (ls rfl lz)) (fun hg3_6_3 => opD_bin (lz.trans (pif_pos hg3_6_3)) (ev_const _ _) (fun w => errV_guard _ w _) (fun w => errV_beq _ w)) ?_
  refine rts _ rfl (opD_or (ls rfl (ls rfl (ls rfl lz))) lz) ?_
  refine rts _ rfl (opD_move lz) ?_
  refine rtg _ rfl lz (fun hg3_9_4 => opD_move (ls rfl (ls rfl (ls rfl (ls rfl (ls rfl (ls rfl (ls rfl (ls rfl (ls rfl (os rfl (os rfl (os rfl (os rfl oz)))))))))))))) ?_
  refine rtg _ rfl (ls rfl lz) (fun hg3_10_5 => opD_eql (lz.trans (pif_pos hg3_10_5)) (ev_const _ _)) ?_
  refine rts _ rfl (opD_or (ls rfl (ls rfl lz)) lz) ?_
  refine .nil ?_
  refine aw_keep [(0, _), (1, _), (2, _), (7, _), (8, _), (34, _)] ⟨lg (ls rfl (ls rfl (ls rfl (ls rfl (ls rfl (ls rfl (ls rfl (ls rfl (ls rfl (ls rfl (ls rfl (ls rfl oz)))))))))))), lg (ls rfl (ls rfl (ls rfl (ls rfl (ls rfl (ls rfl (ls rfl (ls rfl (ls rfl (ls rfl (ls rfl (ls rfl (os rfl oz))))))))))))), lg (ls rfl (ls rfl (ls rfl (ls rfl (ls rfl (ls rfl (ls rfl (ls rfl (ls rfl (ls rfl (ls rfl (ls rfl (os rfl (os rfl oz)))))))))))))), lg (ls rfl (ls rfl (ls rfl (ls rfl (ls rfl (ls rfl (ls rfl (ls rfl (ls rfl (ls rfl (ls rfl (ls rfl (os rfl (os rfl (os rfl oz))))))))))))))), lg (ls rfl (ls rfl (ls rfl (ls rfl (ls rfl (ls rfl (ls rfl (ls rfl (ls rfl (ls rfl (ls rfl (ls rfl (os rfl (os rfl (os rfl (os rfl oz)))))))))))))))), lg lz, trivial⟩ ?_
  refine aw_cond _ (os rfl (os rfl (os rfl (os rfl (os rfl oz))))) (fun hc => ?_) (fun hc => ?_)
  · skip
    replace h0 := ifb_t h0 hc
    clear hc
    refine aw_seq ?_
    refine aw_region (by decide) ?_
    replace h0 := bnd_some h0
    obtain ⟨x_4, hx_4, h0⟩ := h0
    refine rts _ rfl (opD_call ht26_w2b (c_sure16 hx_4 hst) trivial) ?_
    refine rts _ rfl (opD_assign lz) ?_
    refine .nil ?_
    refine aw_keep [(6, _)] ⟨lg lz, trivial⟩ ?_
    refine aw_ret ?_
    obtain rfl := some_of h0
    exact done_ext (.inr rfl) ((res_one rfl (it_tmp oz)).le (Pd.le_refl _)) (pl_bnd _ _ _)
  · skip
    replace h0 := ifb_f h0 hc
    clear hc
    refine aw_skip ?_
    refine aw_keep [(0, _), (1, _), (2, _), (7, _), (8, _)] ⟨lg oz, lg (os rfl oz), lg (os rfl (os rfl oz)), lg (os rfl (os rfl (os rfl oz))), lg (os rfl (os rfl (os rfl (os rfl oz)))), trivial⟩ ?_
    refine aw_seq ?_
    refine aw_flat mixed_w2b (by decide +kernel) ?_
    refine zts _ rfl (opD_move (os rfl oz)) ?_
    refine zts _ rfl (opD_conv_int Go.Proofs.Tryd.underlying5 Go.Proofs.Tryd.underlying3 lz rfl) ?_
    refine zts _ rfl (opD_move (ls rfl (ls rfl (os rfl (os rfl (os rfl (os rfl oz))))))) ?_
    replace h0 := grd_some h0
    obtain ⟨hg_8, h0⟩ := h0
    refine zts _ rfl (opD_rem (ls rfl lz) lz hg_8 rfl) ?_
    refine zts _ rfl (opD_move (ls rfl (ls rfl (ls rfl (ls rfl (os rfl (os rfl oz))))))) ?_
    refine zts _ rfl (opD_conv_int Go.Proofs.Tryd.underlying5 Go.Proofs.Tryd.underlying3 lz rfl) ?_
    refine zts _ rfl (opD_move (ls rfl (ls rfl (ls rfl (ls rfl (ls rfl (ls rfl (os rfl (os rfl (os rfl (os rfl oz))))))))))) ?_
    replace h0 := grd_some h0
    obtain ⟨hg_9, h0⟩ := h0
    refine zts _ rfl (opD_rem (ls rfl lz) lz hg_9 rfl) ?_
    refine zts _ rfl (opD_assign (ls rfl (ls rfl (ls rfl (ls rfl lz))))) ?_
    refine zts _ rfl (opD_assign (ls rfl lz)) ?_
    refine .nil ?_
    refine aw_keep [(0, _), (1, _), (7, _), (9, _), (10, _)] ⟨lg (ls rfl (ls rfl (ls rfl (ls rfl (ls rfl (ls rfl (ls rfl (ls rfl (ls rfl (ls rfl oz)))))))))), lg (ls rfl (ls rfl (ls rfl (ls rfl (ls rfl (ls rfl (ls rfl (ls rfl (ls rfl (ls rfl (os rfl oz))))))))))), lg (ls rfl (ls rfl (ls rfl (ls rfl (ls rfl (ls rfl (ls rfl (ls rfl (ls rfl (ls rfl (os rfl (os rfl (os rfl oz))))))))))))), lg (ls rfl lz), lg lz, trivial⟩ ?_
    refine aw_seq ?_
    refine aw_region (by decide) ?_
    refine rts _ rfl (opD_move (os rfl (os rfl oz))) ?_
    refine rts _ rfl (opD_move (ls rfl (os rfl (os rfl (os rfl oz))))) ?_
    replace h0 := bnd_some h0
    obtain ⟨x_5, hx_5, h0⟩ := h0
    refine rts _ rfl (opD_pure ht28_w2b (c_xPage hx_5) ⟨le_of_eq (ls rfl lz), le_of_eq lz, trivial⟩) ?_
    refine rts _ rfl (opD_move lz) ?_
    refine rts _ rfl (opD_extract lz rfl) ?_
    refine rts _ rfl (opD_extract (ls rfl lz) rfl) ?_
    refine rts _ rfl (opD_assign (ls rfl lz)) ?_
    refine rts _ rfl (opD_assign (ls rfl lz)) ?_
    refine .nil ?_
    refine aw_keep [(0, _), (1, _), (7, _), (9, _), (10, _), (11, _), (12, _)] ⟨lg (ls rfl (ls rfl (ls rfl (ls rfl (ls rfl (ls rfl (ls rfl (ls rfl oz)))))))), lg (ls rfl (ls rfl (ls rfl (ls rfl (ls rfl (ls rfl (ls rfl (ls rfl (os rfl oz))))))))), lg (ls rfl (ls rfl (ls rfl (ls rfl (ls rfl (ls rfl (ls rfl (ls rfl (os rfl (os rfl oz)))))))))), lg (ls rfl (ls rfl (ls rfl (ls rfl (ls rfl (ls rfl (ls rfl (ls rfl (os rfl (os rfl (os rfl oz))))))))))), lg (ls rfl (ls rfl (ls rfl (ls rfl (ls rfl (ls rfl (ls rfl (ls rfl (os rfl (os rfl (os rfl (os rfl oz)))))))))))), lg (ls rfl lz), lg lz, trivial⟩ ?_
    refine aw_seq ?_
    refine aw_region (by decide) ?_
    refine rts _ rfl (opD_move (os rfl (os rfl oz))) ?_
    refine rts _ rfl (opD_move (ls rfl (os rfl (os rfl (os rfl (os rfl oz)))))) ?_
    replace h0 := bnd_some h0
    obtain ⟨x_6, hx_6, h0⟩ := h0
    refine rts _ rfl (opD_pure ht28_w2b (c_xPage hx_6) ⟨le_of_eq (ls rfl lz), le_of_eq lz, trivial⟩) ?_
    refine rts _ rfl (opD_move lz) ?_
    refine rts _ rfl (opD_extract lz rfl) ?_
    refine rts _ rfl (opD_extract (ls rfl lz) rfl) ?_
    refine rts _ rfl (opD_assign (ls rfl lz)) ?_
    refine rts _ rfl (opD_assign (ls rfl lz)) ?_
    refine .nil ?_
    refine aw_keep [(0, _), (1, _), (7, _), (9, _), (10, _), (11, _), (12, _), (13, _), (14, _)] ⟨lg (ls rfl (ls rfl (ls rfl (ls rfl (ls rfl (ls rfl (ls rfl (ls rfl oz)))))))), lg (ls rfl (ls rfl (ls rfl (ls rfl (ls rfl (ls rfl (ls rfl (ls rfl (os rfl oz))))))))), lg (ls rfl (ls rfl (ls rfl (ls rfl (ls rfl (ls rfl (ls rfl (ls rfl (os rfl (os rfl oz)))))))))), lg (ls rfl (ls rfl (ls rfl (ls rfl (ls rfl (ls rfl (ls rfl (ls rfl (os rfl (os rfl (os rfl oz))))))))))), lg (ls rfl (ls rfl (ls rfl (ls rfl (ls rfl (ls rfl (ls rfl (ls rfl (os rfl (os rfl (os rfl (os rfl oz)))))))))))), lg (ls rfl (ls rfl (ls rfl (ls rfl (ls rfl (ls rfl (ls rfl (ls rfl (os rfl (os rfl (os rfl (os rfl (os rfl oz))))))))))))), lg (ls rfl (ls rfl (ls rfl (ls rfl (ls rfl (ls rfl (ls rfl (ls rfl (os rfl (os rfl (os rfl (os rfl (os rfl (os rfl oz)))))))))))))), lg (ls rfl lz), lg lz, trivial⟩ ?_
    refine aw_seq ?_
    refine aw_seq ?_
    refine aw_region (by decide) ?_
    refine rts _ rfl (opD_move (os rfl (os rfl (os rfl (os rfl (os rfl (os rfl oz))))))) ?_
    refine rts _ rfl (opD_bin lz (ev_const _ _) (fun w => errV_guard _ w _) (fun w => errV_beq _ w)) ?_
    refine rts _ rfl (opD_move lz) ?_
    refine rtg _ rfl lz (fun hg8_3_10 => opD_move (ls rfl (ls rfl (ls rfl (os rfl (os rfl (os rfl (os rfl (os rfl (os rfl (os rfl (os rfl oz)))))))))))) ?_
    refine rtg _ rfl (ls rfl lz) (fun hg8_4_11 => opD_bin (lz.trans (pif_pos hg8_4_11)) (ev_const _ _) (fun w => errV_guard _ w _) (fun w => errV_beq _ w)) ?_
    refine rts _ rfl (opD_or (ls rfl (ls rfl lz)) lz) ?_
    refine rts _ rfl (opD_move lz) ?_
    refine rtg _ rfl lz (fun hg8_7_12 => opD_move (ls rfl (ls rfl (ls rfl (ls rfl (ls rfl (ls rfl (ls rfl (os rfl (os rfl (os rfl (os rfl (os rfl oz))))))))))))) ?_
    refine rtg _ rfl (ls rfl lz) (fun hg8_8_13 => opD_move (ls rfl (ls rfl (ls rfl (ls rfl (ls rfl (ls rfl (ls rfl (ls rfl (os rfl (os rfl (os rfl (os rfl (os rfl (os rfl (os rfl oz)))))))))))))))) ?_
    refine rtg _ rfl (ls rfl (ls rfl lz)) (fun hg8_9_14 => opD_eql ((ls rfl lz).trans (pif_pos hg8_9_14)) (lz.trans (pif_pos hg8_9_14))) ?_
    refine rtg _ rfl (ls rfl (ls rfl (ls rfl lz))) (fun hg8_10_15 => opD_move (ls rfl (ls rfl (ls rfl (ls rfl (ls rfl (ls rfl (ls rfl (ls rfl (ls rfl (ls rfl (os rfl (os rfl (os rfl oz)))))))))))))) ?_
    refine rtg _ rfl (ls rfl (ls rfl (ls rfl (ls rfl lz)))) (fun hg8_11_16 => opD_move (ls rfl (ls rfl (ls rfl (ls rfl (ls rfl (ls rfl (ls rfl (ls rfl (ls rfl (ls rfl (ls rfl (os rfl (os rfl (os rfl (os rfl oz)))))))))))))))) ?_
    refine rtg _ rfl (ls rfl (ls rfl (ls rfl (ls rfl (ls rfl lz))))) (fun hg8_12_17 => opD_eql ((ls rfl lz).trans (pif_pos hg8_12_17)) (lz.trans (pif_pos hg8_12_17))) ?_
    refine rtg _ rfl (ls rfl (ls rfl (ls rfl (ls rfl (ls rfl (ls rfl lz)))))) (fun hg8_13_18 => opD_bneq Go.Proofs.Tryd.underlying4 ((ls rfl (ls rfl (ls rfl lz))).trans (pif_pos hg8_13_18)) (lz.trans (pif_pos hg8_13_18))) ?_
    refine rts _ rfl (opD_or (ls rfl (ls rfl (ls rfl (ls rfl (ls rfl (ls rfl (ls rfl lz))))))) lz) ?_
    refine .nil ?_
    refine aw_keep [(0, _), (1, _), (7, _), (70, _)] ⟨lg (ls rfl (ls rfl (ls rfl (ls rfl (ls rfl (ls rfl (ls rfl (ls rfl (ls rfl (ls rfl (ls rfl (ls rfl (ls rfl (ls rfl (ls rfl oz))))))))))))))), lg (ls rfl (ls rfl (ls rfl (ls rfl (ls rfl (ls rfl (ls rfl (ls rfl (ls rfl (ls rfl (ls rfl (ls rfl (ls rfl (ls rfl (ls rfl (os rfl oz)))))))))))))))), lg (ls rfl (ls rfl (ls rfl (ls rfl (ls rfl (ls rfl (ls rfl (ls rfl (ls rfl (ls rfl (ls rfl (ls rfl (ls rfl (ls rfl (ls rfl (os rfl (os rfl oz))))))))))))))))), lg lz, trivial⟩ ?_
    refine aw_cond _ (os rfl (os rfl (os rfl oz))) (fun hc => ?_) (fun hc => ?_)
    · skip
      replace h0 := ifb_t h0 hc
      clear hc
      refine aw_seq ?_
      refine aw_region (by decide) ?_
      refine rts _ rfl (opD_assign (ev_const _ _)) ?_
      refine .nil ?_
      refine aw_keep [(6, _)] ⟨lg lz, trivial⟩ ?_
      refine aw_ret ?_
      obtain rfl := some_of h0
      exact done_ext (.inr rfl) ((res_one rfl (it_tmp oz)).le (Pd.le_refl _)) (pl_bnd _ _ _)
    · skip
      replace h0 := ifb_f h0 hc
      clear hc
      refine aw_skip ?_
      refine aw_keep [(0, _), (1, _), (7, _)] ⟨lg oz, lg (os rfl oz), lg (os rfl (os rfl oz)), trivial⟩ ?_
      refine aw_seq ?_
      refine aw_region (by decide) ?_
      refine rts _ rfl (opD_assign (ev_const _ _)) ?_
      refine .nil ?_
      refine aw_keep [(0, _), (1, _), (7, _), (15, _)] ⟨lg (ls rfl oz), lg (ls rfl (os rfl oz)), lg (ls rfl (os rfl (os rfl oz))), lg lz, trivial⟩ ?_
      refine aw_seq ?_
      refine aw_seq ?_
      refine aw_region (by decide) ?_
      refine rts _ rfl (opD_assign (ev_const _ _)) ?_
      refine .nil ?_
      refine aw_keep [(0, _), (1, _), (7, _), (15, _), (16, _)] ⟨lg (ls rfl oz), lg (ls rfl (os rfl oz)), lg (ls rfl (os rfl (os rfl oz))), lg (ls rfl (os rfl (os rfl (os rfl oz)))), lg lz, trivial⟩ ?_
      replace h0 := bnd_some h0
      obtain ⟨z_7, hz_7, h0⟩ := h0
      refine aw_mid (fun e st => ∃ v : Bool, Holds e [(1, pl (.int .u8 p1)), (7, sl kStx none none x_1), (15, pl (.bool v))] ∧ st = s.ext [] [] ∧ v = z_7) ?_ ?_
      · skip
        refine aw_wkN rfl 0 0 rfl rfl ?_
        refine aw_block ?_
        refine aw_loop (fun n e st => ∃ v : Bool × Int, Holds e [(0, sl kStx none none p0), (1, pl (.int .u8 p1)), (7, sl kStx none none x_1), (15, pl (.bool v.1)), (16, pl (.int .i64 v.2))] ∧ st = s.ext [] [] ∧ lp (F_lExtentApart_b0 p0 p1) n v = some z_7) fl ⟨(false, 0), ⟨le_of_eq (eg oz), le_of_eq (eg (os rfl oz)), le_of_eq (eg (os rfl (os rfl oz))), le_of_eq (eg (os rfl (os rfl (os rfl oz)))), le_of_eq (eg (os rfl (os rfl (os rfl (os rfl oz))))), trivial⟩, rfl, hz_7⟩ ?_
        rintro n e st ⟨t_8, hH, rfl, hz_7⟩
        replace hz_7 := lp_some hz_7
        obtain ⟨m_z_9, z_9, rfl, hz_9, hz_7⟩ := hz_7
        unfold F_lExtentApart_b0 at hz_9
        refine aw_keep _ hH ?_
        refine aw_wkN rfl 0 0 rfl rfl ?_
        refine aw_seq ?_
        refine aw_seq ?_
        refine aw_region (by decide) ?_
        refine rts _ rfl (opD_move (os rfl (os rfl (os rfl (os rfl oz))))) ?_
        refine rts _ rfl (opD_move (ls rfl oz)) ?_
        refine rts _ rfl (opD_len_sl Go.Proofs.Tryd.underlying47 lz) ?_
        refine rts _ rfl (opD_lss (ls rfl (ls rfl lz)) lz) ?_
        refine .nil ?_
        refine aw_keep [(0, _), (1, _), (7, _), (15, _), (16, _), (74, _)] ⟨lg (ls rfl (ls rfl (ls rfl (ls rfl oz)))), lg (ls rfl (ls rfl (ls rfl (ls rfl (os rfl oz))))), lg (ls rfl (ls rfl (ls rfl (ls rfl (os rfl (os rfl oz)))))), lg (ls rfl (ls rfl (ls rfl (ls rfl (os rfl (os rfl (os rfl oz))))))), lg (ls rfl (ls rfl (ls rfl (ls rfl (os rfl (os rfl (os rfl (os rfl oz)))))))), lg lz, trivial⟩ ?_
        refine aw_cond _ (os rfl (os rfl (os rfl (os rfl (os rfl oz))))) (fun hc => ?_) (fun hc => ?_)
        · skip
          replace hz_9 := ifb_t hz_9 hc
          clear hc
          refine aw_skip ?_
          refine aw_keep [(0, _), (1, _), (7, _), (15, _), (16, _)] ⟨lg oz, lg (os rfl oz), lg (os rfl (os rfl oz)), lg (os rfl (os rfl (os rfl oz))), lg (os rfl (os rfl (os rfl (os rfl oz)))), trivial⟩ ?_
          refine aw_seq ?_
          refine aw_block ?_
          refine aw_flat mixed_w2b (by decide +kernel) ?_
          refine zts _ rfl (opD_move (os rfl (os rfl (os rfl oz)))) ?_
          refine zts _ rfl (opD_move lz) ?_
          refine ztg _ rfl lz (fun hg14_2_208 => opD_move (ls rfl (ls rfl (os rfl oz)))) ?_
          refine ztg _ rfl (ls rfl lz) (fun hg14_3_209 => opD_conv_int Go.Proofs.Tryd.underlying5 Go.Proofs.Tryd.underlying3 (lz.trans (pif_pos hg14_3_209)) rfl) ?_
          refine ztg _ rfl (ls rfl (ls rfl lz)) (fun hg14_4_210 => opD_move (ls rfl (ls rfl (ls rfl (ls rfl oz))))) ?_
          refine ztg _ rfl (ls rfl (ls rfl (ls rfl lz))) (fun hg14_5_211 => opD_move (ls rfl (ls rfl (ls rfl (ls rfl (ls rfl (os rfl (os rfl (os rfl (os rfl oz)))))))))) ?_
          replace hz_9 := grd_some hz_9
          obtain ⟨hg_213, hz_9⟩ := hz_9
          refine ztg _ rfl (ls rfl (ls rfl (ls rfl (ls rfl lz)))) (fun hg14_6_212 => opD_indexAddr_sl (i := t_8.2.toNat) Go.Proofs.Tryd.underlying47 sz71_w2b ((ls rfl lz).trans (pif_pos hg14_6_212)) (lz.trans (pif_pos hg14_6_212)) (hg_213 hg14_6_212).eq (hg_213 hg14_6_212).2) ?_
          refine ztg _ rfl (ls rfl (ls rfl (ls rfl (ls rfl (ls rfl lz))))) (fun hg14_7_214 => opD_fieldAddr_el fo71_0_w2b (lz.trans (pif_pos hg14_7_214))) ?_
          refine ztg _ rfl (ls rfl (ls rfl (ls rfl (ls rfl (ls rfl (ls rfl lz)))))) (fun hg14_8_215 => opD_load_el_one ag3_w2b (lz.trans (pif_pos hg14_8_215)) (at_getD default (hg_213 hg14_8_215).2) rfl) ?_
          refine ztg _ rfl (ls rfl (ls rfl (ls rfl (ls rfl (ls rfl (ls rfl (ls rfl lz))))))) (fun hg14_9_216 => opD_geq ((ls rfl (ls rfl (ls rfl (ls rfl (ls rfl lz))))).trans (pif_pos hg14_9_216)) (lz.trans (pif_pos hg14_9_216))) ?_
          refine ztg _ rfl (ls rfl (ls rfl (ls rfl (ls rfl (ls rfl (ls rfl (ls rfl (ls rfl lz)))))))) (fun hg14_10_217 => opD_move (lz.trans (pif_pos hg14_10_217))) ?_
          refine ztg2 _ rfl lz (fun hg14_11_218 => opD_move (ls rfl (ls rfl (ls rfl (ls rfl (ls rfl (ls rfl (ls rfl (ls rfl (ls rfl (ls rfl (ls rfl (os rfl oz))))))))))))) ?_
          refine ztg2 _ rfl (ls rfl lz) (fun hg14_12_219 => opD_conv_int Go.Proofs.Tryd.underlying5 Go.Proofs.Tryd.underlying3 (lz.trans (pif_pos hg14_12_219)) rfl) ?_
          refine ztg2 _ rfl (ls rfl (ls rfl lz)) (fun hg14_13_220 => opD_move (ls rfl (ls rfl (ls rfl (ls rfl (ls rfl (ls rfl (ls rfl (ls rfl (ls rfl (ls rfl (ls rfl (ls rfl (ls rfl oz)))))))))))))) ?_
          refine ztg2 _ rfl (ls rfl (ls rfl (ls rfl lz))) (fun hg14_14_221 => opD_move (ls rfl (ls rfl (ls rfl (ls rfl (ls rfl (ls rfl (ls rfl (ls rfl (ls rfl (ls rfl (ls rfl (ls rfl (ls rfl (ls rfl (os rfl (os rfl (os rfl (os rfl oz))))))))))))))))))) ?_
          replace hz_9 := grd_some hz_9
          obtain ⟨hg_223, hz_9⟩ := hz_9
          refine ztg2 _ rfl (ls rfl (ls rfl (ls rfl (ls rfl lz)))) (fun hg14_15_222 => opD_indexAddr_sl (i := t_8.2.toNat) Go.Proofs.Tryd.underlying47 sz71_w2b ((ls rfl lz).trans (pif_pos hg14_15_222)) (lz.trans (pif_pos hg14_15_222)) (hg_223 hg14_15_222).eq (hg_223 hg14_15_222).2) ?_
          refine ztg2 _ rfl (ls rfl (ls rfl (ls rfl (ls rfl (ls rfl lz))))) (fun hg14_16_224 => opD_fieldAddr_el fo71_0_w2b (lz.trans (pif_pos hg14_16_224))) ?_
          refine ztg2 _ rfl (ls rfl (ls rfl (ls rfl (ls rfl (ls rfl (ls rfl lz)))))) (fun hg14_17_225 => opD_load_el_one ag3_w2b (lz.trans (pif_pos hg14_17_225)) (at_getD default (hg_223 hg14_17_225).2) rfl) ?_
          refine ztg2 _ rfl (ls rfl (ls rfl (ls rfl (ls rfl (ls rfl (ls rfl (ls rfl lz))))))) (fun hg14_18_226 => opD_move (ls rfl (ls rfl (ls rfl (ls rfl (ls rfl (ls rfl (ls rfl (ls rfl (ls rfl (ls rfl (ls rfl (ls rfl (ls rfl (ls rfl (ls rfl (ls rfl (ls rfl (ls rfl oz))))))))))))))))))) ?_
          refine ztg2 _ rfl (ls rfl (ls rfl (ls rfl (ls rfl (ls rfl (ls rfl (ls rfl (ls rfl lz)))))))) (fun hg14_19_227 => opD_move (ls rfl (ls rfl (ls rfl (ls rfl (ls rfl (ls rfl (ls rfl (ls rfl (ls rfl (ls rfl (ls rfl (ls rfl (ls rfl (ls rfl (ls rfl (ls rfl (ls rfl (ls rfl (ls rfl (os rfl (os rfl (os rfl (os rfl oz)))))))))))))))))))))))) ?_
          replace hz_9 := grd_some hz_9
          obtain ⟨hg_229, hz_9⟩ := hz_9
          refine ztg2 _ rfl (ls rfl (ls rfl (ls rfl (ls rfl (ls rfl (ls rfl (ls rfl (ls rfl (ls rfl lz))))))))) (fun hg14_20_228 => opD_indexAddr_sl (i := t_8.2.toNat) Go.Proofs.Tryd.underlying47 sz71_w2b ((ls rfl lz).trans (pif_pos hg14_20_228)) (lz.trans (pif_pos hg14_20_228)) (hg_229 hg14_20_228).eq (hg_229 hg14_20_228).2) ?_
          refine ztg2 _ rfl (ls rfl (ls rfl (ls rfl (ls rfl (ls rfl (ls rfl (ls rfl (ls rfl (ls rfl (ls rfl lz)))))))))) (fun hg14_21_230 => opD_fieldAddr_el fo71_1_w2b (lz.trans (pif_pos hg14_21_230))) ?_
          refine ztg2 _ rfl (ls rfl (ls rfl (ls rfl (ls rfl (ls rfl (ls rfl (ls rfl (ls rfl (ls rfl (ls rfl (ls rfl lz))))))))))) (fun hg14_22_231 => opD_load_el_one ag3_w2b (lz.trans (pif_pos hg14_22_231)) (at_getD default (hg_229 hg14_22_231).2) rfl) ?_
          refine ztg2 _ rfl (ls rfl (ls rfl (ls rfl (ls rfl (ls rfl (ls rfl (ls rfl (ls rfl (ls rfl (ls rfl (ls rfl (ls rfl lz)))))))))))) (fun hg14_23_232 => opD_add ((ls rfl (ls rfl (ls rfl (ls rfl (ls rfl lz))))).trans (pif_pos hg14_23_232)) (lz.trans (pif_pos hg14_23_232)) rfl) ?_
          refine ztg2 _ rfl (ls rfl (ls rfl (ls rfl (ls rfl (ls rfl (ls rfl (ls rfl (ls rfl (ls rfl (ls rfl (ls rfl (ls rfl (ls rfl lz))))))))))))) (fun hg14_24_233 => opD_lss ((ls rfl (ls rfl (ls rfl (ls rfl (ls rfl (ls rfl (ls rfl (ls rfl (ls rfl (ls rfl (ls rfl lz))))))))))).trans (pif_pos hg14_24_233)) (lz.trans (pif_pos hg14_24_233))) ?_
          refine ztg _ rfl (ls rfl (ls rfl (ls rfl (ls rfl (ls rfl (ls rfl (ls rfl (ls rfl (ls rfl (ls rfl (ls rfl (ls rfl (ls rfl (ls rfl (ls rfl (ls rfl (ls rfl (ls rfl (ls rfl (ls rfl (ls rfl (ls rfl (ls rfl lz))))))))))))))))))))))) (fun hg14_25_234 => opD_and ((ls rfl (ls rfl (ls rfl (ls rfl (ls rfl (ls rfl (ls rfl (ls rfl (ls rfl (ls rfl (ls rfl (ls rfl (ls rfl (ls rfl lz)))))))))))))).trans (pif_pos hg14_25_234)) (lz.trans (pif_and hg14_25_234))) ?_
          refine zts _ rfl (opD_or (ls rfl (ls rfl (ls rfl (ls rfl (ls rfl (ls rfl (ls rfl (ls rfl (ls rfl (ls rfl (ls rfl (ls rfl (ls rfl (ls rfl (ls rfl (ls rfl (ls rfl (ls rfl (ls rfl (ls rfl (ls rfl (ls rfl (ls rfl (ls rfl lz)))))))))))))))))))))))) lz) ?_
          refine zts _ rfl (opD_assign lz) ?_
          refine .nil ?_
          refine aw_keep [(0, _), (1, _), (7, _), (15, _), (16, _)] ⟨lg (ls rfl (ls rfl (ls rfl (ls rfl (ls rfl (ls rfl (ls rfl (ls rfl (ls rfl (ls rfl (ls rfl (ls rfl (ls rfl (ls rfl (ls rfl (ls rfl (ls rfl (ls rfl (ls rfl (ls rfl (ls rfl (ls rfl (ls rfl (ls rfl (ls rfl (ls rfl (ls rfl (ls rfl oz)))))))))))))))))))))))))))), lg (ls rfl (ls rfl (ls rfl (ls rfl (ls rfl (ls rfl (ls rfl (ls rfl (ls rfl (ls rfl (ls rfl (ls rfl (ls rfl (ls rfl (ls rfl (ls rfl (ls rfl (ls rfl (ls rfl (ls rfl (ls rfl (ls rfl (ls rfl (ls rfl (ls rfl (ls rfl (ls rfl (ls rfl (os rfl oz))))))))))))))))))))))))))))), lg (ls rfl (ls rfl (ls rfl (ls rfl (ls rfl (ls rfl (ls rfl (ls rfl (ls rfl (ls rfl (ls rfl (ls rfl (ls rfl (ls rfl (ls rfl (ls rfl (ls rfl (ls rfl (ls rfl (ls rfl (ls rfl (ls rfl (ls rfl (ls rfl (ls rfl (ls rfl (ls rfl (ls rfl (os rfl (os rfl oz)))))))))))))))))))))))))))))), lg lz, lg (ls rfl (ls rfl (ls rfl (ls rfl (ls rfl (ls rfl (ls rfl (ls rfl (ls rfl (ls rfl (ls rfl (ls rfl (ls rfl (ls rfl (ls rfl (ls rfl (ls rfl (ls rfl (ls rfl (ls rfl (ls rfl (ls rfl (ls rfl (ls rfl (ls rfl (ls rfl (ls rfl (ls rfl (os rfl (os rfl (os rfl (os rfl oz)))))))))))))))))))))))))))))))), trivial⟩ ?_
          refine aw_region (by decide) ?_
          refine rts _ rfl (opD_move (os rfl (os rfl (os rfl (os rfl oz))))) ?_
          refine rts _ rfl (opD_add lz (ev_const _ _) rfl) ?_
          refine rts _ rfl (opD_assign lz) ?_
          refine .nil ?_
          obtain rfl := some_of hz_9
          replace hz_7 := ocs_l hz_7
          refine wk_yesN rfl (l := [(0, sl kStx none none p0), (1, pl (.int .u8 p1)), (7, sl kStx none none x_1), (15, pl (.bool (t_8.1 || ((decide (((p0.getD t_8.2.toNat default).From) ≤ (IntKind.i64.wrap (p1)))) && (decide ((IntKind.i64.wrap (p1)) < (IntKind.i64.wrap (((p0.getD t_8.2.toNat default).From) + ((p0.getD t_8.2.toNat default).Many))))))))), (16, pl (.int .i64 (IntKind.i64.wrap (t_8.2 + 1))))]) (bs' := []) ⟨le_of_eq (eg (ls rfl (ls rfl (ls rfl oz)))), le_of_eq (eg (ls rfl (ls rfl (ls rfl (os rfl oz))))), le_of_eq (eg (ls rfl (ls rfl (ls rfl (os rfl (os rfl oz)))))), le_of_eq (eg (ls rfl (ls rfl (ls rfl (os rfl (os rfl (os rfl oz))))))), le_of_eq (eg lz), trivial⟩ (bnd_cons (sl_b kb_Stx) (bnd_cons (pl_bnd _ _ _) (bnd_cons (sl_b kb_Stx) (bnd_cons (pl_bnd _ _ _) (bnd_cons (pl_bnd _ _ _) bnd_nil))))) (Nat.le_of_ble_eq_true rfl) (by simp only [na, nb, nc, nd, nf, ng, nh, ni, nj, nk] <;> rfl) bxle_nil rfl (by simp only [na, nb, nc, nd, nf, ng, nh, ni, nj, nk] <;> rfl) bl_nil ?_
          exact ⟨m_z_9, Nat.lt_succ_self _, ((t_8.1 || ((decide (((p0.getD t_8.2.toNat default).From) ≤ (IntKind.i64.wrap (p1)))) && (decide ((IntKind.i64.wrap (p1)) < (IntKind.i64.wrap (((p0.getD t_8.2.toNat default).From) + ((p0.getD t_8.2.toNat default).Many))))))), IntKind.i64.wrap (t_8.2 + 1)), ⟨le_of_eq (eg oz), le_of_eq (eg (os rfl oz)), le_of_eq (eg (os rfl (os rfl oz))), le_of_eq (eg (os rfl (os rfl (os rfl oz)))), le_of_eq (eg (os rfl (os rfl (os rfl (os rfl oz))))), trivial⟩, rfl, hz_7⟩
        · skip
          replace hz_9 := ifb_f hz_9 hc
          clear hc
          refine aw_exit ?_
          obtain rfl := some_of hz_9
          replace hz_7 := ocs_r hz_7
          refine wk_no ?_
          refine wk_yesN rfl (l := [(1, pl (.int .u8 p1)), (7, sl kStx none none x_1), (15, pl (.bool t_8.1))]) (bs' := []) ⟨le_of_eq (eg (os rfl oz)), le_of_eq (eg (os rfl (os rfl oz))), le_of_eq (eg (os rfl (os rfl (os rfl oz)))), trivial⟩ (bnd_cons (pl_bnd _ _ _) (bnd_cons (sl_b kb_Stx) (bnd_cons (pl_bnd _ _ _) bnd_nil))) (Nat.le_of_ble_eq_true rfl) (by simp only [na, nb, nc, nd, nf, ng, nh, ni, nj, nk] <;> rfl) bxle_nil rfl (by simp only [na, nb, nc, nd, nf, ng, nh, ni, nj, nk] <;> rfl) bl_nil ?_
          exact ⟨t_8.1, ⟨le_of_eq (eg oz), le_of_eq (eg (os rfl oz)), le_of_eq (eg (os rfl (os rfl oz))), trivial⟩, rfl, some_of hz_7⟩
      · rintro e st ⟨vz_7, hH, rfl, rfl⟩
        refine aw_keep _ hH ?_
        refine aw_keep [(1, _), (7, _), (15, _)] ⟨lg oz, lg (os rfl oz), lg (os rfl (os rfl oz)), trivial⟩ ?_
        refine aw_seq ?_
        refine aw_region (by decide) ?_
        refine rts _ rfl (opD_move (os rfl oz)) ?_
        refine rts _ rfl (opD_move (ls rfl oz)) ?_
        refine rts _ rfl (opD_conv_int Go.Proofs.Tryd.underlying5 Go.Proofs.Tryd.underlying3 lz rfl) ?_
        replace h0 := bnd_some h0
        obtain ⟨x_10, hx_10, h0⟩ := h0
        refine rts _ rfl (opD_pure ht30_w2b (c_xNumber hx_10) ⟨le_of_eq (ls rfl (ls rfl lz)), le_of_eq lz, trivial⟩) ?_
        refine rts _ rfl (opD_move lz) ?_
        refine rts _ rfl (opD_extract lz rfl) ?_
        refine rts _ rfl (opD_extract (ls rfl lz) rfl) ?_
        refine rts _ rfl (opD_assign (ls rfl lz)) ?_
        refine rts _ rfl (opD_assign (ls rfl lz)) ?_
        refine .nil ?_
        refine aw_keep [(15, _), (18, _)] ⟨lg (ls rfl (ls rfl (ls rfl (ls rfl (ls rfl (ls rfl (ls rfl (ls rfl (ls rfl (os rfl (os rfl oz))))))))))), lg lz, trivial⟩ ?_
        refine aw_seq ?_
        refine aw_region (by decide) ?_
        refine rts _ rfl (opD_move (os rfl oz)) ?_
        refine rts _ rfl (opD_bin lz (ev_const _ _) (fun w => errV_geql _ w _) (fun w => errV_eql _ w)) ?_
        refine rts _ rfl (opD_move (ls rfl (ls rfl oz))) ?_
        refine rts _ rfl (opD_beql Go.Proofs.Tryd.underlying4 (ls rfl lz) lz) ?_
        refine rts _ rfl (opD_move lz) ?_
        refine rtg _ rfl lz (fun hg16_5_235 => opD_move (ls rfl (ls rfl (ls rfl (ls rfl (ls rfl (os rfl oz))))))) ?_
        refine rtg _ rfl (ls rfl lz) (fun hg16_6_236 => opD_bin (lz.trans (pif_pos hg16_6_236)) (ev_const _ _) (fun w => errV_geql _ w _) (fun w => errV_eql _ w)) ?_
        refine rtg _ rfl (ls rfl (ls rfl lz)) (fun hg16_7_237 => opD_move (lz.trans (pif_pos hg16_7_237))) ?_
        refine rtg2 _ rfl lz (fun hg16_8_238 => opD_move (ls rfl (ls rfl (ls rfl (ls rfl (ls rfl (ls rfl (ls rfl (ls rfl (os rfl oz)))))))))) ?_
        replace h0 := bnd_some h0
        obtain ⟨x_11, hx_11, h0⟩ := h0
        refine rtg2 _ rfl (ls rfl lz) (fun hg16_9_239 => opD_call ht38_w2b (c_num16 (gif_some hx_11 hg16_9_239) hst) ⟨le_of_eq (lz.trans (pif_pos hg16_9_239)), trivial⟩) ?_
        refine rtg2 _ rfl (ls rfl (ls rfl lz)) (fun hg16_10_240 => opD_eql (lz.trans (pif_pos hg16_10_240)) (ev_const _ _)) ?_
        refine rtg _ rfl (ls rfl (ls rfl (ls rfl (ls rfl (ls rfl (ls rfl lz)))))) (fun hg16_11_241 => opD_or ((ls rfl (ls rfl (ls rfl lz))).trans (pif_pos hg16_11_241)) (lz.trans (pif_and hg16_11_241))) ?_
        refine rts _ rfl (opD_and (ls rfl (ls rfl (ls rfl (ls rfl (ls rfl (ls rfl (ls rfl lz))))))) lz) ?_
        refine rts _ rfl (opD_move lz) ?_
        replace h0 := bnd_some h0
        obtain ⟨x_12, hx_12, h0⟩ := h0
        refine rtg _ rfl lz (fun hg16_14_242 => opD_call ht26_w2b (c_sure16 (gif_some hx_12 hg16_14_242) hst) trivial) ?_
        refine rts _ rfl (opD_and (ls rfl lz) lz) ?_
        refine rts _ rfl (opD_assign lz) ?_
        refine .nil ?_
        refine aw_keep [(6, _)] ⟨lg lz, trivial⟩ ?_
        refine aw_ret ?_
        obtain rfl := some_of h0
        exact done_ext (.inr rfl) ((res_one rfl (it_tmp oz)).le (Pd.le_refl _)) (pl_bnd _ _ _)
end Go.Proofs.YtjbgddpaclcjfaaDoor.Eng.A
