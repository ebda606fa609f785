/- EF3: what functions do, walked; used by the laws of this seat. -/
import Derived.Test.YtokcgacehdgkcaaDoorEF2
import Derived.Test.YtokcgacehdgkcaaDoorEW2
import Derived.Test.YtokcgacehdgkcaaDoorEXB
namespace Go.Proofs.YtokcgacehdgkcaaDoor.Eng.A
set_option linter.unusedVariables false
set_option linter.unusedSimpArgs false
open Go.RowKit Go.Proofs.YtokcgacehdgkcaaDoor.Plain Go.Proofs.YtokcgacehdgkcaaDoor.Eng Go.Proofs.YtokcgacehdgkcaaDoor.Eng.Pk Go.Proofs.YtokcgacehdgkcaaDoor.Eng.Rd

theorem sz232_W7 : sizeT Tryd.prog 232 = some 2 := by kernel_rfl
theorem ag232_W7 : aggT Tryd.prog 232 = some true := by kernel_rfl
theorem sz114_W7 : sizeT Tryd.prog 114 = some 2 := by kernel_rfl
theorem zt114_W7 : zeroT Tryd.prog 114 = some [.int .i64 0, .int .i64 0] := by kernel_rfl
theorem el114_W7 : elT Tryd.prog 114 = some (2, 16) := by kernel_rfl
theorem zt86_W7 : zeroT Tryd.prog 86 = some [.int .u64 0, .int .u64 0, .int .i64 0, .int .u64 0, .int .u64 0, .slice none 0 0, .int .u64 0, .int .u64 0, .slice none 0 0, .int .u64 0, .int .u64 0, .slice none 0 0, .int .u64 0, .int .u64 0, .slice none 0 0, .int .u64 0, .int .u64 0, .slice none 0 0, .int .u64 0, .int .u64 0, .slice none 0 0, .int .u64 0, .int .u64 0, .slice none 0 0, .int .u64 0, .int .u64 0, .slice none 0 0, .int .u64 0, .int .u64 0, .slice none 0 0, .int .u64 0, .int .u64 0, .slice none 0 0, .int .u64 0, .int .u64 0, .slice none 0 0, .int .u64 0, .int .u64 0, .slice none 0 0, .int .u64 0, .int .u64 0, .slice none 0 0, .int .u64 0, .int .u64 0, .slice none 0 0, .int .u64 0, .int .u64 0, .slice none 0 0, .int .u64 0, .int .u64 0, .slice none 0 0, .int .u16 0, .int .u16 0, .int .u16 0, .int .u16 0, .int .u16 0, .int .u16 0, .int .u16 0, .int .u16 0, .int .u16 0, .int .u16 0, .int .u16 0, .int .u16 0, .int .u16 0, .int .u16 0, .int .u16 0, .int .u16 0] := by kernel_rfl
theorem fo106_0_W7 : fieldOff Tryd.prog 106 0 = some 0 := by kernel_rfl
theorem ag56_W7 : aggT Tryd.prog 56 = some false := by kernel_rfl
theorem fo106_1_W7 : fieldOff Tryd.prog 106 1 = some 1 := by kernel_rfl
theorem fo106_2_W7 : fieldOff Tryd.prog 106 2 = some 2 := by kernel_rfl
theorem ag3_W7 : aggT Tryd.prog 3 = some false := by kernel_rfl
theorem fo106_4_W7 : fieldOff Tryd.prog 106 4 = some 51 := by kernel_rfl
theorem ag83_W7 : aggT Tryd.prog 83 = some true := by kernel_rfl
theorem sz83_W7 : sizeT Tryd.prog 83 = some 16 := by kernel_rfl
theorem pt86_W7 : placesT Tryd.prog 86 5 = some [(0, 1), (1, 1), (2, 1), (3, 48), (51, 16)] := by kernel_rfl
theorem sz86_W7 : sizeT Tryd.prog 86 = some 67 := by kernel_rfl
theorem fo106_3_W7 : fieldOff Tryd.prog 106 3 = some 3 := by kernel_rfl
theorem sz103_W7 : sizeT Tryd.prog 103 = some 3 := by kernel_rfl
theorem fo103_0_W7 : fieldOff Tryd.prog 103 0 = some 0 := by kernel_rfl
theorem fo103_1_W7 : fieldOff Tryd.prog 103 1 = some 1 := by kernel_rfl
theorem fo103_2_W7 : fieldOff Tryd.prog 103 2 = some 2 := by kernel_rfl
theorem ag101_W7 : aggT Tryd.prog 101 = some false := by kernel_rfl
theorem ht104_W7 : hasText Tryd.prog 104 = true := by kernel_rfl
theorem pt81_W7 : placesT Tryd.prog 81 3 = some [(0, 1), (1, 1), (2, 1)] := by kernel_rfl
theorem zt81_W7 : zeroT Tryd.prog 81 = some [.int .u64 0, .int .u64 0, .slice none 0 0] := by kernel_rfl
theorem fo86_3_W7 : fieldOff Tryd.prog 86 3 = some 3 := by kernel_rfl
theorem sz81_W7 : sizeT Tryd.prog 81 = some 3 := by kernel_rfl
theorem mixed_W7 : Tryd.prog.follows .mixedOrders = true := by kernel_rfl
theorem ag86_W7 : aggT Tryd.prog 86 = some true := by kernel_rfl
theorem ht41_W7 : hasText Tryd.prog 41 = true := by kernel_rfl
theorem ht42_W7 : hasText Tryd.prog 42 = true := by kernel_rfl
theorem ht47_W7 : hasText Tryd.prog 47 = true := by kernel_rfl
theorem ht55_W7 : hasText Tryd.prog 55 = true := by kernel_rfl
theorem fo86_0_W7 : fieldOff Tryd.prog 86 0 = some 0 := by kernel_rfl
theorem fo86_1_W7 : fieldOff Tryd.prog 86 1 = some 1 := by kernel_rfl
theorem ht44_W7 : hasText Tryd.prog 44 = true := by kernel_rfl
theorem ht50_W7 : hasText Tryd.prog 50 = true := by kernel_rfl
theorem sz88_W7 : sizeT Tryd.prog 88 = some 4 := by kernel_rfl
theorem sz5_W7 : sizeT Tryd.prog 5 = some 1 := by kernel_rfl
theorem ag5_W7 : aggT Tryd.prog 5 = some false := by kernel_rfl
theorem fo81_2_W7 : fieldOff Tryd.prog 81 2 = some 2 := by kernel_rfl
theorem ag79_W7 : aggT Tryd.prog 79 = some false := by kernel_rfl
theorem ht43_W7 : hasText Tryd.prog 43 = true := by kernel_rfl
theorem sz56_W7 : sizeT Tryd.prog 56 = some 1 := by kernel_rfl
theorem fo81_1_W7 : fieldOff Tryd.prog 81 1 = some 1 := by kernel_rfl
theorem zt56_W7 : zeroT Tryd.prog 56 = some [.int .u64 0] := by kernel_rfl
theorem el56_W7 : elT Tryd.prog 56 = some (1, 8) := by kernel_rfl
theorem ht45_W7 : hasText Tryd.prog 45 = true := by kernel_rfl
theorem ht46_W7 : hasText Tryd.prog 46 = true := by kernel_rfl
theorem ht48_W7 : hasText Tryd.prog 48 = true := by kernel_rfl
theorem fo86_2_W7 : fieldOff Tryd.prog 86 2 = some 2 := by kernel_rfl
theorem ht49_W7 : hasText Tryd.prog 49 = true := by kernel_rfl
theorem ht51_W7 : hasText Tryd.prog 51 = true := by kernel_rfl
theorem ag106_W7 : aggT Tryd.prog 106 = some true := by kernel_rfl
theorem sz106_W7 : sizeT Tryd.prog 106 = some 67 := by kernel_rfl
theorem ht52_W7 : hasText Tryd.prog 52 = true := by kernel_rfl
theorem ht53_W7 : hasText Tryd.prog 53 = true := by kernel_rfl
theorem ht54_W7 : hasText Tryd.prog 54 = true := by kernel_rfl
theorem fo108_0_W7 : fieldOff Tryd.prog 108 0 = some 0 := by kernel_rfl
theorem fo108_2_W7 : fieldOff Tryd.prog 108 2 = some 2 := by kernel_rfl
theorem fo86_4_W7 : fieldOff Tryd.prog 86 4 = some 51 := by kernel_rfl
theorem ag84_W7 : aggT Tryd.prog 84 = some true := by kernel_rfl
theorem sz84_W7 : sizeT Tryd.prog 84 = some 16 := by kernel_rfl
theorem ag77_W7 : aggT Tryd.prog 77 = some false := by kernel_rfl
theorem fo81_0_W7 : fieldOff Tryd.prog 81 0 = some 0 := by kernel_rfl
theorem ag114_W7 : aggT Tryd.prog 114 = some true := by kernel_rfl

open Go.Proofs.YtokcgacehdgkcaaDoor.Eng.Er Go.Proofs.YtokcgacehdgkcaaDoor.Eng.Er2 Go.Proofs.YtokcgacehdgkcaaDoor.Eng.Ha

structure Dirr where
  Seq : Int
  Gen : Int
  Pages : Int
  L : (List Tenant)
  M : (List Int)
instance : Inhabited Dirr := ⟨⟨0, 0, 0, [], []⟩⟩
def kDirr : Kn Dirr := ⟨67, fun x => [pl (.int .u64 x.Seq), pl (.int .u64 x.Gen), pl (.int .i64 x.Pages)] ++ (arrC 16 kTenant (default : Tenant) x.L ++ (arrC 16 (kI .u16) (0 : Int) x.M ++ (([] : List Pd)))), fun x => by simp only [List.length_append, List.length_cons, List.length_nil, arrC_len] <;> rfl, fun x => (ones_app (ones_cons (one_pl rfl) (ones_cons (one_pl rfl) (ones_cons (one_pl rfl) ones_nil))) (ones_app ones_arr (ones_app ones_arr ones_nil)))⟩
theorem kb_Dirr : KB kDirr := fun x n m => (bnd_app (zbc zPb (zbc zPb (zbc zPb bnd_nil))) (bnd_app (bnd_arr kb_Tenant) (bnd_app (bnd_arr (kb_I _)) bnd_nil)))
theorem kDirr_len (x : Dirr) : (kDirr.cs x).length = 67 := kDirr.len x
theorem kDirr_full (x : Dirr) : ((kDirr.cs x).drop 0).take 67 = kDirr.cs x := by rw [List.drop_zero, List.take_of_length_le]; rw [kDirr_len]; exact Nat.le_refl _
theorem kDirr_a_L (x : Dirr) : kDirr.cs x = ([pl (.int .u64 x.Seq), pl (.int .u64 x.Gen), pl (.int .i64 x.Pages)]) ++ (arrC 16 kTenant (default : Tenant) x.L ++ (arrC 16 (kI .u16) (0 : Int) x.M ++ (([] : List Pd)))) := rfl
theorem kDirr_e_L (x : Dirr) {i j : Nat} (hi : i < 16) (hj : j < 3) : (kDirr.cs x)[3 + i * 3 + j]? = (Kn.cs kTenant (x.L.getD i (default : Tenant)))[j]? := by
  rw [kDirr_a_L]; exact seg_at (k := kTenant) (show List.length _ = 3 by simp only [List.length_append, List.length_cons, List.length_nil, arrC_len] <;> rfl) hi hj
theorem kDirr_a_M (x : Dirr) : kDirr.cs x = ([pl (.int .u64 x.Seq), pl (.int .u64 x.Gen), pl (.int .i64 x.Pages)] ++ arrC 16 kTenant (default : Tenant) x.L) ++ (arrC 16 (kI .u16) (0 : Int) x.M ++ (([] : List Pd))) := by simp only [List.append_assoc]; rfl
theorem kDirr_w_M (x : Dirr) : ((kDirr.cs x).drop 51).take 16 = flat (kI .u16) (nrm 16 (0 : Int) x.M) := by
  rw [kDirr_a_M]; exact seg_all (A := [pl (.int .u64 x.Seq), pl (.int .u64 x.Gen), pl (.int .i64 x.Pages)] ++ arrC 16 kTenant (default : Tenant) x.L) (a := 51) (n := 16) (k := kI .u16) (show List.length _ = 51 by simp only [List.length_append, List.length_cons, List.length_nil, arrC_len] <;> rfl)
def oNum32 (o : Option Int) : Option Int := some (numV o)
theorem c_num32 {p0 : Option Int} {R : Int} {s : St} (h0 : oNum32 p0 = some R) (hst : StGV s) : AC Tryd.prog 55 [pl (errV p0)] s (pl (.int .i64 R)) s := by obtain rfl := some_of h0; exact num32 hst

structure Ask where
  A : Int
  B : Int
  Pages : Int
  See : Bool
  deriving DecidableEq
instance : Inhabited Ask := ⟨⟨0, 0, 0, false⟩⟩
def kAsk : Kn Ask := ⟨4, fun x => [pl (.int .u64 x.A), pl (.int .u64 x.B), pl (.int .i64 x.Pages), pl (.bool x.See)], fun _ => rfl, fun x p hp => by
  have h : ∀ p ∈ [pl (.int .u64 x.A), pl (.int .u64 x.B), pl (.int .i64 x.Pages), pl (.bool x.See)], Pd.One p := (ones_cons (one_pl rfl) (ones_cons (one_pl rfl) (ones_cons (one_pl rfl) (ones_cons (one_pl rfl) ones_nil))))
  exact h p hp⟩
def F_l32giveExt_b0 (p0 : (List Stx)) (t_2 : (List Stx) × Int) : Option (((List Stx) × Int) ⊕ (((List Stx)))) :=
  ifb (decide (t_2.2 < (p0.length : Int))) (ixb p0 t_2.2 fun x_4 => grd (Fits 16 (t_2.1.length + ([x_4] : (List Stx)).length)) <| some (.inl ((t_2.1 ++ ([x_4] : (List Stx))), IntKind.i64.wrap (t_2.2 + 1)))) (some (.inr t_2.1))
def F_l32giveExt (fl : Nat) (p0 : (List Stx)) : Option ((List Stx)) :=
  bnd (lp (F_l32giveExt_b0 p0) fl (([] : (List Stx)), 0)) fun z_1 => some z_1
set_option maxRecDepth 100000 in
set_option maxHeartbeats 2000000 in
theorem c_l32giveExt {fl : Nat} {p0 : (List Stx)} {R : (List Stx)} (h0 : F_l32giveExt fl p0 = some R) : Pure Tryd.prog 104 [sl kStx none none p0] (sl kStx none none R) := by
  intro s
  unfold F_l32giveExt at h0
  refine ac_of_aw s.boxes.length s.fr.length Tryd.func104 rfl (by simp [Tryd.ntmps104]) ?_
  refine aw_ext0 ?_
  refine aw_keep [(0, _)] ⟨lg ez, trivial⟩ ?_
  refine aw_seq ?_
  refine aw_region (by decide) ?_
  refine rts _ rfl (opD_assign (ev_const _ _)) ?_
  refine .nil ?_
  refine aw_keep [(0, _)] ⟨lg (ls rfl oz), trivial⟩ ?_
  refine aw_seq ?_
  refine aw_region (by decide) ?_
  refine rts _ rfl (opD_assign (ev_const _ _)) ?_
  refine .nil ?_
  refine aw_keep [(0, _), (3, _)] ⟨lg (ls rfl oz), lg lz, trivial⟩ ?_
  refine aw_seq ?_
  refine aw_seq ?_
  refine aw_region (by decide) ?_
  refine rts _ rfl (opD_assign (ev_const _ _)) ?_
  refine .nil ?_
  refine aw_keep [(0, _), (3, _), (4, _)] ⟨lg (ls rfl oz), lg (ls rfl (os rfl oz)), lg lz, trivial⟩ ?_
  replace h0 := bnd_some h0
  obtain ⟨z_1, hz_1, h0⟩ := h0
  refine aw_mid (fun e st => ∃ v : (List Stx), Holds e [(3, sl kStx none none v)] ∧ st = s.ext [] [] ∧ v = z_1) ?_ ?_
  · skip
    refine aw_wkN rfl 0 0 rfl rfl ?_
    refine aw_block ?_
    refine aw_fr ⟨114, 2, 0⟩ ?_
    refine aw_loop (fun n e st => ∃ v : (List Stx) × Int, Holds e [(0, sl kStx none none p0), (3, sl kStx (some (s.fr.length + 0)) none v.1), (4, pl (.int .i64 v.2))] ∧ st = s.ext [] [⟨114, 2, v.1.length⟩] ∧ lp (F_l32giveExt_b0 p0) n v = some z_1) fl ⟨(([] : (List Stx)), 0), ⟨le_of_eq (eg oz), (le_of_eq (eg (os rfl oz))).trans (nil_own rfl), le_of_eq (eg (os rfl (os rfl oz))), trivial⟩, rfl, hz_1⟩ ?_
    rintro n e st ⟨t_2, hH, rfl, hz_1⟩
    replace hz_1 := lp_some hz_1
    obtain ⟨m_z_3, z_3, rfl, hz_3, hz_1⟩ := hz_1
    unfold F_l32giveExt_b0 at hz_3
    refine aw_keep _ hH ?_
    refine aw_wkN rfl 0 1 rfl rfl ?_
    refine aw_seq ?_
    refine aw_seq ?_
    refine aw_region (by decide) ?_
    refine rts _ rfl (opD_move (os rfl (os rfl oz))) ?_
    refine rts _ rfl (opD_move (ls rfl oz)) ?_
    refine rts _ rfl (opD_len_sl Tryd.underlying101 lz) ?_
    refine rts _ rfl (opD_lss (ls rfl (ls rfl lz)) lz) ?_
    refine .nil ?_
    refine aw_keep [(0, _), (3, _), (4, _), (8, _)] ⟨lg (ls rfl (ls rfl (ls rfl (ls rfl oz)))), lg (ls rfl (ls rfl (ls rfl (ls rfl (os rfl oz))))), lg (ls rfl (ls rfl (ls rfl (ls rfl (os rfl (os rfl oz)))))), lg lz, trivial⟩ ?_
    refine aw_cond _ (os rfl (os rfl (os rfl oz))) (fun hc => ?_) (fun hc => ?_)
    · skip
      replace hz_3 := ifb_t hz_3 hc
      clear hc
      refine aw_skip ?_
      refine aw_keep [(0, _), (3, _), (4, _)] ⟨lg oz, lg (os rfl oz), lg (os rfl (os rfl oz)), trivial⟩ ?_
      refine aw_seq ?_
      refine aw_block ?_
      refine aw_region (by decide) ?_
      refine rts _ rfl (opD_move (os rfl oz)) ?_
      refine rts _ rfl (opD_move (ls rfl oz)) ?_
      refine rts _ rfl (opD_move (ls rfl (ls rfl (os rfl (os rfl oz))))) ?_
      replace hz_3 := ixb_some hz_3
      obtain ⟨x_4, hx_4, hbx_4, hz_3⟩ := hz_3
      refine rts _ rfl (opD_indexAddr_sl (i := t_2.2.toNat) Tryd.underlying101 sz232_W7 (ls rfl lz) lz hbx_4.2.2 hbx_4.2.1) ?_
      refine rts _ rfl (opD_load_el_aggX (qs := [_, _]) ag232_W7 sz232_W7 lz hx_4 (zNb rfl) rfl) ?_
      refine rts _ rfl (opD_buildOwn (k := kStx) ([x_4] : (List Stx)) Tryd.underlying79 sz114_W7 zt114_W7 (by decide) rfl (parts_cons (cellsA lz) parts_nil) rfl rfl (by first | exact List.length_nil | (simp only [List.length_cons, List.length_nil, Nat.zero_add, Nat.reduceAdd] <;> rfl)) (by simp only [znz] <;> rfl)) ?_
      replace hz_3 := grd_some hz_3
      obtain ⟨hg_6, hz_3⟩ := hz_3
      refine rts _ rfl (opD_appendX Tryd.underlying79 el114_W7 (ls rfl (ls rfl (ls rfl (ls rfl (ls rfl lz))))) lz rfl hg_6.1 hg_6.2 rfl (by simp only [znz] <;> rfl)) ?_
      refine rts _ rfl (opD_assign lz) ?_
      refine .nil ?_
      refine aw_keep [(0, _), (3, _), (4, _)] ⟨lg (ls rfl (ls rfl (ls rfl (ls rfl (ls rfl (ls rfl (ls rfl (ls rfl oz)))))))), lg lz, lg (ls rfl (ls rfl (ls rfl (ls rfl (ls rfl (ls rfl (ls rfl (ls rfl (os rfl (os rfl oz)))))))))), trivial⟩ ?_
      refine aw_region (by decide) ?_
      refine rts _ rfl (opD_move (os rfl (os rfl oz))) ?_
      refine rts _ rfl (opD_add lz (ev_const _ _) rfl) ?_
      refine rts _ rfl (opD_assign lz) ?_
      refine .nil ?_
      obtain rfl := some_of hz_3
      replace hz_1 := ocs_l hz_1
      refine wk_yesN rfl (l := [(0, sl kStx none none p0), (3, sl kStx (some (s.fr.length + 0)) none (t_2.1 ++ ([x_4] : (List Stx)))), (4, pl (.int .i64 (IntKind.i64.wrap (t_2.2 + 1))))]) (bs' := []) ⟨le_of_eq (eg (ls rfl (ls rfl (ls rfl oz)))), le_of_eq (eg (ls rfl (ls rfl (ls rfl (os rfl oz))))), le_of_eq (eg lz), trivial⟩ (zbc (sl_b kb_Stx) (zbc (sl_ob kb_Stx (by first | omega | (simp only [List.length_append, List.length_cons, List.length_nil, ext_fr_length, upd_fr_length]; omega))) (zbc zPb bnd_nil))) (zNb rfl) (by simp only [znz] <;> rfl) bxle_nil rfl (by simp only [znz] <;> rfl) bl_nil ?_
      exact ⟨m_z_3, Nat.lt_succ_self _, ((t_2.1 ++ ([x_4] : (List Stx))), IntKind.i64.wrap (t_2.2 + 1)), ⟨le_of_eq (eg oz), le_of_eq (eg (os rfl oz)), le_of_eq (eg (os rfl (os rfl oz))), trivial⟩, rfl, hz_1⟩
    · skip
      replace hz_3 := ifb_f hz_3 hc
      clear hc
      refine aw_exit ?_
      obtain rfl := some_of hz_3
      replace hz_1 := ocs_r hz_1
      refine wk_no ?_
      refine wk_yesN rfl (l := [(3, sl kStx none none t_2.1)]) (bs' := []) ⟨(le_of_eq (eg (os rfl oz))).trans (sl_le _ (some (s.fr.length + 0)) none _), trivial⟩ (zbc (sl_b kb_Stx) bnd_nil) (zNb rfl) (by simp only [znz] <;> rfl) bxle_nil rfl (by simp only [znz] <;> rfl) bl_nil ?_
      exact ⟨t_2.1, ⟨le_of_eq (eg oz), trivial⟩, rfl, some_of hz_1⟩
  · rintro e st ⟨vz_1, hH, rfl, rfl⟩
    refine aw_keep _ hH ?_
    refine aw_keep [(3, _)] ⟨lg oz, trivial⟩ ?_
    refine aw_seq ?_
    refine aw_region (by decide) ?_
    refine rts _ rfl (opD_move oz) ?_
    refine rts _ rfl (opD_assign lz) ?_
    refine .nil ?_
    refine aw_keep [(2, _)] ⟨lg lz, trivial⟩ ?_
    refine aw_ret ?_
    obtain rfl := some_of h0
    exact done_ext (.inr rfl) ((res_one rfl (it_tmp oz)).le zLr) (sl_b kb_Stx)

def F_l32giveDir_b0 (fl : Nat) (p0 : Dirr) (t_2 : Int × Dir) : Option ((Int × Dir) ⊕ ((Dir))) :=
  ifb (decide (t_2.1 < 16)) (grd (Below t_2.1 16) <| grd (Below t_2.1 16) <| grd (Below t_2.1 16) <| bnd (F_l32giveExt fl ((p0.L.getD t_2.1.toNat (default : Tenant)).Ext)) fun x_4 => grd (Below t_2.1 16) <| some (.inl (IntKind.i64.wrap (t_2.1 + 1), ({ t_2.2 with L := aset 16 (default : Tenant) t_2.2.L t_2.1.toNat (⟨(p0.L.getD t_2.1.toNat (default : Tenant)).ID, (p0.L.getD t_2.1.toNat (default : Tenant)).Gen, x_4⟩ : Tenant) } : Dir)))) (some (.inr t_2.2))
def F_l32giveDir (fl : Nat) (p0 : Dirr) : Option (Dir) :=
  bnd (lp (F_l32giveDir_b0 fl p0) fl (0, ({ (default : Dir) with Seq := p0.Seq, Gen := p0.Gen, Pages := p0.Pages, M := p0.M } : Dir))) fun z_1 => some z_1
set_option maxRecDepth 100000 in
set_option maxHeartbeats 2000000 in
theorem c_l32giveDir {fl : Nat} {p0 : Dirr} {R : Dir} (h0 : F_l32giveDir fl p0 = some R) : Pure Tryd.prog 52 [agg (kDirr.cs p0)] (agg (kDir.cs R)) := by
  intro s
  unfold F_l32giveDir at h0
  refine ac_of_aw s.boxes.length s.fr.length Tryd.func52 rfl (by simp [Tryd.ntmps52]) ?_
  refine aw_ext0 ?_
  refine aw_keep [(0, _)] ⟨lg ez, trivial⟩ ?_
  refine aw_seq ?_
  refine aw_region (by decide) ?_
  refine rts _ rfl (boxAN (n := 0) rfl oz (kb_Dirr _ _ _) (by first | exact List.length_nil | (simp only [List.length_cons, List.length_nil, Nat.zero_add, Nat.reduceAdd] <;> rfl)) (by simp only [znz] <;> rfl)) ?_
  refine rts _ rfl (opD_wkN rfl (allocN (bs' := [⟨106, (kDirr.cs p0)⟩, ⟨86, zl1⟩]) rfl zt86_W7 (by first | exact List.length_nil | (simp only [List.length_cons, List.length_nil, Nat.zero_add, Nat.reduceAdd] <;> rfl)) (by simp only [znz] <;> rfl)) (bxle_same (bxle_cons (B := ⟨86, zl1⟩) (C := ⟨86, kDir.cs (default : Dir)⟩) (@Eq.refl TypeId 86) kDir_zero bxle_nil)) (bl_cons (kb_Dirr _ _ _) (bl_cons (kb_Dir _ _ _) bl_nil))) ?_
  refine .nil ?_
  refine aw_keep [(1, _), (2, _)] ⟨lg (ls rfl lz), lg lz, trivial⟩ ?_
  refine aw_seq ?_
  refine aw_region (by decide) ?_
  refine rts _ rfl (opD_fieldAddr fo106_0_W7 oz) ?_
  refine rts _ rfl (opD_load_one ag56_W7 lz (loc_getN rfl rfl) rfl) ?_
  refine rts _ rfl (opD_fieldAddr fo106_1_W7 (ls rfl (ls rfl oz))) ?_
  refine rts _ rfl (opD_load_one ag56_W7 lz (loc_getN rfl rfl) rfl) ?_
  refine rts _ rfl (opD_fieldAddr fo106_2_W7 (ls rfl (ls rfl (ls rfl (ls rfl oz))))) ?_
  refine rts _ rfl (opD_load_one ag3_W7 lz (loc_getN rfl rfl) rfl) ?_
  refine rts _ rfl (opD_fieldAddr fo106_4_W7 (ls rfl (ls rfl (ls rfl (ls rfl (ls rfl (ls rfl oz))))))) ?_
  refine rts _ rfl (opD_load_aggX ag83_W7 sz83_W7 lz (loc_getN rfl rfl) (by rw [kDirr_len]; decide) (kDirr_w_M _)) ?_
  refine rts _ rfl (opD_ple (q := agg (kDir.cs ({ (default : Dir) with Seq := p0.Seq, Gen := p0.Gen, Pages := p0.Pages, M := p0.M } : Dir))) rfl (opD_le (opD_build_struct (rs := [pl (.int .u64 p0.Seq), pl (.int .u64 p0.Gen), pl (.int .i64 p0.Pages), pl (.int .u64 0), pl (.int .u64 0), pl (.slice none 0 0), pl (.int .u64 0), pl (.int .u64 0), pl (.slice none 0 0), pl (.int .u64 0), pl (.int .u64 0), pl (.slice none 0 0), pl (.int .u64 0), pl (.int .u64 0), pl (.slice none 0 0), pl (.int .u64 0), pl (.int .u64 0), pl (.slice none 0 0), pl (.int .u64 0), pl (.int .u64 0), pl (.slice none 0 0), pl (.int .u64 0), pl (.int .u64 0), pl (.slice none 0 0), pl (.int .u64 0), pl (.int .u64 0), pl (.slice none 0 0), pl (.int .u64 0), pl (.int .u64 0), pl (.slice none 0 0), pl (.int .u64 0), pl (.int .u64 0), pl (.slice none 0 0), pl (.int .u64 0), pl (.int .u64 0), pl (.slice none 0 0), pl (.int .u64 0), pl (.int .u64 0), pl (.slice none 0 0), pl (.int .u64 0), pl (.int .u64 0), pl (.slice none 0 0), pl (.int .u64 0), pl (.int .u64 0), pl (.slice none 0 0), pl (.int .u64 0), pl (.int .u64 0), pl (.slice none 0 0), pl (.int .u64 0), pl (.int .u64 0), pl (.slice none 0 0), pl (.int .u16 (p0.M.getD 0 (0 : Int))), pl (.int .u16 (p0.M.getD 1 (0 : Int))), pl (.int .u16 (p0.M.getD 2 (0 : Int))), pl (.int .u16 (p0.M.getD 3 (0 : Int))), pl (.int .u16 (p0.M.getD 4 (0 : Int))), pl (.int .u16 (p0.M.getD 5 (0 : Int))), pl (.int .u16 (p0.M.getD 6 (0 : Int))), pl (.int .u16 (p0.M.getD 7 (0 : Int))), pl (.int .u16 (p0.M.getD 8 (0 : Int))), pl (.int .u16 (p0.M.getD 9 (0 : Int))), pl (.int .u16 (p0.M.getD 10 (0 : Int))), pl (.int .u16 (p0.M.getD 11 (0 : Int))), pl (.int .u16 (p0.M.getD 12 (0 : Int))), pl (.int .u16 (p0.M.getD 13 (0 : Int))), pl (.int .u16 (p0.M.getD 14 (0 : Int))), pl (.int .u16 (p0.M.getD 15 (0 : Int)))]) Tryd.underlying86 pt86_W7 zt86_W7 (parts_cons (cells1 (ls rfl (ls rfl (ls rfl (ls rfl (ls rfl (ls rfl lz)))))) (one_pl rfl)) (parts_cons (cells1 (ls rfl (ls rfl (ls rfl (ls rfl lz)))) (one_pl rfl)) (parts_cons (cells1 (ls rfl (ls rfl lz)) (one_pl rfl)) (parts_cons (cellsA lz) parts_nil)))) rfl) (agg_le ⟨Pd.le_refl _, Pd.le_refl _, Pd.le_refl _, Pd.le_refl _, Pd.le_refl _, le_nil rfl, Pd.le_refl _, Pd.le_refl _, le_nil rfl, Pd.le_refl _, Pd.le_refl _, le_nil rfl, Pd.le_refl _, Pd.le_refl _, le_nil rfl, Pd.le_refl _, Pd.le_refl _, le_nil rfl, Pd.le_refl _, Pd.le_refl _, le_nil rfl, Pd.le_refl _, Pd.le_refl _, le_nil rfl, Pd.le_refl _, Pd.le_refl _, le_nil rfl, Pd.le_refl _, Pd.le_refl _, le_nil rfl, Pd.le_refl _, Pd.le_refl _, le_nil rfl, Pd.le_refl _, Pd.le_refl _, le_nil rfl, Pd.le_refl _, Pd.le_refl _, le_nil rfl, Pd.le_refl _, Pd.le_refl _, le_nil rfl, Pd.le_refl _, Pd.le_refl _, le_nil rfl, Pd.le_refl _, Pd.le_refl _, le_nil rfl, Pd.le_refl _, Pd.le_refl _, le_nil rfl, Pd.le_refl _, Pd.le_refl _, Pd.le_refl _, Pd.le_refl _, Pd.le_refl _, Pd.le_refl _, Pd.le_refl _, Pd.le_refl _, Pd.le_refl _, Pd.le_refl _, Pd.le_refl _, Pd.le_refl _, Pd.le_refl _, Pd.le_refl _, Pd.le_refl _, Pd.le_refl _, trivial⟩))) ?_
  refine rts _ rfl (opD_wkN rfl (allocN (bs' := [⟨106, (kDirr.cs p0)⟩, ⟨86, (kDir.cs (default : Dir))⟩, ⟨86, zl1⟩]) rfl zt86_W7 (by first | exact List.length_nil | (simp only [List.length_cons, List.length_nil, Nat.zero_add, Nat.reduceAdd] <;> rfl)) (by simp only [znz] <;> rfl)) (bxle_same (bxle_same (bxle_cons (B := ⟨86, zl1⟩) (C := ⟨86, kDir.cs (default : Dir)⟩) (@Eq.refl TypeId 86) kDir_zero bxle_nil))) (bl_cons (kb_Dirr _ _ _) (bl_cons (kb_Dir _ _ _) (bl_cons (kb_Dir _ _ _) bl_nil)))) ?_
  refine rts _ rfl (storeAN (cs' := kDir.cs ({ (default : Dir) with Seq := p0.Seq, Gen := p0.Gen, Pages := p0.Pages, M := p0.M } : Dir)) rfl sz86_W7 lz (ls rfl lz) (fun p_ h_ => kDir.one _ p_ h_) rfl (kDir_len _) (by rw [kDir_len]; exact Nat.le_refl _) (by intro h_; have := congrArg List.length h_; rw [kDir_len] at this; cases this) (kb_Dir _ _ _) (kDir_put _ _) (by simp only [znz] <;> rfl)) ?_
  refine .nil ?_
  refine aw_keep [(1, _), (2, _), (3, _)] ⟨lg (lx (ls rfl (ls rfl (ls rfl (ls rfl (ls rfl (ls rfl (ls rfl (ls rfl (ls rfl (ls rfl oz))))))))))), lg (lx (ls rfl (ls rfl (ls rfl (ls rfl (ls rfl (ls rfl (ls rfl (ls rfl (ls rfl (ls rfl (os rfl oz)))))))))))), lg (lx lz), trivial⟩ ?_
  refine aw_seq ?_
  refine aw_seq ?_
  refine aw_region (by decide) ?_
  refine rts _ rfl (opD_assign (ev_const _ _)) ?_
  refine .nil ?_
  refine aw_keep [(1, _), (2, _), (3, _), (4, _)] ⟨lg (ls rfl oz), lg (ls rfl (os rfl oz)), lg (ls rfl (os rfl (os rfl oz))), lg lz, trivial⟩ ?_
  replace h0 := bnd_some h0
  obtain ⟨z_1, hz_1, h0⟩ := h0
  refine aw_mid (fun e st => ∃ v : Dir, Holds e [(2, ptr (s.boxes.length + 1) 0), (3, ptr (s.boxes.length + 2) 0)] ∧ st = s.ext [⟨106, (kDirr.cs p0)⟩, ⟨86, (kDir.cs (default : Dir))⟩, ⟨86, (kDir.cs v)⟩] [] ∧ v = z_1) ?_ ?_
  · skip
    refine aw_wkN rfl 3 0 rfl rfl ?_
    refine aw_block ?_
    refine aw_loop (fun n e st => ∃ v : Int × Dir, Holds e [(1, ptr (s.boxes.length + 0) 0), (2, ptr (s.boxes.length + 1) 0), (3, ptr (s.boxes.length + 2) 0), (4, pl (.int .i64 v.1))] ∧ st = s.ext [⟨106, (kDirr.cs p0)⟩, ⟨86, (kDir.cs (default : Dir))⟩, ⟨86, (kDir.cs v.2)⟩] [] ∧ lp (F_l32giveDir_b0 fl p0) n v = some z_1) fl ⟨(0, ({ (default : Dir) with Seq := p0.Seq, Gen := p0.Gen, Pages := p0.Pages, M := p0.M } : Dir)), ⟨le_of_eq (eg oz), le_of_eq (eg (os rfl oz)), le_of_eq (eg (os rfl (os rfl oz))), le_of_eq (eg (os rfl (os rfl (os rfl oz)))), trivial⟩, rfl, hz_1⟩ ?_
    rintro n e st ⟨t_2, hH, rfl, hz_1⟩
    replace hz_1 := lp_some hz_1
    obtain ⟨m_z_3, z_3, rfl, hz_3, hz_1⟩ := hz_1
    unfold F_l32giveDir_b0 at hz_3
    refine aw_keep _ hH ?_
    refine aw_wkN rfl 3 0 rfl rfl ?_
    refine aw_seq ?_
    refine aw_seq ?_
    refine aw_region (by decide) ?_
    refine rts _ rfl (opD_move (os rfl (os rfl (os rfl oz)))) ?_
    refine rts _ rfl (opD_lss lz (ev_const _ _)) ?_
    refine .nil ?_
    refine aw_keep [(1, _), (2, _), (3, _), (4, _), (15, _)] ⟨lg (ls rfl (ls rfl oz)), lg (ls rfl (ls rfl (os rfl oz))), lg (ls rfl (ls rfl (os rfl (os rfl oz)))), lg (ls rfl (ls rfl (os rfl (os rfl (os rfl oz))))), lg lz, trivial⟩ ?_
    refine aw_cond _ (os rfl (os rfl (os rfl (os rfl oz)))) (fun hc => ?_) (fun hc => ?_)
    · skip
      replace hz_3 := ifb_t hz_3 hc
      clear hc
      refine aw_skip ?_
      refine aw_keep [(1, _), (2, _), (3, _), (4, _)] ⟨lg oz, lg (os rfl oz), lg (os rfl (os rfl oz)), lg (os rfl (os rfl (os rfl oz))), trivial⟩ ?_
      refine aw_seq ?_
      refine aw_block ?_
      refine aw_drawn [false, false, false, false, false, false, false, false, false, false, false, false, false, false, false, false, false, false, false, false, true] [[0], [0], [0], [0], [0], [0], [0], [0], [0], [0], [0], [0], [0], [0], [0], [0], [0], [0], [0], [0], [0, 1]] mixed_W7 (by decide +kernel) ?_
      refine dtp _ rfl (fun s => opD_move (os rfl (os rfl (os rfl oz)))) ?_
      refine dtp _ rfl (fun s => opD_move (ls rfl (os rfl (os rfl (os rfl oz))))) ?_
      refine dtp _ rfl (fun s => opD_fieldAddr fo106_3_W7 (ls rfl (ls rfl oz))) ?_
      replace hz_3 := grd_some hz_3
      obtain ⟨hg_29, hz_3⟩ := hz_3
      refine dtp _ rfl (fun s => opD_indexAddr_arr (i := t_2.1.toNat) Tryd.underlying104 sz103_W7 lz (ls rfl lz) hg_29.eq hg_29.2) ?_
      refine dtp _ rfl (fun s => opD_fieldAddr fo103_0_W7 lz) ?_
      refine dtl _ (fun s' => s'.boxes[(s.boxes.length + 0)]? = some ⟨106, (kDirr.cs p0)⟩) rfl (fun s' hs' => opD_load_one ag56_W7 lz hs' ((kDirr_e_L _ (j := 0) hg_29.2 (by decide)).trans rfl)) ?_
      refine dtp _ rfl (fun s => opD_move (ls rfl (ls rfl (ls rfl (ls rfl (ls rfl (ls rfl (os rfl (os rfl (os rfl oz)))))))))) ?_
      refine dtp _ rfl (fun s => opD_fieldAddr fo106_3_W7 (ls rfl (ls rfl (ls rfl (ls rfl (ls rfl (ls rfl (ls rfl oz)))))))) ?_
      replace hz_3 := grd_some hz_3
      obtain ⟨hg_30, hz_3⟩ := hz_3
      refine dtp _ rfl (fun s => opD_indexAddr_arr (i := t_2.1.toNat) Tryd.underlying104 sz103_W7 lz (ls rfl lz) hg_30.eq hg_30.2) ?_
      refine dtp _ rfl (fun s => opD_fieldAddr fo103_1_W7 lz) ?_
      refine dtl _ (fun s' => s'.boxes[(s.boxes.length + 0)]? = some ⟨106, (kDirr.cs p0)⟩) rfl (fun s' hs' => opD_load_one ag56_W7 lz hs' ((kDirr_e_L _ (j := 1) hg_30.2 (by decide)).trans rfl)) ?_
      refine dtp _ rfl (fun s => opD_move (ls rfl (ls rfl (ls rfl (ls rfl (ls rfl (ls rfl (ls rfl (ls rfl (ls rfl (ls rfl (ls rfl (os rfl (os rfl (os rfl oz))))))))))))))) ?_
      refine dtp _ rfl (fun s => opD_fieldAddr fo106_3_W7 (ls rfl (ls rfl (ls rfl (ls rfl (ls rfl (ls rfl (ls rfl (ls rfl (ls rfl (ls rfl (ls rfl (ls rfl oz))))))))))))) ?_
      replace hz_3 := grd_some hz_3
      obtain ⟨hg_31, hz_3⟩ := hz_3
      refine dtp _ rfl (fun s => opD_indexAddr_arr (i := t_2.1.toNat) Tryd.underlying104 sz103_W7 lz (ls rfl lz) hg_31.eq hg_31.2) ?_
      refine dtp _ rfl (fun s => opD_fieldAddr fo103_2_W7 lz) ?_
      refine dtl _ (fun s' => s'.boxes[(s.boxes.length + 0)]? = some ⟨106, (kDirr.cs p0)⟩) rfl (fun s' hs' => opD_load_one ag101_W7 lz hs' ((kDirr_e_L _ (j := 2) hg_31.2 (by decide)).trans rfl)) ?_
      replace hz_3 := bnd_some hz_3
      obtain ⟨x_4, hx_4, hz_3⟩ := hz_3
      refine dtp _ rfl (fun s => opD_pure ht104_W7 (c_l32giveExt hx_4) ⟨le_of_eq lz, trivial⟩) ?_
      refine dtp _ rfl (fun s => opD_build_struct (rs := [_, _, _]) Tryd.underlying81 pt81_W7 zt81_W7 (parts_cons (cells1 (ls rfl (ls rfl (ls rfl (ls rfl (ls rfl (ls rfl (ls rfl (ls rfl (ls rfl (ls rfl (ls rfl lz))))))))))) (one_pl rfl)) (parts_cons (cells1 (ls rfl (ls rfl (ls rfl (ls rfl (ls rfl (ls rfl lz)))))) (one_pl rfl)) (parts_cons (cells1 lz (one_sl _ _ _ _)) parts_nil))) (fill_step rfl (by rfl) (by rfl) (by simp only [na, nb, nl, nc, nd, nh, ni, nj, nk, nm, Nat.reduceAdd] <;> rfl) (fill_step rfl (by rfl) (by rfl) (by simp only [na, nb, nl, nc, nd, nh, ni, nj, nk, nm, Nat.reduceAdd] <;> rfl) (fill_step rfl (by rfl) (by rfl) (by simp only [na, nb, nl, nc, nd, nh, ni, nj, nk, nm, Nat.reduceAdd] <;> rfl) fill_nil)))) ?_
      refine dtp _ rfl (fun s => opD_fieldAddr fo86_3_W7 (ls rfl (ls rfl (ls rfl (ls rfl (ls rfl (ls rfl (ls rfl (ls rfl (ls rfl (ls rfl (ls rfl (ls rfl (ls rfl (ls rfl (ls rfl (ls rfl (ls rfl (ls rfl (os rfl (os rfl oz))))))))))))))))))))) ?_
      replace hz_3 := grd_some hz_3
      obtain ⟨hg_32, hz_3⟩ := hz_3
      refine dtp _ rfl (fun s => opD_indexAddr_arr (i := t_2.1.toNat) Tryd.underlying82 sz81_W7 lz (ls rfl (ls rfl (ls rfl (ls rfl (ls rfl (ls rfl (ls rfl (ls rfl (ls rfl (ls rfl (ls rfl (ls rfl (ls rfl (ls rfl (ls rfl (ls rfl (ls rfl (ls rfl lz)))))))))))))))))) hg_32.eq hg_32.2) ?_
      refine dta _ rfl (storeAN (cs' := kDir.cs ({ t_2.2 with L := aset 16 (default : Tenant) t_2.2.L t_2.1.toNat (⟨(p0.L.getD t_2.1.toNat (default : Tenant)).ID, (p0.L.getD t_2.1.toNat (default : Tenant)).Gen, x_4⟩ : Tenant) } : Dir)) rfl sz81_W7 lz ((ls rfl (ls rfl lz)).trans (show _ = agg (Kn.cs kTenant (⟨(p0.L.getD t_2.1.toNat (default : Tenant)).ID, (p0.L.getD t_2.1.toNat (default : Tenant)).Gen, x_4⟩ : Tenant)) from rfl)) (fun p_ h_ => Kn.one kTenant _ p_ h_) rfl rfl (by have h_ := hg_32.2; rw [kDir_len]; omega) (by intro h_; have := congrArg List.length h_; rw [kDir_len] at this; cases this) (kb_Tenant _ _ _) (kDir_u_L _ hg_32.2) (by simp only [znz] <;> rfl)) ?_
      refine .nil ?_
      dsimp only [List.nil_append, List.cons_append]
      refine ⟨rfl, ⟨trivial, trivial, trivial, trivial, trivial, ⟨(by first | exact loc_getN rfl rfl | exact ⟨_, loc_getN rfl rfl⟩ ), trivial⟩, trivial, trivial, trivial, trivial, ⟨(by first | exact loc_getN rfl rfl | exact ⟨_, loc_getN rfl rfl⟩ ), trivial⟩, trivial, trivial, trivial, trivial, ⟨(by first | exact loc_getN rfl rfl | exact ⟨_, loc_getN rfl rfl⟩ ), trivial⟩, trivial, trivial, trivial, trivial, trivial, trivial⟩, ?_⟩
      refine aw_keep [(1, _), (2, _), (3, _), (4, _)] ⟨lg (lx (ls rfl (ls rfl (ls rfl (ls rfl (ls rfl (ls rfl (ls rfl (ls rfl (ls rfl (ls rfl (ls rfl (ls rfl (ls rfl (ls rfl (ls rfl (ls rfl (ls rfl (ls rfl (ls rfl (ls rfl oz))))))))))))))))))))), lg (lx (ls rfl (ls rfl (ls rfl (ls rfl (ls rfl (ls rfl (ls rfl (ls rfl (ls rfl (ls rfl (ls rfl (ls rfl (ls rfl (ls rfl (ls rfl (ls rfl (ls rfl (ls rfl (ls rfl (ls rfl (os rfl oz)))))))))))))))))))))), lg (lx (ls rfl (ls rfl (ls rfl (ls rfl (ls rfl (ls rfl (ls rfl (ls rfl (ls rfl (ls rfl (ls rfl (ls rfl (ls rfl (ls rfl (ls rfl (ls rfl (ls rfl (ls rfl (ls rfl (ls rfl (os rfl (os rfl oz))))))))))))))))))))))), lg (lx (ls rfl (ls rfl (ls rfl (ls rfl (ls rfl (ls rfl (ls rfl (ls rfl (ls rfl (ls rfl (ls rfl (ls rfl (ls rfl (ls rfl (ls rfl (ls rfl (ls rfl (ls rfl (ls rfl (ls rfl (os rfl (os rfl (os rfl oz)))))))))))))))))))))))), trivial⟩ ?_
      refine aw_region (by decide) ?_
      refine rts _ rfl (opD_move (os rfl (os rfl (os rfl oz)))) ?_
      refine rts _ rfl (opD_add lz (ev_const _ _) rfl) ?_
      refine rts _ rfl (opD_assign lz) ?_
      refine .nil ?_
      obtain rfl := some_of hz_3
      replace hz_1 := ocs_l hz_1
      refine wk_yesN rfl (l := [(1, ptr (s.boxes.length + 0) 0), (2, ptr (s.boxes.length + 1) 0), (3, ptr (s.boxes.length + 2) 0), (4, pl (.int .i64 (IntKind.i64.wrap (t_2.1 + 1))))]) (bs' := [⟨106, (kDirr.cs p0)⟩, ⟨86, (kDir.cs (default : Dir))⟩, ⟨86, (kDir.cs ({ t_2.2 with L := aset 16 (default : Tenant) t_2.2.L t_2.1.toNat (⟨(p0.L.getD t_2.1.toNat (default : Tenant)).ID, (p0.L.getD t_2.1.toNat (default : Tenant)).Gen, x_4⟩ : Tenant) } : Dir))⟩]) ⟨le_of_eq (eg (ls rfl (ls rfl (ls rfl oz)))), le_of_eq (eg (ls rfl (ls rfl (ls rfl (os rfl oz))))), le_of_eq (eg (ls rfl (ls rfl (ls rfl (os rfl (os rfl oz)))))), le_of_eq (eg lz), trivial⟩ (zbc (ptr_bnd _ (by first | omega | (simp only [List.length_append, List.length_cons, List.length_nil]; omega))) (zbc (ptr_bnd _ (by first | omega | (simp only [List.length_append, List.length_cons, List.length_nil]; omega))) (zbc (ptr_bnd _ (by first | omega | (simp only [List.length_append, List.length_cons, List.length_nil]; omega))) (zbc zPb bnd_nil)))) (zNb rfl) (by simp only [znz] <;> rfl) (bxle_same (bxle_same (bxle_same bxle_nil))) rfl (by simp only [znz] <;> rfl) (bl_cons (kb_Dirr _ _ _) (bl_cons (kb_Dir _ _ _) (bl_cons (kb_Dir _ _ _) bl_nil))) ?_
      exact ⟨m_z_3, Nat.lt_succ_self _, (IntKind.i64.wrap (t_2.1 + 1), ({ t_2.2 with L := aset 16 (default : Tenant) t_2.2.L t_2.1.toNat (⟨(p0.L.getD t_2.1.toNat (default : Tenant)).ID, (p0.L.getD t_2.1.toNat (default : Tenant)).Gen, x_4⟩ : Tenant) } : Dir)), ⟨le_of_eq (eg oz), le_of_eq (eg (os rfl oz)), le_of_eq (eg (os rfl (os rfl oz))), le_of_eq (eg (os rfl (os rfl (os rfl oz)))), trivial⟩, rfl, hz_1⟩
    · skip
      replace hz_3 := ifb_f hz_3 hc
      clear hc
      refine aw_exit ?_
      obtain rfl := some_of hz_3
      replace hz_1 := ocs_r hz_1
      refine wk_no ?_
      refine wk_yesN rfl (l := [(2, ptr (s.boxes.length + 1) 0), (3, ptr (s.boxes.length + 2) 0)]) (bs' := [⟨106, (kDirr.cs p0)⟩, ⟨86, (kDir.cs (default : Dir))⟩, ⟨86, (kDir.cs t_2.2)⟩]) ⟨le_of_eq (eg (os rfl oz)), le_of_eq (eg (os rfl (os rfl oz))), trivial⟩ (zbc (ptr_bnd _ (by first | omega | (simp only [List.length_append, List.length_cons, List.length_nil]; omega))) (zbc (ptr_bnd _ (by first | omega | (simp only [List.length_append, List.length_cons, List.length_nil]; omega))) bnd_nil)) (zNb rfl) (by simp only [znz] <;> rfl) (bxle_same (bxle_same (bxle_same bxle_nil))) rfl (by simp only [znz] <;> rfl) (bl_cons (kb_Dirr _ _ _) (bl_cons (kb_Dir _ _ _) (bl_cons (kb_Dir _ _ _) bl_nil))) ?_
      exact ⟨t_2.2, ⟨le_of_eq (eg oz), le_of_eq (eg (os rfl oz)), trivial⟩, rfl, some_of hz_1⟩
  · rintro e st ⟨vz_1, hH, rfl, rfl⟩
    refine aw_keep _ hH ?_
    refine aw_keep [(2, _), (3, _)] ⟨lg oz, lg (os rfl oz), trivial⟩ ?_
    refine aw_seq ?_
    refine aw_region (by decide) ?_
    refine rts _ rfl (opD_load_aggX ag86_W7 sz86_W7 (os rfl oz) (loc_getN rfl rfl) (by rw [kDir_len]; exact Nat.le_refl _) (kDir_full _)) ?_
    refine rts _ rfl (storeAN (cs' := kDir.cs vz_1) rfl sz86_W7 (ls rfl oz) lz (fun p_ h_ => kDir.one _ p_ h_) rfl (kDir_len _) (by rw [kDir_len]; exact Nat.le_refl _) (by intro h_; have := congrArg List.length h_; rw [kDir_len] at this; cases this) (kb_Dir _ _ _) (kDir_put _ _) (by simp only [znz] <;> rfl)) ?_
    refine .nil ?_
    refine aw_keep [(2, _)] ⟨lg (lx (ls rfl oz)), trivial⟩ ?_
    refine aw_ret ?_
    obtain rfl := some_of h0
    exact done_ext (.inr rfl) ((res_one rfl (it_cellA (B := ⟨86, kDir.cs vz_1⟩) ag86_W7 sz86_W7 oz (loc_getN rfl rfl) (kDir_len _))).le zLr) (agg_bnd (kb_Dir _ _ _))

def F_l32bigDir_b0 (p0 : Dirr) (t_2 : Int) : Option ((Int) ⊕ ((Bool) ⊕ (Unit))) :=
  ifb (decide (t_2 < 16)) (grd (Below t_2 16) <| ifb (decide (20 < (((p0.L.getD t_2.toNat (default : Tenant)).Ext).length : Int))) (some (.inr (.inl true))) (some (.inl (IntKind.i64.wrap (t_2 + 1))))) (some (.inr (.inr ())))
def F_l32bigDir (fl : Nat) (p0 : Dirr) : Option (Bool) :=
  bnd (lp (F_l32bigDir_b0 p0) fl 0) fun z_1 => ocs z_1 (fun qz_1_0 => some qz_1_0) fun z_1_0 => some false
set_option maxRecDepth 100000 in
set_option maxHeartbeats 2000000 in
theorem c_l32bigDir {fl : Nat} {p0 : Dirr} {R : Bool} (h0 : F_l32bigDir fl p0 = some R) : Pure Tryd.prog 53 [agg (kDirr.cs p0)] (pl (.bool R)) := by
  intro s
  unfold F_l32bigDir at h0
  refine ac_of_aw s.boxes.length s.fr.length Tryd.func53 rfl (by simp [Tryd.ntmps53]) ?_
  refine aw_ext0 ?_
  refine aw_keep [(0, _)] ⟨lg ez, trivial⟩ ?_
  refine aw_seq ?_
  refine aw_region (by decide) ?_
  refine rts _ rfl (boxAN (n := 0) rfl oz (kb_Dirr _ _ _) (by first | exact List.length_nil | (simp only [List.length_cons, List.length_nil, Nat.zero_add, Nat.reduceAdd] <;> rfl)) (by simp only [znz] <;> rfl)) ?_
  refine rts _ rfl (opD_assign (ev_const _ _)) ?_
  refine .nil ?_
  refine aw_keep [(1, _)] ⟨lg (ls rfl lz), trivial⟩ ?_
  refine aw_seq ?_
  refine aw_seq ?_
  refine aw_region (by decide) ?_
  refine rts _ rfl (opD_assign (ev_const _ _)) ?_
  refine .nil ?_
  refine aw_keep [(1, _), (3, _)] ⟨lg (ls rfl oz), lg lz, trivial⟩ ?_
  replace h0 := bnd_some h0
  obtain ⟨z_1, hz_1, h0⟩ := h0
  refine aw_mid (fun e st => ∃ v : Unit, Holds e [] ∧ st = s.ext [⟨106, (kDirr.cs p0)⟩] [] ∧ (.inr v) = z_1) ?_ ?_
  · skip
    refine aw_wkN rfl 1 0 rfl rfl ?_
    refine aw_block ?_
    refine aw_loop (fun n e st => ∃ v : Int, Holds e [(1, ptr (s.boxes.length + 0) 0), (3, pl (.int .i64 v))] ∧ st = s.ext [⟨106, (kDirr.cs p0)⟩] [] ∧ lp (F_l32bigDir_b0 p0) n v = some z_1) fl ⟨0, ⟨le_of_eq (eg oz), le_of_eq (eg (os rfl oz)), trivial⟩, rfl, hz_1⟩ ?_
    rintro n e st ⟨t_2, hH, rfl, hz_1⟩
    replace hz_1 := lp_some hz_1
    obtain ⟨m_z_3, z_3, rfl, hz_3, hz_1⟩ := hz_1
    unfold F_l32bigDir_b0 at hz_3
    refine aw_keep _ hH ?_
    refine aw_wkN rfl 1 0 rfl rfl ?_
    refine aw_seq ?_
    refine aw_seq ?_
    refine aw_region (by decide) ?_
    refine rts _ rfl (opD_move (os rfl oz)) ?_
    refine rts _ rfl (opD_lss lz (ev_const _ _)) ?_
    refine .nil ?_
    refine aw_keep [(1, _), (3, _), (5, _)] ⟨lg (ls rfl (ls rfl oz)), lg (ls rfl (ls rfl (os rfl oz))), lg lz, trivial⟩ ?_
    refine aw_cond _ (os rfl (os rfl oz)) (fun hc => ?_) (fun hc => ?_)
    · skip
      replace hz_3 := ifb_t hz_3 hc
      clear hc
      refine aw_skip ?_
      refine aw_keep [(1, _), (3, _)] ⟨lg oz, lg (os rfl oz), trivial⟩ ?_
      refine aw_seq ?_
      refine aw_block ?_
      refine aw_seq ?_
      refine aw_region (by decide) ?_
      refine rts _ rfl (opD_move (os rfl oz)) ?_
      refine rts _ rfl (opD_fieldAddr fo106_3_W7 (ls rfl oz)) ?_
      replace hz_3 := grd_some hz_3
      obtain ⟨hg_4, hz_3⟩ := hz_3
      refine rts _ rfl (opD_indexAddr_arr (i := t_2.toNat) Tryd.underlying104 sz103_W7 lz (ls rfl lz) hg_4.eq hg_4.2) ?_
      refine rts _ rfl (opD_fieldAddr fo103_2_W7 lz) ?_
      refine rts _ rfl (opD_load_one ag101_W7 lz (loc_getN rfl rfl) ((kDirr_e_L _ (j := 2) hg_4.2 (by decide)).trans rfl)) ?_
      refine rts _ rfl (opD_len_sl Tryd.underlying101 lz) ?_
      refine rts _ rfl (opD_gtr lz (ev_const _ _)) ?_
      refine .nil ?_
      refine aw_keep [(1, _), (3, _), (14, _)] ⟨lg (ls rfl (ls rfl (ls rfl (ls rfl (ls rfl (ls rfl (ls rfl oz))))))), lg (ls rfl (ls rfl (ls rfl (ls rfl (ls rfl (ls rfl (ls rfl (os rfl oz)))))))), lg lz, trivial⟩ ?_
      refine aw_cond _ (os rfl (os rfl oz)) (fun hc => ?_) (fun hc => ?_)
      · skip
        replace hz_3 := ifb_t hz_3 hc
        clear hc
        refine aw_seq ?_
        refine aw_region (by decide) ?_
        refine rts _ rfl (opD_assign (ev_const _ _)) ?_
        refine .nil ?_
        refine aw_keep [(2, _)] ⟨lg lz, trivial⟩ ?_
        refine aw_ret ?_
        obtain rfl := some_of hz_3
        replace hz_1 := ocs_r hz_1
        obtain rfl := some_of hz_1
        replace h0 := ocs_l h0
        refine wk_no ?_
        refine wk_no ?_
        obtain rfl := some_of h0
        exact done_ext (.inr rfl) ((res_one rfl (it_tmp oz)).le zLr) zPb
      · skip
        replace hz_3 := ifb_f hz_3 hc
        clear hc
        refine aw_skip ?_
        refine aw_keep [(1, _), (3, _)] ⟨lg oz, lg (os rfl oz), trivial⟩ ?_
        refine aw_region (by decide) ?_
        refine rts _ rfl (opD_move (os rfl oz)) ?_
        refine rts _ rfl (opD_add lz (ev_const _ _) rfl) ?_
        refine rts _ rfl (opD_assign lz) ?_
        refine .nil ?_
        obtain rfl := some_of hz_3
        replace hz_1 := ocs_l hz_1
        refine wk_yesN rfl (l := [(1, ptr (s.boxes.length + 0) 0), (3, pl (.int .i64 (IntKind.i64.wrap (t_2 + 1))))]) (bs' := [⟨106, (kDirr.cs p0)⟩]) ⟨le_of_eq (eg (ls rfl (ls rfl (ls rfl oz)))), le_of_eq (eg lz), trivial⟩ (zbc (ptr_bnd _ (by first | omega | (simp only [List.length_append, List.length_cons, List.length_nil]; omega))) (zbc zPb bnd_nil)) (zNb rfl) (by simp only [znz] <;> rfl) (bxle_same bxle_nil) rfl (by simp only [znz] <;> rfl) (bl_cons (kb_Dirr _ _ _) bl_nil) ?_
        exact ⟨m_z_3, Nat.lt_succ_self _, IntKind.i64.wrap (t_2 + 1), ⟨le_of_eq (eg oz), le_of_eq (eg (os rfl oz)), trivial⟩, rfl, hz_1⟩
    · skip
      replace hz_3 := ifb_f hz_3 hc
      clear hc
      refine aw_exit ?_
      obtain rfl := some_of hz_3
      replace hz_1 := ocs_r hz_1
      refine wk_no ?_
      refine wk_yesN rfl (l := []) (bs' := [⟨106, (kDirr.cs p0)⟩]) trivial bnd_nil (zNb rfl) (by simp only [znz] <;> rfl) (bxle_same bxle_nil) rfl (by simp only [znz] <;> rfl) (bl_cons (kb_Dirr _ _ _) bl_nil) ?_
      exact ⟨(), trivial, rfl, some_of hz_1⟩
  · rintro e st ⟨vz_1, hH, rfl, rfl⟩
    refine aw_keep _ hH ?_
    replace h0 := ocs_r h0
    refine aw_keep [] trivial ?_
    refine aw_seq ?_
    refine aw_region (by decide) ?_
    refine rts _ rfl (opD_assign (ev_const _ _)) ?_
    refine .nil ?_
    refine aw_keep [(2, _)] ⟨lg lz, trivial⟩ ?_
    refine aw_ret ?_
    obtain rfl := some_of h0
    exact done_ext (.inr rfl) ((res_one rfl (it_tmp oz)).le zLr) zPb

def F_l32sure (fl : Nat) : Option (Bool) :=
  bnd (F_dCreate fl ({ (default : Dir) with Pages := 40 } : Dir) 7 5) fun x_1 => bnd (F_dCreate fl x_1.1 8 6) fun x_2 => bnd (F_dPlace fl x_2.1 8) fun x_3 => bnd (F_dLink fl x_2.1 7 8 true) fun x_4 => bnd (F_dCreate fl x_4.1 7 5) fun x_5 => bnd (F_dCreate fl x_4.1 9 900) fun x_6 => bnd (gif (((((x_1.2.isNone && x_2.2.isNone) && x_3.2.isNone) && x_4.2.isNone) && (decide (x_3.1 = 1))) == true) (oNum32 x_5.2)) fun x_7 => bnd (gif ((((((x_1.2.isNone && x_2.2.isNone) && x_3.2.isNone) && x_4.2.isNone) && (decide (x_3.1 = 1))) && (decide (x_7 = 13))) == true) (oNum32 x_6.2)) fun x_8 => bnd (gif (((((((((x_1.2.isNone && x_2.2.isNone) && x_3.2.isNone) && x_4.2.isNone) && (decide (x_3.1 = 1))) && (decide (x_7 = 13))) && (decide (x_8 = 7))) && (decide (x_4.1.Seq = 3))) && (decide (x_4.1.Gen = 2))) == true) (F_dSees fl x_4.1 7 8)) fun x_9 => bnd (gif ((((((((((x_1.2.isNone && x_2.2.isNone) && x_3.2.isNone) && x_4.2.isNone) && (decide (x_3.1 = 1))) && (decide (x_7 = 13))) && (decide (x_8 = 7))) && (decide (x_4.1.Seq = 3))) && (decide (x_4.1.Gen = 2))) && x_9) == true) (F_dSees fl x_4.1 7 9)) fun x_10 => bnd (gif (((((((((((x_1.2.isNone && x_2.2.isNone) && x_3.2.isNone) && x_4.2.isNone) && (decide (x_3.1 = 1))) && (decide (x_7 = 13))) && (decide (x_8 = 7))) && (decide (x_4.1.Seq = 3))) && (decide (x_4.1.Gen = 2))) && x_9) && (!x_10)) == true) (F_dTaken fl x_4.1)) fun x_11 => some (((((((((((x_1.2.isNone && x_2.2.isNone) && x_3.2.isNone) && x_4.2.isNone) && (decide (x_3.1 = 1))) && (decide (x_7 = 13))) && (decide (x_8 = 7))) && (decide (x_4.1.Seq = 3))) && (decide (x_4.1.Gen = 2))) && x_9) && (!x_10)) && (decide ((x_11.length : Int) = 3)))
set_option maxRecDepth 100000 in
set_option maxHeartbeats 2000000 in
theorem c_l32sure {fl : Nat} {R : Bool} {s : St} (h0 : F_l32sure fl = some R) (hst : StGV s) : AC Tryd.prog 51 [] s (pl (.bool R)) s := by
  unfold F_l32sure at h0
  refine ac_of_aw s.boxes.length s.fr.length Tryd.func51 rfl (by simp [Tryd.ntmps51]) ?_
  refine aw_ext0 ?_
  refine aw_keep [] trivial ?_
  refine aw_seq ?_
  refine aw_region (by decide) ?_
  refine rts _ rfl (opD_assign (ev_const _ _)) ?_
  refine .nil ?_
  refine aw_keep [] trivial ?_
  refine aw_seq ?_
  refine aw_region (by decide) ?_
  refine rts _ rfl (opD_ple (q := agg (kDir.cs ({ (default : Dir) with Pages := 40 } : Dir))) rfl (opD_le (opD_build_struct (rs := [pl (.int .u64 0), pl (.int .u64 0), pl (.int .i64 40), pl (.int .u64 0), pl (.int .u64 0), pl (.slice none 0 0), pl (.int .u64 0), pl (.int .u64 0), pl (.slice none 0 0), pl (.int .u64 0), pl (.int .u64 0), pl (.slice none 0 0), pl (.int .u64 0), pl (.int .u64 0), pl (.slice none 0 0), pl (.int .u64 0), pl (.int .u64 0), pl (.slice none 0 0), pl (.int .u64 0), pl (.int .u64 0), pl (.slice none 0 0), pl (.int .u64 0), pl (.int .u64 0), pl (.slice none 0 0), pl (.int .u64 0), pl (.int .u64 0), pl (.slice none 0 0), pl (.int .u64 0), pl (.int .u64 0), pl (.slice none 0 0), pl (.int .u64 0), pl (.int .u64 0), pl (.slice none 0 0), pl (.int .u64 0), pl (.int .u64 0), pl (.slice none 0 0), pl (.int .u64 0), pl (.int .u64 0), pl (.slice none 0 0), pl (.int .u64 0), pl (.int .u64 0), pl (.slice none 0 0), pl (.int .u64 0), pl (.int .u64 0), pl (.slice none 0 0), pl (.int .u64 0), pl (.int .u64 0), pl (.slice none 0 0), pl (.int .u64 0), pl (.int .u64 0), pl (.slice none 0 0), pl (.int .u16 0), pl (.int .u16 0), pl (.int .u16 0), pl (.int .u16 0), pl (.int .u16 0), pl (.int .u16 0), pl (.int .u16 0), pl (.int .u16 0), pl (.int .u16 0), pl (.int .u16 0), pl (.int .u16 0), pl (.int .u16 0), pl (.int .u16 0), pl (.int .u16 0), pl (.int .u16 0), pl (.int .u16 0)]) Tryd.underlying86 pt86_W7 zt86_W7 (parts_cons (cells1 (ev_const _ _) (one_pl rfl)) parts_nil) rfl) (agg_le ⟨Pd.le_refl _, Pd.le_refl _, Pd.le_refl _, Pd.le_refl _, Pd.le_refl _, le_nil rfl, Pd.le_refl _, Pd.le_refl _, le_nil rfl, Pd.le_refl _, Pd.le_refl _, le_nil rfl, Pd.le_refl _, Pd.le_refl _, le_nil rfl, Pd.le_refl _, Pd.le_refl _, le_nil rfl, Pd.le_refl _, Pd.le_refl _, le_nil rfl, Pd.le_refl _, Pd.le_refl _, le_nil rfl, Pd.le_refl _, Pd.le_refl _, le_nil rfl, Pd.le_refl _, Pd.le_refl _, le_nil rfl, Pd.le_refl _, Pd.le_refl _, le_nil rfl, Pd.le_refl _, Pd.le_refl _, le_nil rfl, Pd.le_refl _, Pd.le_refl _, le_nil rfl, Pd.le_refl _, Pd.le_refl _, le_nil rfl, Pd.le_refl _, Pd.le_refl _, le_nil rfl, Pd.le_refl _, Pd.le_refl _, le_nil rfl, Pd.le_refl _, Pd.le_refl _, le_nil rfl, Pd.le_refl _, Pd.le_refl _, Pd.le_refl _, Pd.le_refl _, Pd.le_refl _, Pd.le_refl _, Pd.le_refl _, Pd.le_refl _, Pd.le_refl _, Pd.le_refl _, Pd.le_refl _, Pd.le_refl _, Pd.le_refl _, Pd.le_refl _, Pd.le_refl _, Pd.le_refl _, trivial⟩))) ?_
  replace h0 := bnd_some h0
  obtain ⟨x_1, hx_1, h0⟩ := h0
  refine rts _ rfl (opD_pure ht41_W7 (c_dCreate hx_1) ⟨le_of_eq lz, le_of_eq (ev_const _ _), le_of_eq (ev_const _ _), trivial⟩) ?_
  refine rts _ rfl (opD_move lz) ?_
  refine rts _ rfl (opD_extract lz rfl) ?_
  refine rts _ rfl (opD_extract (ls rfl lz) rfl) ?_
  refine rts _ rfl (opD_wkN rfl (allocN (bs' := [⟨86, zl1⟩]) rfl zt86_W7 (by first | exact List.length_nil | (simp only [List.length_cons, List.length_nil, Nat.zero_add, Nat.reduceAdd] <;> rfl)) (by simp only [znz] <;> rfl)) (bxle_cons (B := ⟨86, zl1⟩) (C := ⟨86, kDir.cs (default : Dir)⟩) (@Eq.refl TypeId 86) kDir_zero bxle_nil) (bl_cons (kb_Dir _ _ _) bl_nil)) ?_
  refine rts _ rfl (storeAN (cs' := kDir.cs x_1.1) rfl sz86_W7 lz (ls rfl (ls rfl lz)) (fun p_ h_ => kDir.one _ p_ h_) rfl (kDir_len _) (by rw [kDir_len]; exact Nat.le_refl _) (by intro h_; have := congrArg List.length h_; rw [kDir_len] at this; cases this) (kb_Dir _ _ _) (kDir_put _ _) (by simp only [znz] <;> rfl)) ?_
  refine rts _ rfl (opD_assign (lx (ls rfl lz))) ?_
  refine .nil ?_
  refine aw_keep [(1, _), (2, _)] ⟨lg (ls rfl (lx lz)), lg lz, trivial⟩ ?_
  refine aw_seq ?_
  refine aw_region (by decide) ?_
  refine rts _ rfl (opD_load_aggX ag86_W7 sz86_W7 oz (loc_getN rfl rfl) (by rw [kDir_len]; exact Nat.le_refl _) (kDir_full _)) ?_
  replace h0 := bnd_some h0
  obtain ⟨x_2, hx_2, h0⟩ := h0
  refine rts _ rfl (opD_pure ht41_W7 (c_dCreate hx_2) ⟨le_of_eq lz, le_of_eq (ev_const _ _), le_of_eq (ev_const _ _), trivial⟩) ?_
  refine rts _ rfl (opD_move lz) ?_
  refine rts _ rfl (opD_extract lz rfl) ?_
  refine rts _ rfl (opD_extract (ls rfl lz) rfl) ?_
  refine rts _ rfl (storeAN (cs' := kDir.cs x_2.1) rfl sz86_W7 (ls rfl (ls rfl (ls rfl (ls rfl (ls rfl oz))))) (ls rfl lz) (fun p_ h_ => kDir.one _ p_ h_) rfl (kDir_len _) (by rw [kDir_len]; exact Nat.le_refl _) (by intro h_; have := congrArg List.length h_; rw [kDir_len] at this; cases this) (kb_Dir _ _ _) (kDir_put _ _) (by simp only [znz] <;> rfl)) ?_
  refine rts _ rfl (opD_assign (lx lz)) ?_
  refine .nil ?_
  refine aw_keep [(1, _), (2, _), (3, _)] ⟨lg (ls rfl (lx (ls rfl (ls rfl (ls rfl (ls rfl (ls rfl oz))))))), lg (ls rfl (lx (ls rfl (ls rfl (ls rfl (ls rfl (ls rfl (os rfl oz)))))))), lg lz, trivial⟩ ?_
  refine aw_seq ?_
  refine aw_region (by decide) ?_
  refine rts _ rfl (opD_load_aggX ag86_W7 sz86_W7 oz (loc_getN rfl rfl) (by rw [kDir_len]; exact Nat.le_refl _) (kDir_full _)) ?_
  replace h0 := bnd_some h0
  obtain ⟨x_3, hx_3, h0⟩ := h0
  refine rts _ rfl (opD_pure ht42_W7 (c_dPlace hx_3) ⟨le_of_eq lz, le_of_eq (ev_const _ _), trivial⟩) ?_
  refine rts _ rfl (opD_move lz) ?_
  refine rts _ rfl (opD_extract lz rfl) ?_
  refine rts _ rfl (opD_extract (ls rfl lz) rfl) ?_
  refine rts _ rfl (opD_assign (ls rfl lz)) ?_
  refine rts _ rfl (opD_assign (ls rfl lz)) ?_
  refine .nil ?_
  refine aw_keep [(1, _), (2, _), (3, _), (4, _), (5, _)] ⟨lg (ls rfl (ls rfl (ls rfl (ls rfl (ls rfl (ls rfl (ls rfl oz))))))), lg (ls rfl (ls rfl (ls rfl (ls rfl (ls rfl (ls rfl (ls rfl (os rfl oz)))))))), lg (ls rfl (ls rfl (ls rfl (ls rfl (ls rfl (ls rfl (ls rfl (os rfl (os rfl oz))))))))), lg (ls rfl lz), lg lz, trivial⟩ ?_
  refine aw_seq ?_
  refine aw_region (by decide) ?_
  refine rts _ rfl (opD_load_aggX ag86_W7 sz86_W7 oz (loc_getN rfl rfl) (by rw [kDir_len]; exact Nat.le_refl _) (kDir_full _)) ?_
  replace h0 := bnd_some h0
  obtain ⟨x_4, hx_4, h0⟩ := h0
  refine rts _ rfl (opD_pure ht47_W7 (c_dLink hx_4) ⟨le_of_eq lz, le_of_eq (ev_const _ _), le_of_eq (ev_const _ _), le_of_eq (ev_const _ _), trivial⟩) ?_
  refine rts _ rfl (opD_move lz) ?_
  refine rts _ rfl (opD_extract lz rfl) ?_
  refine rts _ rfl (opD_extract (ls rfl lz) rfl) ?_
  refine rts _ rfl (storeAN (cs' := kDir.cs x_4.1) rfl sz86_W7 (ls rfl (ls rfl (ls rfl (ls rfl (ls rfl oz))))) (ls rfl lz) (fun p_ h_ => kDir.one _ p_ h_) rfl (kDir_len _) (by rw [kDir_len]; exact Nat.le_refl _) (by intro h_; have := congrArg List.length h_; rw [kDir_len] at this; cases this) (kb_Dir _ _ _) (kDir_put _ _) (by simp only [znz] <;> rfl)) ?_
  refine rts _ rfl (opD_assign (lx lz)) ?_
  refine .nil ?_
  refine aw_keep [(1, _), (2, _), (3, _), (4, _), (5, _), (6, _)] ⟨lg (ls rfl (lx (ls rfl (ls rfl (ls rfl (ls rfl (ls rfl oz))))))), lg (ls rfl (lx (ls rfl (ls rfl (ls rfl (ls rfl (ls rfl (os rfl oz)))))))), lg (ls rfl (lx (ls rfl (ls rfl (ls rfl (ls rfl (ls rfl (os rfl (os rfl oz))))))))), lg (ls rfl (lx (ls rfl (ls rfl (ls rfl (ls rfl (ls rfl (os rfl (os rfl (os rfl oz)))))))))), lg (ls rfl (lx (ls rfl (ls rfl (ls rfl (ls rfl (ls rfl (os rfl (os rfl (os rfl (os rfl oz))))))))))), lg lz, trivial⟩ ?_
  refine aw_seq ?_
  refine aw_region (by decide) ?_
  refine rts _ rfl (opD_load_aggX ag86_W7 sz86_W7 oz (loc_getN rfl rfl) (by rw [kDir_len]; exact Nat.le_refl _) (kDir_full _)) ?_
  replace h0 := bnd_some h0
  obtain ⟨x_5, hx_5, h0⟩ := h0
  refine rts _ rfl (opD_pure ht41_W7 (c_dCreate hx_5) ⟨le_of_eq lz, le_of_eq (ev_const _ _), le_of_eq (ev_const _ _), trivial⟩) ?_
  refine rts _ rfl (opD_move lz) ?_
  refine rts _ rfl (opD_extract lz rfl) ?_
  refine rts _ rfl (opD_extract (ls rfl lz) rfl) ?_
  refine rts _ rfl (opD_wkN rfl (allocN (bs' := [⟨86, (kDir.cs x_4.1)⟩, ⟨86, zl1⟩]) rfl zt86_W7 (by first | exact List.length_nil | (simp only [List.length_cons, List.length_nil, Nat.zero_add, Nat.reduceAdd] <;> rfl)) (by simp only [znz] <;> rfl)) (bxle_same (bxle_cons (B := ⟨86, zl1⟩) (C := ⟨86, kDir.cs (default : Dir)⟩) (@Eq.refl TypeId 86) kDir_zero bxle_nil)) (bl_cons (kb_Dir _ _ _) (bl_cons (kb_Dir _ _ _) bl_nil))) ?_
  refine rts _ rfl (storeAN (cs' := kDir.cs x_5.1) rfl sz86_W7 lz (ls rfl (ls rfl lz)) (fun p_ h_ => kDir.one _ p_ h_) rfl (kDir_len _) (by rw [kDir_len]; exact Nat.le_refl _) (by intro h_; have := congrArg List.length h_; rw [kDir_len] at this; cases this) (kb_Dir _ _ _) (kDir_put _ _) (by simp only [znz] <;> rfl)) ?_
  refine rts _ rfl (opD_assign (lx (ls rfl lz))) ?_
  refine .nil ?_
  refine aw_keep [(1, _), (2, _), (3, _), (4, _), (5, _), (6, _), (8, _)] ⟨lg (ls rfl (lx (ls rfl (ls rfl (ls rfl (ls rfl (ls rfl (ls rfl oz)))))))), lg (ls rfl (lx (ls rfl (ls rfl (ls rfl (ls rfl (ls rfl (ls rfl (os rfl oz))))))))), lg (ls rfl (lx (ls rfl (ls rfl (ls rfl (ls rfl (ls rfl (ls rfl (os rfl (os rfl oz)))))))))), lg (ls rfl (lx (ls rfl (ls rfl (ls rfl (ls rfl (ls rfl (ls rfl (os rfl (os rfl (os rfl oz))))))))))), lg (ls rfl (lx (ls rfl (ls rfl (ls rfl (ls rfl (ls rfl (ls rfl (os rfl (os rfl (os rfl (os rfl oz)))))))))))), lg (ls rfl (lx (ls rfl (ls rfl (ls rfl (ls rfl (ls rfl (ls rfl (os rfl (os rfl (os rfl (os rfl (os rfl oz))))))))))))), lg lz, trivial⟩ ?_
  refine aw_seq ?_
  refine aw_region (by decide) ?_
  refine rts _ rfl (opD_load_aggX ag86_W7 sz86_W7 oz (loc_getN rfl rfl) (by rw [kDir_len]; exact Nat.le_refl _) (kDir_full _)) ?_
  replace h0 := bnd_some h0
  obtain ⟨x_6, hx_6, h0⟩ := h0
  refine rts _ rfl (opD_pure ht41_W7 (c_dCreate hx_6) ⟨le_of_eq lz, le_of_eq (ev_const _ _), le_of_eq (ev_const _ _), trivial⟩) ?_
  refine rts _ rfl (opD_move lz) ?_
  refine rts _ rfl (opD_extract lz rfl) ?_
  refine rts _ rfl (opD_extract (ls rfl lz) rfl) ?_
  refine rts _ rfl (opD_wkN rfl (allocN (bs' := [⟨86, (kDir.cs x_4.1)⟩, ⟨86, (kDir.cs x_5.1)⟩, ⟨86, zl1⟩]) rfl zt86_W7 (by first | exact List.length_nil | (simp only [List.length_cons, List.length_nil, Nat.zero_add, Nat.reduceAdd] <;> rfl)) (by simp only [znz] <;> rfl)) (bxle_same (bxle_same (bxle_cons (B := ⟨86, zl1⟩) (C := ⟨86, kDir.cs (default : Dir)⟩) (@Eq.refl TypeId 86) kDir_zero bxle_nil))) (bl_cons (kb_Dir _ _ _) (bl_cons (kb_Dir _ _ _) (bl_cons (kb_Dir _ _ _) bl_nil)))) ?_
  refine rts _ rfl (storeAN (cs' := kDir.cs x_6.1) rfl sz86_W7 lz (ls rfl (ls rfl lz)) (fun p_ h_ => kDir.one _ p_ h_) rfl (kDir_len _) (by rw [kDir_len]; exact Nat.le_refl _) (by intro h_; have := congrArg List.length h_; rw [kDir_len] at this; cases this) (kb_Dir _ _ _) (kDir_put _ _) (by simp only [znz] <;> rfl)) ?_
  refine rts _ rfl (opD_assign (lx (ls rfl lz))) ?_
  refine .nil ?_
  refine aw_keep [(1, _), (2, _), (3, _), (4, _), (5, _), (6, _), (8, _), (10, _)] ⟨lg (ls rfl (lx (ls rfl (ls rfl (ls rfl (ls rfl (ls rfl (ls rfl oz)))))))), lg (ls rfl (lx (ls rfl (ls rfl (ls rfl (ls rfl (ls rfl (ls rfl (os rfl oz))))))))), lg (ls rfl (lx (ls rfl (ls rfl (ls rfl (ls rfl (ls rfl (ls rfl (os rfl (os rfl oz)))))))))), lg (ls rfl (lx (ls rfl (ls rfl (ls rfl (ls rfl (ls rfl (ls rfl (os rfl (os rfl (os rfl oz))))))))))), lg (ls rfl (lx (ls rfl (ls rfl (ls rfl (ls rfl (ls rfl (ls rfl (os rfl (os rfl (os rfl (os rfl oz)))))))))))), lg (ls rfl (lx (ls rfl (ls rfl (ls rfl (ls rfl (ls rfl (ls rfl (os rfl (os rfl (os rfl (os rfl (os rfl oz))))))))))))), lg (ls rfl (lx (ls rfl (ls rfl (ls rfl (ls rfl (ls rfl (ls rfl (os rfl (os rfl (os rfl (os rfl (os rfl (os rfl oz)))))))))))))), lg lz, trivial⟩ ?_
  refine aw_seq ?_
  refine aw_region (by decide) ?_
  refine rts _ rfl (opD_move (os rfl oz)) ?_
  refine rts _ rfl (opD_bin lz (ev_const _ _) (fun w => errV_geql _ w _) (fun w => errV_eql _ w)) ?_
  refine rts _ rfl (opD_move lz) ?_
  refine rtg _ rfl lz (fun hg7_3_1 => opD_move (ls rfl (ls rfl (ls rfl (os rfl (os rfl oz)))))) ?_
  refine rtg _ rfl (ls rfl lz) (fun hg7_4_2 => opD_bin (lz.trans (pif_pos hg7_4_2)) (ev_const _ _) (fun w => errV_geql _ w _) (fun w => errV_eql _ w)) ?_
  refine rts _ rfl (opD_and (ls rfl (ls rfl lz)) lz) ?_
  refine rts _ rfl (opD_move lz) ?_
  refine rtg _ rfl lz (fun hg7_7_3 => opD_move (ls rfl (ls rfl (ls rfl (ls rfl (ls rfl (ls rfl (ls rfl (os rfl (os rfl (os rfl (os rfl oz)))))))))))) ?_
  refine rtg _ rfl (ls rfl lz) (fun hg7_8_4 => opD_bin (lz.trans (pif_pos hg7_8_4)) (ev_const _ _) (fun w => errV_geql _ w _) (fun w => errV_eql _ w)) ?_
  refine rts _ rfl (opD_and (ls rfl (ls rfl lz)) lz) ?_
  refine rts _ rfl (opD_move lz) ?_
  refine rtg _ rfl lz (fun hg7_11_5 => opD_move (ls rfl (ls rfl (ls rfl (ls rfl (ls rfl (ls rfl (ls rfl (ls rfl (ls rfl (ls rfl (ls rfl (os rfl (os rfl (os rfl (os rfl (os rfl oz))))))))))))))))) ?_
  refine rtg _ rfl (ls rfl lz) (fun hg7_12_6 => opD_bin (lz.trans (pif_pos hg7_12_6)) (ev_const _ _) (fun w => errV_geql _ w _) (fun w => errV_eql _ w)) ?_
  refine rts _ rfl (opD_and (ls rfl (ls rfl lz)) lz) ?_
  refine rts _ rfl (opD_move lz) ?_
  refine rtg _ rfl lz (fun hg7_15_7 => opD_move (ls rfl (ls rfl (ls rfl (ls rfl (ls rfl (ls rfl (ls rfl (ls rfl (ls rfl (ls rfl (ls rfl (ls rfl (ls rfl (ls rfl (ls rfl (os rfl (os rfl (os rfl oz))))))))))))))))))) ?_
  refine rtg _ rfl (ls rfl lz) (fun hg7_16_8 => opD_eql (lz.trans (pif_pos hg7_16_8)) (ev_const _ _)) ?_
  refine rts _ rfl (opD_and (ls rfl (ls rfl lz)) lz) ?_
  refine rts _ rfl (opD_move lz) ?_
  refine rtg _ rfl lz (fun hg7_19_9 => opD_move (ls rfl (ls rfl (ls rfl (ls rfl (ls rfl (ls rfl (ls rfl (ls rfl (ls rfl (ls rfl (ls rfl (ls rfl (ls rfl (ls rfl (ls rfl (ls rfl (ls rfl (ls rfl (ls rfl (os rfl (os rfl (os rfl (os rfl (os rfl (os rfl oz)))))))))))))))))))))))))) ?_
  replace h0 := bnd_some h0
  obtain ⟨x_7, hx_7, h0⟩ := h0
  refine rtg _ rfl (ls rfl lz) (fun hg7_20_10 => opD_call ht55_W7 (c_num32 (gif_some hx_7 hg7_20_10) hst) ⟨le_of_eq (lz.trans (pif_pos hg7_20_10)), trivial⟩) ?_
  refine rtg _ rfl (ls rfl (ls rfl lz)) (fun hg7_21_11 => opD_eql (lz.trans (pif_pos hg7_21_11)) (ev_const _ _)) ?_
  refine rts _ rfl (opD_and (ls rfl (ls rfl (ls rfl lz))) lz) ?_
  refine rts _ rfl (opD_move lz) ?_
  refine rtg _ rfl lz (fun hg7_24_12 => opD_move (ls rfl (ls rfl (ls rfl (ls rfl (ls rfl (ls rfl (ls rfl (ls rfl (ls rfl (ls rfl (ls rfl (ls rfl (ls rfl (ls rfl (ls rfl (ls rfl (ls rfl (ls rfl (ls rfl (ls rfl (ls rfl (ls rfl (ls rfl (ls rfl (os rfl (os rfl (os rfl (os rfl (os rfl (os rfl (os rfl oz)))))))))))))))))))))))))))))))) ?_
  replace h0 := bnd_some h0
  obtain ⟨x_8, hx_8, h0⟩ := h0
  refine rtg _ rfl (ls rfl lz) (fun hg7_25_13 => opD_call ht55_W7 (c_num32 (gif_some hx_8 hg7_25_13) hst) ⟨le_of_eq (lz.trans (pif_pos hg7_25_13)), trivial⟩) ?_
  refine rtg _ rfl (ls rfl (ls rfl lz)) (fun hg7_26_14 => opD_eql (lz.trans (pif_pos hg7_26_14)) (ev_const _ _)) ?_
  refine rts _ rfl (opD_and (ls rfl (ls rfl (ls rfl lz))) lz) ?_
  refine rts _ rfl (opD_move lz) ?_
  refine rtg _ rfl lz (fun hg7_29_15 => opD_fieldAddr fo86_0_W7 (ls rfl (ls rfl (ls rfl (ls rfl (ls rfl (ls rfl (ls rfl (ls rfl (ls rfl (ls rfl (ls rfl (ls rfl (ls rfl (ls rfl (ls rfl (ls rfl (ls rfl (ls rfl (ls rfl (ls rfl (ls rfl (ls rfl (ls rfl (ls rfl (ls rfl (ls rfl (ls rfl (ls rfl (ls rfl oz)))))))))))))))))))))))))))))) ?_
  refine rtg _ rfl (ls rfl lz) (fun hg7_30_16 => opD_load_one ag56_W7 (lz.trans (pif_pos hg7_30_16)) (loc_getN rfl rfl) rfl) ?_
  refine rtg _ rfl (ls rfl (ls rfl lz)) (fun hg7_31_17 => opD_eql (lz.trans (pif_pos hg7_31_17)) (ev_const _ _)) ?_
  refine rts _ rfl (opD_and (ls rfl (ls rfl (ls rfl lz))) lz) ?_
  refine rts _ rfl (opD_move lz) ?_
  refine rtg _ rfl lz (fun hg7_34_18 => opD_fieldAddr fo86_1_W7 (ls rfl (ls rfl (ls rfl (ls rfl (ls rfl (ls rfl (ls rfl (ls rfl (ls rfl (ls rfl (ls rfl (ls rfl (ls rfl (ls rfl (ls rfl (ls rfl (ls rfl (ls rfl (ls rfl (ls rfl (ls rfl (ls rfl (ls rfl (ls rfl (ls rfl (ls rfl (ls rfl (ls rfl (ls rfl (ls rfl (ls rfl (ls rfl (ls rfl (ls rfl oz))))))))))))))))))))))))))))))))))) ?_
  refine rtg _ rfl (ls rfl lz) (fun hg7_35_19 => opD_load_one ag56_W7 (lz.trans (pif_pos hg7_35_19)) (loc_getN rfl rfl) rfl) ?_
  refine rtg _ rfl (ls rfl (ls rfl lz)) (fun hg7_36_20 => opD_eql (lz.trans (pif_pos hg7_36_20)) (ev_const _ _)) ?_
  refine rts _ rfl (opD_and (ls rfl (ls rfl (ls rfl lz))) lz) ?_
  refine rts _ rfl (opD_move lz) ?_
  refine rtg _ rfl lz (fun hg7_39_21 => opD_load_aggX ag86_W7 sz86_W7 (ls rfl (ls rfl (ls rfl (ls rfl (ls rfl (ls rfl (ls rfl (ls rfl (ls rfl (ls rfl (ls rfl (ls rfl (ls rfl (ls rfl (ls rfl (ls rfl (ls rfl (ls rfl (ls rfl (ls rfl (ls rfl (ls rfl (ls rfl (ls rfl (ls rfl (ls rfl (ls rfl (ls rfl (ls rfl (ls rfl (ls rfl (ls rfl (ls rfl (ls rfl (ls rfl (ls rfl (ls rfl (ls rfl (ls rfl oz))))))))))))))))))))))))))))))))))))))) (loc_getN rfl rfl) (by rw [kDir_len]; exact Nat.le_refl _) (kDir_full _)) ?_
  replace h0 := bnd_some h0
  obtain ⟨x_9, hx_9, h0⟩ := h0
  refine rtg _ rfl (ls rfl lz) (fun hg7_40_22 => opD_pure ht44_W7 (c_dSees (gif_some hx_9 hg7_40_22)) ⟨le_of_eq (lz.trans (pif_pos hg7_40_22)), le_of_eq (ev_const _ _), le_of_eq (ev_const _ _), trivial⟩) ?_
  refine rts _ rfl (opD_and (ls rfl (ls rfl lz)) lz) ?_
  refine rts _ rfl (opD_move lz) ?_
  refine rtg _ rfl lz (fun hg7_43_23 => opD_load_aggX ag86_W7 sz86_W7 (ls rfl (ls rfl (ls rfl (ls rfl (ls rfl (ls rfl (ls rfl (ls rfl (ls rfl (ls rfl (ls rfl (ls rfl (ls rfl (ls rfl (ls rfl (ls rfl (ls rfl (ls rfl (ls rfl (ls rfl (ls rfl (ls rfl (ls rfl (ls rfl (ls rfl (ls rfl (ls rfl (ls rfl (ls rfl (ls rfl (ls rfl (ls rfl (ls rfl (ls rfl (ls rfl (ls rfl (ls rfl (ls rfl (ls rfl (ls rfl (ls rfl (ls rfl (ls rfl oz))))))))))))))))))))))))))))))))))))))))))) (loc_getN rfl rfl) (by rw [kDir_len]; exact Nat.le_refl _) (kDir_full _)) ?_
  replace h0 := bnd_some h0
  obtain ⟨x_10, hx_10, h0⟩ := h0
  refine rtg _ rfl (ls rfl lz) (fun hg7_44_24 => opD_pure ht44_W7 (c_dSees (gif_some hx_10 hg7_44_24)) ⟨le_of_eq (lz.trans (pif_pos hg7_44_24)), le_of_eq (ev_const _ _), le_of_eq (ev_const _ _), trivial⟩) ?_
  refine rtg _ rfl (ls rfl (ls rfl lz)) (fun hg7_45_25 => opD_not (lz.trans (pif_pos hg7_45_25))) ?_
  refine rts _ rfl (opD_and (ls rfl (ls rfl (ls rfl lz))) lz) ?_
  refine rts _ rfl (opD_move lz) ?_
  refine rtg _ rfl lz (fun hg7_48_26 => opD_load_aggX ag86_W7 sz86_W7 (ls rfl (ls rfl (ls rfl (ls rfl (ls rfl (ls rfl (ls rfl (ls rfl (ls rfl (ls rfl (ls rfl (ls rfl (ls rfl (ls rfl (ls rfl (ls rfl (ls rfl (ls rfl (ls rfl (ls rfl (ls rfl (ls rfl (ls rfl (ls rfl (ls rfl (ls rfl (ls rfl (ls rfl (ls rfl (ls rfl (ls rfl (ls rfl (ls rfl (ls rfl (ls rfl (ls rfl (ls rfl (ls rfl (ls rfl (ls rfl (ls rfl (ls rfl (ls rfl (ls rfl (ls rfl (ls rfl (ls rfl (ls rfl oz)))))))))))))))))))))))))))))))))))))))))))))))) (loc_getN rfl rfl) (by rw [kDir_len]; exact Nat.le_refl _) (kDir_full _)) ?_
  replace h0 := bnd_some h0
  obtain ⟨x_11, hx_11, h0⟩ := h0
  refine rtg _ rfl (ls rfl lz) (fun hg7_49_27 => opD_pure ht50_W7 (c_dTaken (gif_some hx_11 hg7_49_27)) ⟨le_of_eq (lz.trans (pif_pos hg7_49_27)), trivial⟩) ?_
  refine rtg _ rfl (ls rfl (ls rfl lz)) (fun hg7_50_28 => opD_len_sl Tryd.underlying79 (lz.trans (pif_pos hg7_50_28))) ?_
  refine rtg _ rfl (ls rfl (ls rfl (ls rfl lz))) (fun hg7_51_29 => opD_eql (lz.trans (pif_pos hg7_51_29)) (ev_const _ _)) ?_
  refine rts _ rfl (opD_and (ls rfl (ls rfl (ls rfl (ls rfl lz)))) lz) ?_
  refine rts _ rfl (opD_assign lz) ?_
  refine .nil ?_
  refine aw_keep [(0, _)] ⟨lg lz, trivial⟩ ?_
  refine aw_ret ?_
  obtain rfl := some_of h0
  exact done_ext (.inr rfl) ((res_one rfl (it_tmp oz)).le zLr) zPb

def F_l32DirApart_b1 (t_2 : (List Int) × Int × Dir) (x_11 : (Dir × (Option Int))) (x_12 : (Int × (Option Int))) (t_15 : Int) : Option ((Int) ⊕ ((Bool) ⊕ (Unit))) :=
  ifb (decide (t_15 < (t_2.1.length : Int))) (ixb t_2.1 t_15 fun x_17 => grd (Below x_12.1 16) <| ifb (decide (x_17 = ((x_11.1.L.getD x_12.1.toNat (default : Tenant)).Gen))) (some (.inr (.inl false))) (some (.inl (IntKind.i64.wrap (t_15 + 1))))) (some (.inr (.inr ())))
def F_l32DirApart_b2 (fl : Nat) (t_2 : (List Int) × Int × Dir) (x_5 : (List Int)) (x_11 : (Dir × (Option Int))) (x_12 : (Int × (Option Int))) (t_18 : Int) : Option ((Int) ⊕ ((Bool) ⊕ ((List Int) × (Option Int) × Dir))) :=
  ifb (decide (t_18 ≤ 20)) (bnd (gif ((decide (t_18 ≠ (IntKind.u64.wrap (1 + (IntKind.u64.wrap (((x_5.getD 1 (0 : Int)).tmod 20))))))) == true) (F_dSees fl x_11.1 t_18 (IntKind.u64.wrap (1 + (IntKind.u64.wrap (((x_5.getD 1 (0 : Int)).tmod 20))))))) fun x_20 => ifb ((decide (t_18 ≠ (IntKind.u64.wrap (1 + (IntKind.u64.wrap (((x_5.getD 1 (0 : Int)).tmod 20))))))) && x_20) (some (.inr (.inl false))) (some (.inl (IntKind.u64.wrap (t_18 + 1))))) (some (.inr (.inr ((t_2.1 ++ ([(x_11.1.L.getD x_12.1.toNat (default : Tenant)).Gen] : (List Int))), x_11.2, x_11.1))))
def F_l32DirApart_b0 (fl : Nat) (p1 : (List (List Int))) (t_2 : (List Int) × Int × Dir) : Option (((List Int) × Int × Dir) ⊕ ((Bool) ⊕ (Dir))) :=
  ifb ((decide (t_2.2.1 < (p1.length : Int))) && (decide (t_2.2.1 < 60))) (bnd (ixb p1 t_2.2.1 fun x_5 => ixb p1 t_2.2.1 fun x_6 => ixb p1 t_2.2.1 fun x_7 => ixb p1 t_2.2.1 fun x_8 => bnd (bnd (ifb (decide (((x_8.getD 0 (0 : Int)).tmod 6) = 0)) (some (decide (((x_8.getD 0 (0 : Int)).tmod 6) = 0))) (ifb (decide (((x_8.getD 0 (0 : Int)).tmod 6) = 1)) (some (decide (((x_8.getD 0 (0 : Int)).tmod 6) = 1))) (some (decide (((x_8.getD 0 (0 : Int)).tmod 6) = 2))))) fun z_10 => ifb z_10 (bnd (F_dCreate fl t_2.2.2 (IntKind.u64.wrap (1 + (IntKind.u64.wrap (((x_5.getD 1 (0 : Int)).tmod 20))))) (IntKind.i64.wrap ((x_7.getD 3 (0 : Int))))) fun x_11 => ifb x_11.2.isSome (some (.inr (t_2.1, x_11.2, x_11.1))) (bnd (F_dPlace fl x_11.1 (IntKind.u64.wrap (1 + (IntKind.u64.wrap (((x_5.getD 1 (0 : Int)).tmod 20)))))) fun x_12 => grd ((x_12.2.isSome == false) = true → Below x_12.1 16) <| bnd (gif (x_12.2.isSome == false) (F_xMany fl ((x_11.1.L.getD x_12.1.toNat (default : Tenant)).Ext))) fun x_13 => ifb (x_12.2.isSome || (decide (x_13 ≠ (IntKind.i64.wrap ((x_7.getD 3 (0 : Int))))))) (some (.inl false)) (bnd (lp (F_l32DirApart_b1 t_2 x_11 x_12) fl 0) fun z_14 => ocs z_14 (fun qz_14_0 => some (.inl qz_14_0)) fun z_14_0 => grd (Below x_12.1 16) <| grd (Fits 8 (t_2.1.length + ([(x_11.1.L.getD x_12.1.toNat (default : Tenant)).Gen] : (List Int)).length)) <| lp (F_l32DirApart_b2 fl t_2 x_5 x_11 x_12) fl 1))) (ifb (decide (((x_8.getD 0 (0 : Int)).tmod 6) = 3)) (bnd (F_dDelete fl t_2.2.2 (IntKind.u64.wrap (1 + (IntKind.u64.wrap (((x_5.getD 1 (0 : Int)).tmod 20)))))) fun x_21 => some (.inr (t_2.1, x_21.2, x_21.1))) (ifb (decide (((x_8.getD 0 (0 : Int)).tmod 6) = 4)) (bnd (F_dGrow fl t_2.2.2 (IntKind.u64.wrap (1 + (IntKind.u64.wrap (((x_5.getD 1 (0 : Int)).tmod 20))))) (IntKind.i64.wrap ((x_7.getD 3 (0 : Int))))) fun x_22 => some (.inr (t_2.1, x_22.2, x_22.1))) (bnd (F_dLink fl t_2.2.2 (IntKind.u64.wrap (1 + (IntKind.u64.wrap (((x_5.getD 1 (0 : Int)).tmod 20))))) (IntKind.u64.wrap (1 + (IntKind.u64.wrap (((x_6.getD 2 (0 : Int)).tmod 20))))) (decide (0 < ((IntKind.i64.wrap ((x_7.getD 3 (0 : Int)))).tmod 3)))) fun x_23 => bnd (gif (x_23.2.isNone == true) (F_dSees fl x_23.1 (IntKind.u64.wrap (1 + (IntKind.u64.wrap (((x_5.getD 1 (0 : Int)).tmod 20))))) (IntKind.u64.wrap (1 + (IntKind.u64.wrap (((x_6.getD 2 (0 : Int)).tmod 20))))))) fun x_24 => ifb (x_23.2.isNone && (x_24 != (decide (0 < ((IntKind.i64.wrap ((x_7.getD 3 (0 : Int)))).tmod 3))))) (some (.inl false)) (some (.inr (t_2.1, x_23.2, x_23.1))))))) fun z_9 => ocs z_9 (fun qz_9_0 => some (.inl qz_9_0)) fun z_9_0 => ifb z_9_0.2.1.isSome (some (.inr (z_9_0.1, t_2.2.2))) (bnd (F_dCheck fl z_9_0.2.2) fun x_25 => bnd (gif ((x_25.isSome || (decide (z_9_0.2.2.Seq ≠ (IntKind.u64.wrap (t_2.2.2.Seq + 1))))) == false) (F_dTaken fl z_9_0.2.2)) fun x_26 => bnd (gif ((x_25.isSome || (decide (z_9_0.2.2.Seq ≠ (IntKind.u64.wrap (t_2.2.2.Seq + 1))))) == false) (F_xcheck fl x_26 t_2.2.2.Pages)) fun x_27 => ifb ((x_25.isSome || (decide (z_9_0.2.2.Seq ≠ (IntKind.u64.wrap (t_2.2.2.Seq + 1))))) || x_27.isSome) (some (.inl false)) (some (.inr (z_9_0.1, z_9_0.2.2))))) fun z_4 => ocs z_4 (fun qz_4_0 => some (.inr (.inl qz_4_0))) fun z_4_0 => some (.inl (z_4_0.1, IntKind.i64.wrap (t_2.2.1 + 1), z_4_0.2))) (some (.inr (.inr t_2.2.2)))
def F_l32DirApart (fl : Nat) (p0 : Int) (p1 : (List (List Int))) : Option (Bool) :=
  bnd (lp (F_l32DirApart_b0 fl p1) fl (([] : (List Int)), 0, ({ (default : Dir) with Pages := IntKind.i64.wrap (8 + (IntKind.i64.wrap ((p0.tmod 500)))) } : Dir))) fun z_1 => ocs z_1 (fun qz_1_0 => some qz_1_0) fun z_1_0 => bnd (F_l32sure fl) fun x_28 => some x_28
set_option maxRecDepth 100000 in
set_option maxHeartbeats 2000000 in
theorem c_l32DirApart {fl : Nat} {p0 : Int} {p1 : (List (List Int))} {R : Bool} {s : St} (h0 : F_l32DirApart fl p0 p1 = some R) (hst : StGV s) : AC Tryd.prog 5 [pl (.int .u16 p0), sl (kArr 4 (kI .u8) (0 : Int)) none none p1] s (pl (.bool R)) s := by
  unfold F_l32DirApart at h0
  refine ac_of_aw s.boxes.length s.fr.length Tryd.func5 rfl (by simp [Tryd.ntmps5]) ?_
  refine aw_ext0 ?_
  refine aw_keep [(0, _), (1, _)] ⟨lg ez, lg (es ez), trivial⟩ ?_
  refine aw_seq ?_
  refine aw_region (by decide) ?_
  refine rts _ rfl (opD_assign (ev_const _ _)) ?_
  refine .nil ?_
  refine aw_keep [(0, _), (1, _)] ⟨lg (ls rfl oz), lg (ls rfl (os rfl oz)), trivial⟩ ?_
  refine aw_seq ?_
  refine aw_region (by decide) ?_
  refine rts _ rfl (opD_move oz) ?_
  refine rts _ rfl (opD_rem lz (ev_const _ _) (by decide) rfl) ?_
  refine rts _ rfl (opD_conv_int Tryd.underlying77 Tryd.underlying3 lz rfl) ?_
  refine rts _ rfl (opD_add (ev_const _ _) lz rfl) ?_
  refine rts _ rfl (opD_ple (q := agg (kDir.cs ({ (default : Dir) with Pages := IntKind.i64.wrap (8 + (IntKind.i64.wrap ((p0.tmod 500)))) } : Dir))) rfl (opD_le (opD_build_struct (rs := [pl (.int .u64 0), pl (.int .u64 0), pl (.int .i64 (IntKind.i64.wrap (8 + (IntKind.i64.wrap ((p0.tmod 500)))))), pl (.int .u64 0), pl (.int .u64 0), pl (.slice none 0 0), pl (.int .u64 0), pl (.int .u64 0), pl (.slice none 0 0), pl (.int .u64 0), pl (.int .u64 0), pl (.slice none 0 0), pl (.int .u64 0), pl (.int .u64 0), pl (.slice none 0 0), pl (.int .u64 0), pl (.int .u64 0), pl (.slice none 0 0), pl (.int .u64 0), pl (.int .u64 0), pl (.slice none 0 0), pl (.int .u64 0), pl (.int .u64 0), pl (.slice none 0 0), pl (.int .u64 0), pl (.int .u64 0), pl (.slice none 0 0), pl (.int .u64 0), pl (.int .u64 0), pl (.slice none 0 0), pl (.int .u64 0), pl (.int .u64 0), pl (.slice none 0 0), pl (.int .u64 0), pl (.int .u64 0), pl (.slice none 0 0), pl (.int .u64 0), pl (.int .u64 0), pl (.slice none 0 0), pl (.int .u64 0), pl (.int .u64 0), pl (.slice none 0 0), pl (.int .u64 0), pl (.int .u64 0), pl (.slice none 0 0), pl (.int .u64 0), pl (.int .u64 0), pl (.slice none 0 0), pl (.int .u64 0), pl (.int .u64 0), pl (.slice none 0 0), pl (.int .u16 0), pl (.int .u16 0), pl (.int .u16 0), pl (.int .u16 0), pl (.int .u16 0), pl (.int .u16 0), pl (.int .u16 0), pl (.int .u16 0), pl (.int .u16 0), pl (.int .u16 0), pl (.int .u16 0), pl (.int .u16 0), pl (.int .u16 0), pl (.int .u16 0), pl (.int .u16 0), pl (.int .u16 0)]) Tryd.underlying86 pt86_W7 zt86_W7 (parts_cons (cells1 lz (one_pl rfl)) parts_nil) rfl) (agg_le ⟨Pd.le_refl _, Pd.le_refl _, Pd.le_refl _, Pd.le_refl _, Pd.le_refl _, le_nil rfl, Pd.le_refl _, Pd.le_refl _, le_nil rfl, Pd.le_refl _, Pd.le_refl _, le_nil rfl, Pd.le_refl _, Pd.le_refl _, le_nil rfl, Pd.le_refl _, Pd.le_refl _, le_nil rfl, Pd.le_refl _, Pd.le_refl _, le_nil rfl, Pd.le_refl _, Pd.le_refl _, le_nil rfl, Pd.le_refl _, Pd.le_refl _, le_nil rfl, Pd.le_refl _, Pd.le_refl _, le_nil rfl, Pd.le_refl _, Pd.le_refl _, le_nil rfl, Pd.le_refl _, Pd.le_refl _, le_nil rfl, Pd.le_refl _, Pd.le_refl _, le_nil rfl, Pd.le_refl _, Pd.le_refl _, le_nil rfl, Pd.le_refl _, Pd.le_refl _, le_nil rfl, Pd.le_refl _, Pd.le_refl _, le_nil rfl, Pd.le_refl _, Pd.le_refl _, le_nil rfl, Pd.le_refl _, Pd.le_refl _, Pd.le_refl _, Pd.le_refl _, Pd.le_refl _, Pd.le_refl _, Pd.le_refl _, Pd.le_refl _, Pd.le_refl _, Pd.le_refl _, Pd.le_refl _, Pd.le_refl _, Pd.le_refl _, Pd.le_refl _, Pd.le_refl _, Pd.le_refl _, trivial⟩))) ?_
  refine rts _ rfl (opD_wkN rfl (allocN (bs' := [⟨86, zl1⟩]) rfl zt86_W7 (by first | exact List.length_nil | (simp only [List.length_cons, List.length_nil, Nat.zero_add, Nat.reduceAdd] <;> rfl)) (by simp only [znz] <;> rfl)) (bxle_cons (B := ⟨86, zl1⟩) (C := ⟨86, kDir.cs (default : Dir)⟩) (@Eq.refl TypeId 86) kDir_zero bxle_nil) (bl_cons (kb_Dir _ _ _) bl_nil)) ?_
  refine rts _ rfl (storeAN (cs' := kDir.cs ({ (default : Dir) with Pages := IntKind.i64.wrap (8 + (IntKind.i64.wrap ((p0.tmod 500)))) } : Dir)) rfl sz86_W7 lz (ls rfl lz) (fun p_ h_ => kDir.one _ p_ h_) rfl (kDir_len _) (by rw [kDir_len]; exact Nat.le_refl _) (by intro h_; have := congrArg List.length h_; rw [kDir_len] at this; cases this) (kb_Dir _ _ _) (kDir_put _ _) (by simp only [znz] <;> rfl)) ?_
  refine .nil ?_
  refine aw_keep [(1, _), (5, _)] ⟨lg (lx (ls rfl (ls rfl (ls rfl (ls rfl (ls rfl (ls rfl (os rfl oz)))))))), lg (lx lz), trivial⟩ ?_
  refine aw_seq ?_
  refine aw_region (by decide) ?_
  refine rts _ rfl (opD_assign (ev_const _ _)) ?_
  refine .nil ?_
  refine aw_keep [(1, _), (5, _), (6, _)] ⟨lg (ls rfl oz), lg (ls rfl (os rfl oz)), lg lz, trivial⟩ ?_
  refine aw_seq ?_
  refine aw_seq ?_
  refine aw_region (by decide) ?_
  refine rts _ rfl (opD_assign (ev_const _ _)) ?_
  refine .nil ?_
  refine aw_keep [(1, _), (5, _), (6, _), (7, _)] ⟨lg (ls rfl oz), lg (ls rfl (os rfl oz)), lg (ls rfl (os rfl (os rfl oz))), lg lz, trivial⟩ ?_
  replace h0 := bnd_some h0
  obtain ⟨z_1, hz_1, h0⟩ := h0
  refine aw_mid (fun e st => ∃ v : Dir, Holds e [] ∧ st = s.ext [⟨86, (kDir.cs v)⟩] [] ∧ (.inr v) = z_1) ?_ ?_
  · skip
    refine aw_wkN rfl 1 0 rfl rfl ?_
    refine aw_block ?_
    refine aw_fr ⟨56, 1, 0⟩ ?_
    refine aw_loop (fun n e st => ∃ v : (List Int) × Int × Dir, Holds e [(1, sl (kArr 4 (kI .u8) (0 : Int)) none none p1), (5, ptr (s.boxes.length + 0) 0), (6, sl (kI .u64) (some (s.fr.length + 0)) none v.1), (7, pl (.int .i64 v.2.1))] ∧ st = s.ext [⟨86, (kDir.cs v.2.2)⟩] [⟨56, 1, v.1.length⟩] ∧ lp (F_l32DirApart_b0 fl p1) n v = some z_1) fl ⟨(([] : (List Int)), 0, ({ (default : Dir) with Pages := IntKind.i64.wrap (8 + (IntKind.i64.wrap ((p0.tmod 500)))) } : Dir)), ⟨le_of_eq (eg oz), le_of_eq (eg (os rfl oz)), (le_of_eq (eg (os rfl (os rfl oz)))).trans (nil_own rfl), le_of_eq (eg (os rfl (os rfl (os rfl oz)))), trivial⟩, rfl, hz_1⟩ ?_
    rintro n e st ⟨t_2, hH, rfl, hz_1⟩
    replace hz_1 := lp_some hz_1
    obtain ⟨m_z_3, z_3, rfl, hz_3, hz_1⟩ := hz_1
    unfold F_l32DirApart_b0 at hz_3
    refine aw_keep _ hH ?_
    refine aw_wkN rfl 1 1 rfl rfl ?_
    refine aw_seq ?_
    refine aw_seq ?_
    refine aw_region (by decide) ?_
    refine rts _ rfl (opD_move (os rfl (os rfl (os rfl oz)))) ?_
    refine rts _ rfl (opD_move (ls rfl oz)) ?_
    refine rts _ rfl (opD_len_sl Tryd.underlying78 lz) ?_
    refine rts _ rfl (opD_lss (ls rfl (ls rfl lz)) lz) ?_
    refine rts _ rfl (opD_move lz) ?_
    refine rtg _ rfl lz (fun hg4_5_951 => opD_move (ls rfl (ls rfl (ls rfl (ls rfl (ls rfl (os rfl (os rfl (os rfl oz))))))))) ?_
    refine rtg _ rfl (ls rfl lz) (fun hg4_6_952 => opD_lss (lz.trans (pif_pos hg4_6_952)) (ev_const _ _)) ?_
    refine rts _ rfl (opD_and (ls rfl (ls rfl lz)) lz) ?_
    refine .nil ?_
    refine aw_keep [(1, _), (5, _), (6, _), (7, _), (29, _)] ⟨lg (ls rfl (ls rfl (ls rfl (ls rfl (ls rfl (ls rfl (ls rfl (ls rfl oz)))))))), lg (ls rfl (ls rfl (ls rfl (ls rfl (ls rfl (ls rfl (ls rfl (ls rfl (os rfl oz))))))))), lg (ls rfl (ls rfl (ls rfl (ls rfl (ls rfl (ls rfl (ls rfl (ls rfl (os rfl (os rfl oz)))))))))), lg (ls rfl (ls rfl (ls rfl (ls rfl (ls rfl (ls rfl (ls rfl (ls rfl (os rfl (os rfl (os rfl oz))))))))))), lg lz, trivial⟩ ?_
    refine aw_cond _ (os rfl (os rfl (os rfl (os rfl oz)))) (fun hc => ?_) (fun hc => ?_)
    · skip
      replace hz_3 := ifb_t hz_3 hc
      clear hc
      refine aw_skip ?_
      refine aw_keep [(1, _), (5, _), (6, _), (7, _)] ⟨lg oz, lg (os rfl oz), lg (os rfl (os rfl oz)), lg (os rfl (os rfl (os rfl oz))), trivial⟩ ?_
      refine aw_seq ?_
      replace hz_3 := bnd_some hz_3
      obtain ⟨z_4, hz_4, hz_3⟩ := hz_3
      refine aw_mid (fun e st => ∃ v : (List Int) × Dir, Holds e [(1, sl (kArr 4 (kI .u8) (0 : Int)) none none p1), (5, ptr (s.boxes.length + 0) 0), (6, sl (kI .u64) (some (s.fr.length + 0)) none v.1), (7, pl (.int .i64 t_2.2.1))] ∧ st = s.ext [⟨86, (kDir.cs v.2)⟩] [⟨56, 1, v.1.length⟩] ∧ (.inr v) = z_4) ?_ ?_
      · skip
        refine aw_wkN rfl 1 1 rfl rfl ?_
        refine aw_block ?_
        refine aw_seq ?_
        refine aw_flat mixed_W7 (by decide +kernel) ?_
        refine zts _ rfl (opD_move oz) ?_
        refine zts _ rfl (opD_move (ls rfl (os rfl (os rfl (os rfl oz))))) ?_
        replace hz_4 := ixb_some hz_4
        obtain ⟨x_5, hx_5, hbx_5, hz_4⟩ := hz_4
        refine zts _ rfl (opD_indexAddr_sl (i := t_2.2.1.toNat) Tryd.underlying78 sz88_W7 (ls rfl lz) lz hbx_5.2.2 hbx_5.2.1) ?_
        refine zts _ rfl (opD_ple (q := el (kArr 4 (kI .u8) (0 : Int)) p1 t_2.2.1.toNat 1) rfl (opD_indexAddr_el (i := 1) Tryd.underlying88 sz5_W7 lz (ev_const _ _) rfl (by decide))) ?_
        refine zts _ rfl (opD_load_el_one ag5_W7 lz hx_5 rfl) ?_
        refine zts _ rfl (opD_rem lz (ev_const _ _) (by decide) rfl) ?_
        refine zts _ rfl (opD_conv_int Tryd.underlying5 Tryd.underlying56 lz rfl) ?_
        refine zts _ rfl (opD_add (ev_const _ _) lz rfl) ?_
        refine zts _ rfl (opD_move (ls rfl (ls rfl (ls rfl (ls rfl (ls rfl (ls rfl (ls rfl (ls rfl oz))))))))) ?_
        refine zts _ rfl (opD_move (ls rfl (ls rfl (ls rfl (ls rfl (ls rfl (ls rfl (ls rfl (ls rfl (ls rfl (os rfl (os rfl (os rfl oz))))))))))))) ?_
        replace hz_4 := ixb_some hz_4
        obtain ⟨x_6, hx_6, hbx_6, hz_4⟩ := hz_4
        refine zts _ rfl (opD_indexAddr_sl (i := t_2.2.1.toNat) Tryd.underlying78 sz88_W7 (ls rfl lz) lz hbx_6.2.2 hbx_6.2.1) ?_
        refine zts _ rfl (opD_ple (q := el (kArr 4 (kI .u8) (0 : Int)) p1 t_2.2.1.toNat 2) rfl (opD_indexAddr_el (i := 2) Tryd.underlying88 sz5_W7 lz (ev_const _ _) rfl (by decide))) ?_
        refine zts _ rfl (opD_load_el_one ag5_W7 lz hx_6 rfl) ?_
        refine zts _ rfl (opD_rem lz (ev_const _ _) (by decide) rfl) ?_
        refine zts _ rfl (opD_conv_int Tryd.underlying5 Tryd.underlying56 lz rfl) ?_
        refine zts _ rfl (opD_add (ev_const _ _) lz rfl) ?_
        refine zts _ rfl (opD_move (ls rfl (ls rfl (ls rfl (ls rfl (ls rfl (ls rfl (ls rfl (ls rfl (ls rfl (ls rfl (ls rfl (ls rfl (ls rfl (ls rfl (ls rfl (ls rfl oz))))))))))))))))) ?_
        refine zts _ rfl (opD_move (ls rfl (ls rfl (ls rfl (ls rfl (ls rfl (ls rfl (ls rfl (ls rfl (ls rfl (ls rfl (ls rfl (ls rfl (ls rfl (ls rfl (ls rfl (ls rfl (ls rfl (os rfl (os rfl (os rfl oz))))))))))))))))))))) ?_
        replace hz_4 := ixb_some hz_4
        obtain ⟨x_7, hx_7, hbx_7, hz_4⟩ := hz_4
        refine zts _ rfl (opD_indexAddr_sl (i := t_2.2.1.toNat) Tryd.underlying78 sz88_W7 (ls rfl lz) lz hbx_7.2.2 hbx_7.2.1) ?_
        refine zts _ rfl (opD_ple (q := el (kArr 4 (kI .u8) (0 : Int)) p1 t_2.2.1.toNat 3) rfl (opD_indexAddr_el (i := 3) Tryd.underlying88 sz5_W7 lz (ev_const _ _) rfl (by decide))) ?_
        refine zts _ rfl (opD_load_el_one ag5_W7 lz hx_7 rfl) ?_
        refine zts _ rfl (opD_conv_int Tryd.underlying5 Tryd.underlying3 lz rfl) ?_
        refine zts _ rfl (opD_assign (ls rfl (ls rfl (ls rfl (ls rfl (ls rfl (ls rfl (ls rfl (ls rfl (ls rfl (ls rfl (ls rfl (ls rfl (ls rfl (ls rfl lz))))))))))))))) ?_
        refine zts _ rfl (opD_assign (ls rfl (ls rfl (ls rfl (ls rfl (ls rfl (ls rfl (ls rfl lz)))))))) ?_
        refine zts _ rfl (opD_assign (ls rfl (ls rfl lz))) ?_
        refine .nil ?_
        refine aw_keep [(1, _), (5, _), (6, _), (7, _), (8, _), (9, _), (10, _)] ⟨lg (ls rfl (ls rfl (ls rfl (ls rfl (ls rfl (ls rfl (ls rfl (ls rfl (ls rfl (ls rfl (ls rfl (ls rfl (ls rfl (ls rfl (ls rfl (ls rfl (ls rfl (ls rfl (ls rfl (ls rfl (ls rfl (ls rfl (ls rfl (ls rfl (ls rfl oz))))))))))))))))))))))))), lg (ls rfl (ls rfl (ls rfl (ls rfl (ls rfl (ls rfl (ls rfl (ls rfl (ls rfl (ls rfl (ls rfl (ls rfl (ls rfl (ls rfl (ls rfl (ls rfl (ls rfl (ls rfl (ls rfl (ls rfl (ls rfl (ls rfl (ls rfl (ls rfl (ls rfl (os rfl oz)))))))))))))))))))))))))), lg (ls rfl (ls rfl (ls rfl (ls rfl (ls rfl (ls rfl (ls rfl (ls rfl (ls rfl (ls rfl (ls rfl (ls rfl (ls rfl (ls rfl (ls rfl (ls rfl (ls rfl (ls rfl (ls rfl (ls rfl (ls rfl (ls rfl (ls rfl (ls rfl (ls rfl (os rfl (os rfl oz))))))))))))))))))))))))))), lg (ls rfl (ls rfl (ls rfl (ls rfl (ls rfl (ls rfl (ls rfl (ls rfl (ls rfl (ls rfl (ls rfl (ls rfl (ls rfl (ls rfl (ls rfl (ls rfl (ls rfl (ls rfl (ls rfl (ls rfl (ls rfl (ls rfl (ls rfl (ls rfl (ls rfl (os rfl (os rfl (os rfl oz)))))))))))))))))))))))))))), lg (ls rfl (ls rfl lz)), lg (ls rfl lz), lg lz, trivial⟩ ?_
        refine aw_seq ?_
        refine aw_region (by decide) ?_
        refine rts _ rfl (opD_load_aggX ag86_W7 sz86_W7 (os rfl oz) (loc_getN rfl rfl) (by rw [kDir_len]; exact Nat.le_refl _) (kDir_full _)) ?_
        refine rts _ rfl (opD_wkN rfl (allocN (bs' := [⟨86, (kDir.cs t_2.2.2)⟩, ⟨86, zl1⟩]) rfl zt86_W7 (by first | exact List.length_nil | (simp only [List.length_cons, List.length_nil, Nat.zero_add, Nat.reduceAdd] <;> rfl)) (by simp only [znz] <;> rfl)) (bxle_same (bxle_cons (B := ⟨86, zl1⟩) (C := ⟨86, kDir.cs (default : Dir)⟩) (@Eq.refl TypeId 86) kDir_zero bxle_nil)) (bl_cons (kb_Dir _ _ _) (bl_cons (kb_Dir _ _ _) bl_nil))) ?_
        refine rts _ rfl (storeAN (cs' := kDir.cs t_2.2.2) rfl sz86_W7 lz (ls rfl lz) (fun p_ h_ => kDir.one _ p_ h_) rfl (kDir_len _) (by rw [kDir_len]; exact Nat.le_refl _) (by intro h_; have := congrArg List.length h_; rw [kDir_len] at this; cases this) (kb_Dir _ _ _) (kDir_put _ _) (by simp only [znz] <;> rfl)) ?_
        refine rts _ rfl (opD_assign (ev_const _ _)) ?_
        refine .nil ?_
        refine aw_keep [(1, _), (5, _), (6, _), (7, _), (8, _), (9, _), (10, _), (11, _)] ⟨lg (ls rfl (lx (ls rfl (ls rfl oz)))), lg (ls rfl (lx (ls rfl (ls rfl (os rfl oz))))), lg (ls rfl (lx (ls rfl (ls rfl (os rfl (os rfl oz)))))), lg (ls rfl (lx (ls rfl (ls rfl (os rfl (os rfl (os rfl oz))))))), lg (ls rfl (lx (ls rfl (ls rfl (os rfl (os rfl (os rfl (os rfl oz)))))))), lg (ls rfl (lx (ls rfl (ls rfl (os rfl (os rfl (os rfl (os rfl (os rfl oz))))))))), lg (ls rfl (lx (ls rfl (ls rfl (os rfl (os rfl (os rfl (os rfl (os rfl (os rfl oz)))))))))), lg (ls rfl (lx lz)), trivial⟩ ?_
        refine aw_seq ?_
        refine aw_seq ?_
        refine aw_region (by decide) ?_
        refine rts _ rfl (opD_move oz) ?_
        refine rts _ rfl (opD_move (ls rfl (os rfl (os rfl (os rfl oz))))) ?_
        replace hz_4 := ixb_some hz_4
        obtain ⟨x_8, hx_8, hbx_8, hz_4⟩ := hz_4
        refine rts _ rfl (opD_indexAddr_sl (i := t_2.2.1.toNat) Tryd.underlying78 sz88_W7 (ls rfl lz) lz hbx_8.2.2 hbx_8.2.1) ?_
        refine rts _ rfl (opD_ple (q := el (kArr 4 (kI .u8) (0 : Int)) p1 t_2.2.1.toNat 0) rfl (opD_indexAddr_el (i := 0) Tryd.underlying88 sz5_W7 lz (ev_const _ _) rfl (by decide))) ?_
        refine rts _ rfl (opD_load_el_one ag5_W7 lz hx_8 rfl) ?_
        refine rts _ rfl (opD_rem lz (ev_const _ _) (by decide) rfl) ?_
        refine .nil ?_
        refine aw_keep [(1, _), (5, _), (6, _), (7, _), (8, _), (9, _), (10, _), (11, _), (60, _)] ⟨lg (ls rfl (ls rfl (ls rfl (ls rfl (ls rfl (ls rfl oz)))))), lg (ls rfl (ls rfl (ls rfl (ls rfl (ls rfl (ls rfl (os rfl oz))))))), lg (ls rfl (ls rfl (ls rfl (ls rfl (ls rfl (ls rfl (os rfl (os rfl oz)))))))), lg (ls rfl (ls rfl (ls rfl (ls rfl (ls rfl (ls rfl (os rfl (os rfl (os rfl oz))))))))), lg (ls rfl (ls rfl (ls rfl (ls rfl (ls rfl (ls rfl (os rfl (os rfl (os rfl (os rfl oz)))))))))), lg (ls rfl (ls rfl (ls rfl (ls rfl (ls rfl (ls rfl (os rfl (os rfl (os rfl (os rfl (os rfl oz))))))))))), lg (ls rfl (ls rfl (ls rfl (ls rfl (ls rfl (ls rfl (os rfl (os rfl (os rfl (os rfl (os rfl (os rfl oz)))))))))))), lg (ls rfl (ls rfl (ls rfl (ls rfl (ls rfl (ls rfl (os rfl (os rfl (os rfl (os rfl (os rfl (os rfl (os rfl oz))))))))))))), lg lz, trivial⟩ ?_
        replace hz_4 := bnd_some hz_4
        obtain ⟨z_9, hz_9, hz_4⟩ := hz_4
        refine aw_mid (fun e st => ∃ v : (List Int) × (Option Int) × Dir, Holds e [(1, sl (kArr 4 (kI .u8) (0 : Int)) none none p1), (5, ptr (s.boxes.length + 0) 0), (6, sl (kI .u64) (some (s.fr.length + 0)) none v.1), (7, pl (.int .i64 t_2.2.1)), (11, ptr (s.boxes.length + 1) 0), (12, pl (errV v.2.1))] ∧ st = s.ext [⟨86, (kDir.cs t_2.2.2)⟩, ⟨86, (kDir.cs v.2.2)⟩] [⟨56, 1, v.1.length⟩] ∧ (.inr v) = z_9) ?_ ?_
        · skip
          refine aw_wkN rfl 2 1 rfl rfl ?_
          refine aw_block ?_
          refine aw_seq ?_
          refine aw_seq ?_
          refine aw_region (by decide) ?_
          refine rts _ rfl (opD_eql (os rfl (os rfl (os rfl (os rfl (os rfl (os rfl (os rfl (os rfl oz)))))))) (ev_const _ _)) ?_
          refine rts _ rfl (opD_assign lz) ?_
          refine .nil ?_
          refine aw_keep [(1, _), (5, _), (6, _), (7, _), (8, _), (9, _), (10, _), (11, _), (60, _), (83, _)] ⟨lg (ls rfl (ls rfl oz)), lg (ls rfl (ls rfl (os rfl oz))), lg (ls rfl (ls rfl (os rfl (os rfl oz)))), lg (ls rfl (ls rfl (os rfl (os rfl (os rfl oz))))), lg (ls rfl (ls rfl (os rfl (os rfl (os rfl (os rfl oz)))))), lg (ls rfl (ls rfl (os rfl (os rfl (os rfl (os rfl (os rfl oz))))))), lg (ls rfl (ls rfl (os rfl (os rfl (os rfl (os rfl (os rfl (os rfl oz)))))))), lg (ls rfl (ls rfl (os rfl (os rfl (os rfl (os rfl (os rfl (os rfl (os rfl oz))))))))), lg (ls rfl (ls rfl (os rfl (os rfl (os rfl (os rfl (os rfl (os rfl (os rfl (os rfl oz)))))))))), lg lz, trivial⟩ ?_
          replace hz_9 := bnd_some hz_9
          obtain ⟨z_10, hz_10, hz_9⟩ := hz_9
          refine aw_mid (fun e st => ∃ v : Bool, Holds e [(1, sl (kArr 4 (kI .u8) (0 : Int)) none none p1), (5, ptr (s.boxes.length + 0) 0), (6, sl (kI .u64) (some (s.fr.length + 0)) none t_2.1), (7, pl (.int .i64 t_2.2.1)), (8, pl (.int .u64 (IntKind.u64.wrap (1 + (IntKind.u64.wrap (((x_5.getD 1 (0 : Int)).tmod 20))))))), (9, pl (.int .u64 (IntKind.u64.wrap (1 + (IntKind.u64.wrap (((x_6.getD 2 (0 : Int)).tmod 20))))))), (10, pl (.int .i64 (IntKind.i64.wrap ((x_7.getD 3 (0 : Int)))))), (11, ptr (s.boxes.length + 1) 0), (60, pl (.int .u8 ((x_8.getD 0 (0 : Int)).tmod 6))), (83, pl (.bool v))] ∧ st = s.ext [⟨86, (kDir.cs t_2.2.2)⟩, ⟨86, (kDir.cs t_2.2.2)⟩] [⟨56, 1, t_2.1.length⟩] ∧ v = z_10) ?_ ?_
          · skip
            refine aw_wkN rfl 2 1 rfl rfl ?_
            refine aw_cond _ (os rfl (os rfl (os rfl (os rfl (os rfl (os rfl (os rfl (os rfl (os rfl oz))))))))) (fun hc => ?_) (fun hc => ?_)
            · skip
              replace hz_10 := ifb_t hz_10 hc
              clear hc
              refine aw_skip ?_
              refine wk_yesN rfl (l := [(1, sl (kArr 4 (kI .u8) (0 : Int)) none none p1), (5, ptr (s.boxes.length + 0) 0), (6, sl (kI .u64) (some (s.fr.length + 0)) none t_2.1), (7, pl (.int .i64 t_2.2.1)), (8, pl (.int .u64 (IntKind.u64.wrap (1 + (IntKind.u64.wrap (((x_5.getD 1 (0 : Int)).tmod 20))))))), (9, pl (.int .u64 (IntKind.u64.wrap (1 + (IntKind.u64.wrap (((x_6.getD 2 (0 : Int)).tmod 20))))))), (10, pl (.int .i64 (IntKind.i64.wrap ((x_7.getD 3 (0 : Int)))))), (11, ptr (s.boxes.length + 1) 0), (60, pl (.int .u8 ((x_8.getD 0 (0 : Int)).tmod 6))), (83, pl (.bool (decide (((x_8.getD 0 (0 : Int)).tmod 6) = 0))))]) (bs' := [⟨86, (kDir.cs t_2.2.2)⟩, ⟨86, (kDir.cs t_2.2.2)⟩]) ⟨le_of_eq (eg oz), le_of_eq (eg (os rfl oz)), le_of_eq (eg (os rfl (os rfl oz))), le_of_eq (eg (os rfl (os rfl (os rfl oz)))), le_of_eq (eg (os rfl (os rfl (os rfl (os rfl oz))))), le_of_eq (eg (os rfl (os rfl (os rfl (os rfl (os rfl oz)))))), le_of_eq (eg (os rfl (os rfl (os rfl (os rfl (os rfl (os rfl oz))))))), le_of_eq (eg (os rfl (os rfl (os rfl (os rfl (os rfl (os rfl (os rfl oz)))))))), le_of_eq (eg (os rfl (os rfl (os rfl (os rfl (os rfl (os rfl (os rfl (os rfl oz))))))))), le_of_eq (eg (os rfl (os rfl (os rfl (os rfl (os rfl (os rfl (os rfl (os rfl (os rfl oz)))))))))), trivial⟩ (zbc (sl_b (kb_arr (kb_I _))) (zbc (ptr_bnd _ (by first | omega | (simp only [List.length_append, List.length_cons, List.length_nil]; omega))) (zbc (sl_ob (kb_I _) (by first | omega | (simp only [List.length_append, List.length_cons, List.length_nil, ext_fr_length, upd_fr_length]; omega))) (zbc zPb (zbc zPb (zbc zPb (zbc zPb (zbc (ptr_bnd _ (by first | omega | (simp only [List.length_append, List.length_cons, List.length_nil]; omega))) (zbc zPb (zbc zPb bnd_nil)))))))))) (zNb rfl) (by simp only [znz] <;> rfl) (bxle_same (bxle_same bxle_nil)) rfl (by simp only [znz] <;> rfl) (bl_cons (kb_Dir _ _ _) (bl_cons (kb_Dir _ _ _) bl_nil)) ?_
              exact ⟨(decide (((x_8.getD 0 (0 : Int)).tmod 6) = 0)), ⟨le_of_eq (eg oz), le_of_eq (eg (os rfl oz)), le_of_eq (eg (os rfl (os rfl oz))), le_of_eq (eg (os rfl (os rfl (os rfl oz)))), le_of_eq (eg (os rfl (os rfl (os rfl (os rfl oz))))), le_of_eq (eg (os rfl (os rfl (os rfl (os rfl (os rfl oz)))))), le_of_eq (eg (os rfl (os rfl (os rfl (os rfl (os rfl (os rfl oz))))))), le_of_eq (eg (os rfl (os rfl (os rfl (os rfl (os rfl (os rfl (os rfl oz)))))))), le_of_eq (eg (os rfl (os rfl (os rfl (os rfl (os rfl (os rfl (os rfl (os rfl oz))))))))), le_of_eq (eg (os rfl (os rfl (os rfl (os rfl (os rfl (os rfl (os rfl (os rfl (os rfl oz)))))))))), trivial⟩, rfl, some_of hz_10⟩
            · skip
              replace hz_10 := ifb_f hz_10 hc
              clear hc
              refine aw_seq ?_
              refine aw_region (by decide) ?_
              refine rts _ rfl (opD_eql (os rfl (os rfl (os rfl (os rfl (os rfl (os rfl (os rfl (os rfl oz)))))))) (ev_const _ _)) ?_
              refine rts _ rfl (opD_assign lz) ?_
              refine .nil ?_
              refine aw_keep [(1, _), (5, _), (6, _), (7, _), (8, _), (9, _), (10, _), (11, _), (60, _), (83, _)] ⟨lg (ls rfl (ls rfl oz)), lg (ls rfl (ls rfl (os rfl oz))), lg (ls rfl (ls rfl (os rfl (os rfl oz)))), lg (ls rfl (ls rfl (os rfl (os rfl (os rfl oz))))), lg (ls rfl (ls rfl (os rfl (os rfl (os rfl (os rfl oz)))))), lg (ls rfl (ls rfl (os rfl (os rfl (os rfl (os rfl (os rfl oz))))))), lg (ls rfl (ls rfl (os rfl (os rfl (os rfl (os rfl (os rfl (os rfl oz)))))))), lg (ls rfl (ls rfl (os rfl (os rfl (os rfl (os rfl (os rfl (os rfl (os rfl oz))))))))), lg (ls rfl (ls rfl (os rfl (os rfl (os rfl (os rfl (os rfl (os rfl (os rfl (os rfl oz)))))))))), lg lz, trivial⟩ ?_
              refine aw_cond _ (os rfl (os rfl (os rfl (os rfl (os rfl (os rfl (os rfl (os rfl (os rfl oz))))))))) (fun hc => ?_) (fun hc => ?_)
              · skip
                replace hz_10 := ifb_t hz_10 hc
                clear hc
                refine aw_skip ?_
                refine wk_yesN rfl (l := [(1, sl (kArr 4 (kI .u8) (0 : Int)) none none p1), (5, ptr (s.boxes.length + 0) 0), (6, sl (kI .u64) (some (s.fr.length + 0)) none t_2.1), (7, pl (.int .i64 t_2.2.1)), (8, pl (.int .u64 (IntKind.u64.wrap (1 + (IntKind.u64.wrap (((x_5.getD 1 (0 : Int)).tmod 20))))))), (9, pl (.int .u64 (IntKind.u64.wrap (1 + (IntKind.u64.wrap (((x_6.getD 2 (0 : Int)).tmod 20))))))), (10, pl (.int .i64 (IntKind.i64.wrap ((x_7.getD 3 (0 : Int)))))), (11, ptr (s.boxes.length + 1) 0), (60, pl (.int .u8 ((x_8.getD 0 (0 : Int)).tmod 6))), (83, pl (.bool (decide (((x_8.getD 0 (0 : Int)).tmod 6) = 1))))]) (bs' := [⟨86, (kDir.cs t_2.2.2)⟩, ⟨86, (kDir.cs t_2.2.2)⟩]) ⟨le_of_eq (eg oz), le_of_eq (eg (os rfl oz)), le_of_eq (eg (os rfl (os rfl oz))), le_of_eq (eg (os rfl (os rfl (os rfl oz)))), le_of_eq (eg (os rfl (os rfl (os rfl (os rfl oz))))), le_of_eq (eg (os rfl (os rfl (os rfl (os rfl (os rfl oz)))))), le_of_eq (eg (os rfl (os rfl (os rfl (os rfl (os rfl (os rfl oz))))))), le_of_eq (eg (os rfl (os rfl (os rfl (os rfl (os rfl (os rfl (os rfl oz)))))))), le_of_eq (eg (os rfl (os rfl (os rfl (os rfl (os rfl (os rfl (os rfl (os rfl oz))))))))), le_of_eq (eg (os rfl (os rfl (os rfl (os rfl (os rfl (os rfl (os rfl (os rfl (os rfl oz)))))))))), trivial⟩ (zbc (sl_b (kb_arr (kb_I _))) (zbc (ptr_bnd _ (by first | omega | (simp only [List.length_append, List.length_cons, List.length_nil]; omega))) (zbc (sl_ob (kb_I _) (by first | omega | (simp only [List.length_append, List.length_cons, List.length_nil, ext_fr_length, upd_fr_length]; omega))) (zbc zPb (zbc zPb (zbc zPb (zbc zPb (zbc (ptr_bnd _ (by first | omega | (simp only [List.length_append, List.length_cons, List.length_nil]; omega))) (zbc zPb (zbc zPb bnd_nil)))))))))) (zNb rfl) (by simp only [znz] <;> rfl) (bxle_same (bxle_same bxle_nil)) rfl (by simp only [znz] <;> rfl) (bl_cons (kb_Dir _ _ _) (bl_cons (kb_Dir _ _ _) bl_nil)) ?_
                exact ⟨(decide (((x_8.getD 0 (0 : Int)).tmod 6) = 1)), ⟨le_of_eq (eg oz), le_of_eq (eg (os rfl oz)), le_of_eq (eg (os rfl (os rfl oz))), le_of_eq (eg (os rfl (os rfl (os rfl oz)))), le_of_eq (eg (os rfl (os rfl (os rfl (os rfl oz))))), le_of_eq (eg (os rfl (os rfl (os rfl (os rfl (os rfl oz)))))), le_of_eq (eg (os rfl (os rfl (os rfl (os rfl (os rfl (os rfl oz))))))), le_of_eq (eg (os rfl (os rfl (os rfl (os rfl (os rfl (os rfl (os rfl oz)))))))), le_of_eq (eg (os rfl (os rfl (os rfl (os rfl (os rfl (os rfl (os rfl (os rfl oz))))))))), le_of_eq (eg (os rfl (os rfl (os rfl (os rfl (os rfl (os rfl (os rfl (os rfl (os rfl oz)))))))))), trivial⟩, rfl, some_of hz_10⟩
              · skip
                replace hz_10 := ifb_f hz_10 hc
                clear hc
                refine aw_region (by decide) ?_
                refine rts _ rfl (opD_eql (os rfl (os rfl (os rfl (os rfl (os rfl (os rfl (os rfl (os rfl oz)))))))) (ev_const _ _)) ?_
                refine rts _ rfl (opD_assign lz) ?_
                refine .nil ?_
                refine wk_yesN rfl (l := [(1, sl (kArr 4 (kI .u8) (0 : Int)) none none p1), (5, ptr (s.boxes.length + 0) 0), (6, sl (kI .u64) (some (s.fr.length + 0)) none t_2.1), (7, pl (.int .i64 t_2.2.1)), (8, pl (.int .u64 (IntKind.u64.wrap (1 + (IntKind.u64.wrap (((x_5.getD 1 (0 : Int)).tmod 20))))))), (9, pl (.int .u64 (IntKind.u64.wrap (1 + (IntKind.u64.wrap (((x_6.getD 2 (0 : Int)).tmod 20))))))), (10, pl (.int .i64 (IntKind.i64.wrap ((x_7.getD 3 (0 : Int)))))), (11, ptr (s.boxes.length + 1) 0), (60, pl (.int .u8 ((x_8.getD 0 (0 : Int)).tmod 6))), (83, pl (.bool (decide (((x_8.getD 0 (0 : Int)).tmod 6) = 2))))]) (bs' := [⟨86, (kDir.cs t_2.2.2)⟩, ⟨86, (kDir.cs t_2.2.2)⟩]) ⟨le_of_eq (eg (ls rfl (ls rfl oz))), le_of_eq (eg (ls rfl (ls rfl (os rfl oz)))), le_of_eq (eg (ls rfl (ls rfl (os rfl (os rfl oz))))), le_of_eq (eg (ls rfl (ls rfl (os rfl (os rfl (os rfl oz)))))), le_of_eq (eg (ls rfl (ls rfl (os rfl (os rfl (os rfl (os rfl oz))))))), le_of_eq (eg (ls rfl (ls rfl (os rfl (os rfl (os rfl (os rfl (os rfl oz)))))))), le_of_eq (eg (ls rfl (ls rfl (os rfl (os rfl (os rfl (os rfl (os rfl (os rfl oz))))))))), le_of_eq (eg (ls rfl (ls rfl (os rfl (os rfl (os rfl (os rfl (os rfl (os rfl (os rfl oz)))))))))), le_of_eq (eg (ls rfl (ls rfl (os rfl (os rfl (os rfl (os rfl (os rfl (os rfl (os rfl (os rfl oz))))))))))), le_of_eq (eg lz), trivial⟩ (zbc (sl_b (kb_arr (kb_I _))) (zbc (ptr_bnd _ (by first | omega | (simp only [List.length_append, List.length_cons, List.length_nil]; omega))) (zbc (sl_ob (kb_I _) (by first | omega | (simp only [List.length_append, List.length_cons, List.length_nil, ext_fr_length, upd_fr_length]; omega))) (zbc zPb (zbc zPb (zbc zPb (zbc zPb (zbc (ptr_bnd _ (by first | omega | (simp only [List.length_append, List.length_cons, List.length_nil]; omega))) (zbc zPb (zbc zPb bnd_nil)))))))))) (zNb rfl) (by simp only [znz] <;> rfl) (bxle_same (bxle_same bxle_nil)) rfl (by simp only [znz] <;> rfl) (bl_cons (kb_Dir _ _ _) (bl_cons (kb_Dir _ _ _) bl_nil)) ?_
                exact ⟨(decide (((x_8.getD 0 (0 : Int)).tmod 6) = 2)), ⟨le_of_eq (eg oz), le_of_eq (eg (os rfl oz)), le_of_eq (eg (os rfl (os rfl oz))), le_of_eq (eg (os rfl (os rfl (os rfl oz)))), le_of_eq (eg (os rfl (os rfl (os rfl (os rfl oz))))), le_of_eq (eg (os rfl (os rfl (os rfl (os rfl (os rfl oz)))))), le_of_eq (eg (os rfl (os rfl (os rfl (os rfl (os rfl (os rfl oz))))))), le_of_eq (eg (os rfl (os rfl (os rfl (os rfl (os rfl (os rfl (os rfl oz)))))))), le_of_eq (eg (os rfl (os rfl (os rfl (os rfl (os rfl (os rfl (os rfl (os rfl oz))))))))), le_of_eq (eg (os rfl (os rfl (os rfl (os rfl (os rfl (os rfl (os rfl (os rfl (os rfl oz)))))))))), trivial⟩, rfl, some_of hz_10⟩
          · rintro e st ⟨vz_10, hH, rfl, rfl⟩
            refine aw_keep _ hH ?_
            refine aw_keep [(1, _), (5, _), (6, _), (7, _), (8, _), (9, _), (10, _), (11, _), (60, _), (83, _)] ⟨lg oz, lg (os rfl oz), lg (os rfl (os rfl oz)), lg (os rfl (os rfl (os rfl oz))), lg (os rfl (os rfl (os rfl (os rfl oz)))), lg (os rfl (os rfl (os rfl (os rfl (os rfl oz))))), lg (os rfl (os rfl (os rfl (os rfl (os rfl (os rfl oz)))))), lg (os rfl (os rfl (os rfl (os rfl (os rfl (os rfl (os rfl oz))))))), lg (os rfl (os rfl (os rfl (os rfl (os rfl (os rfl (os rfl (os rfl oz)))))))), lg (os rfl (os rfl (os rfl (os rfl (os rfl (os rfl (os rfl (os rfl (os rfl oz))))))))), trivial⟩ ?_
            refine aw_cond _ (os rfl (os rfl (os rfl (os rfl (os rfl (os rfl (os rfl (os rfl (os rfl oz))))))))) (fun hc => ?_) (fun hc => ?_)
            · skip
              replace hz_9 := ifb_t hz_9 hc
              clear hc
              refine aw_seq ?_
              refine aw_region (by decide) ?_
              refine rts _ rfl (opD_load_aggX ag86_W7 sz86_W7 (os rfl oz) (loc_getN rfl rfl) (by rw [kDir_len]; exact Nat.le_refl _) (kDir_full _)) ?_
              refine rts _ rfl (opD_move (ls rfl (os rfl (os rfl (os rfl (os rfl oz)))))) ?_
              refine rts _ rfl (opD_move (ls rfl (ls rfl (os rfl (os rfl (os rfl (os rfl (os rfl (os rfl oz))))))))) ?_
              replace hz_9 := bnd_some hz_9
              obtain ⟨x_11, hx_11, hz_9⟩ := hz_9
              refine rts _ rfl (opD_pure ht41_W7 (c_dCreate hx_11) ⟨le_of_eq (ls rfl (ls rfl lz)), le_of_eq (ls rfl lz), le_of_eq lz, trivial⟩) ?_
              refine rts _ rfl (opD_move lz) ?_
              refine rts _ rfl (opD_extract lz rfl) ?_
              refine rts _ rfl (opD_extract (ls rfl lz) rfl) ?_
              refine rts _ rfl (storeAN (cs' := kDir.cs x_11.1) rfl sz86_W7 (ls rfl (ls rfl (ls rfl (ls rfl (ls rfl (ls rfl (ls rfl (os rfl (os rfl (os rfl (os rfl (os rfl (os rfl (os rfl oz)))))))))))))) (ls rfl lz) (fun p_ h_ => kDir.one _ p_ h_) rfl (kDir_len _) (by rw [kDir_len]; exact Nat.le_refl _) (by intro h_; have := congrArg List.length h_; rw [kDir_len] at this; cases this) (kb_Dir _ _ _) (kDir_put _ _) (by simp only [znz] <;> rfl)) ?_
              refine rts _ rfl (opD_assign (lx lz)) ?_
              refine .nil ?_
              refine aw_keep [(1, _), (5, _), (6, _), (7, _), (8, _), (10, _), (11, _), (12, _)] ⟨lg (ls rfl (lx (ls rfl (ls rfl (ls rfl (ls rfl (ls rfl (ls rfl (ls rfl oz))))))))), lg (ls rfl (lx (ls rfl (ls rfl (ls rfl (ls rfl (ls rfl (ls rfl (ls rfl (os rfl oz)))))))))), lg (ls rfl (lx (ls rfl (ls rfl (ls rfl (ls rfl (ls rfl (ls rfl (ls rfl (os rfl (os rfl oz))))))))))), lg (ls rfl (lx (ls rfl (ls rfl (ls rfl (ls rfl (ls rfl (ls rfl (ls rfl (os rfl (os rfl (os rfl oz)))))))))))), lg (ls rfl (lx (ls rfl (ls rfl (ls rfl (ls rfl (ls rfl (ls rfl (ls rfl (os rfl (os rfl (os rfl (os rfl oz))))))))))))), lg (ls rfl (lx (ls rfl (ls rfl (ls rfl (ls rfl (ls rfl (ls rfl (ls rfl (os rfl (os rfl (os rfl (os rfl (os rfl (os rfl oz))))))))))))))), lg (ls rfl (lx (ls rfl (ls rfl (ls rfl (ls rfl (ls rfl (ls rfl (ls rfl (os rfl (os rfl (os rfl (os rfl (os rfl (os rfl (os rfl oz)))))))))))))))), lg lz, trivial⟩ ?_
              refine aw_seq ?_
              refine aw_seq ?_
              refine aw_region (by decide) ?_
              refine rts _ rfl (opD_move (os rfl (os rfl (os rfl (os rfl (os rfl (os rfl (os rfl oz)))))))) ?_
              refine rts _ rfl (opD_bin lz (ev_const _ _) (fun w => errV_guard _ w _) (fun w => errV_beq _ w)) ?_
              refine .nil ?_
              refine aw_keep [(1, _), (5, _), (6, _), (7, _), (8, _), (10, _), (11, _), (12, _), (95, _)] ⟨lg (ls rfl (ls rfl oz)), lg (ls rfl (ls rfl (os rfl oz))), lg (ls rfl (ls rfl (os rfl (os rfl oz)))), lg (ls rfl (ls rfl (os rfl (os rfl (os rfl oz))))), lg (ls rfl (ls rfl (os rfl (os rfl (os rfl (os rfl oz)))))), lg (ls rfl (ls rfl (os rfl (os rfl (os rfl (os rfl (os rfl oz))))))), lg (ls rfl (ls rfl (os rfl (os rfl (os rfl (os rfl (os rfl (os rfl oz)))))))), lg (ls rfl (ls rfl (os rfl (os rfl (os rfl (os rfl (os rfl (os rfl (os rfl oz))))))))), lg lz, trivial⟩ ?_
              refine aw_cond _ (os rfl (os rfl (os rfl (os rfl (os rfl (os rfl (os rfl (os rfl oz)))))))) (fun hc => ?_) (fun hc => ?_)
              · skip
                replace hz_9 := ifb_t hz_9 hc
                clear hc
                refine aw_exit ?_
                refine wk_yesN rfl (l := [(1, sl (kArr 4 (kI .u8) (0 : Int)) none none p1), (5, ptr (s.boxes.length + 0) 0), (6, sl (kI .u64) (some (s.fr.length + 0)) none t_2.1), (7, pl (.int .i64 t_2.2.1)), (11, ptr (s.boxes.length + 1) 0), (12, pl (errV x_11.2))]) (bs' := [⟨86, (kDir.cs t_2.2.2)⟩, ⟨86, (kDir.cs x_11.1)⟩]) ⟨le_of_eq (eg oz), le_of_eq (eg (os rfl oz)), le_of_eq (eg (os rfl (os rfl oz))), le_of_eq (eg (os rfl (os rfl (os rfl oz)))), le_of_eq (eg (os rfl (os rfl (os rfl (os rfl (os rfl (os rfl oz))))))), le_of_eq (eg (os rfl (os rfl (os rfl (os rfl (os rfl (os rfl (os rfl oz)))))))), trivial⟩ (zbc (sl_b (kb_arr (kb_I _))) (zbc (ptr_bnd _ (by first | omega | (simp only [List.length_append, List.length_cons, List.length_nil]; omega))) (zbc (sl_ob (kb_I _) (by first | omega | (simp only [List.length_append, List.length_cons, List.length_nil, ext_fr_length, upd_fr_length]; omega))) (zbc zPb (zbc (ptr_bnd _ (by first | omega | (simp only [List.length_append, List.length_cons, List.length_nil]; omega))) (zbc zPb bnd_nil)))))) (zNb rfl) (by simp only [znz] <;> rfl) (bxle_same (bxle_same bxle_nil)) rfl (by simp only [znz] <;> rfl) (bl_cons (kb_Dir _ _ _) (bl_cons (kb_Dir _ _ _) bl_nil)) ?_
                exact ⟨(t_2.1, x_11.2, x_11.1), ⟨le_of_eq (eg oz), le_of_eq (eg (os rfl oz)), le_of_eq (eg (os rfl (os rfl oz))), le_of_eq (eg (os rfl (os rfl (os rfl oz)))), le_of_eq (eg (os rfl (os rfl (os rfl (os rfl oz))))), le_of_eq (eg (os rfl (os rfl (os rfl (os rfl (os rfl oz)))))), trivial⟩, rfl, some_of hz_9⟩
              · skip
                replace hz_9 := ifb_f hz_9 hc
                clear hc
                refine aw_skip ?_
                refine aw_keep [(1, _), (5, _), (6, _), (7, _), (8, _), (10, _), (11, _), (12, _)] ⟨lg oz, lg (os rfl oz), lg (os rfl (os rfl oz)), lg (os rfl (os rfl (os rfl oz))), lg (os rfl (os rfl (os rfl (os rfl oz)))), lg (os rfl (os rfl (os rfl (os rfl (os rfl oz))))), lg (os rfl (os rfl (os rfl (os rfl (os rfl (os rfl oz)))))), lg (os rfl (os rfl (os rfl (os rfl (os rfl (os rfl (os rfl oz))))))), trivial⟩ ?_
                refine aw_seq ?_
                refine aw_region (by decide) ?_
                refine rts _ rfl (opD_load_aggX ag86_W7 sz86_W7 (os rfl (os rfl (os rfl (os rfl (os rfl (os rfl oz)))))) (loc_getN rfl rfl) (by rw [kDir_len]; exact Nat.le_refl _) (kDir_full _)) ?_
                refine rts _ rfl (opD_move (ls rfl (os rfl (os rfl (os rfl (os rfl oz)))))) ?_
                replace hz_9 := bnd_some hz_9
                obtain ⟨x_12, hx_12, hz_9⟩ := hz_9
                refine rts _ rfl (opD_pure ht42_W7 (c_dPlace hx_12) ⟨le_of_eq (ls rfl lz), le_of_eq lz, trivial⟩) ?_
                refine rts _ rfl (opD_move lz) ?_
                refine rts _ rfl (opD_extract lz rfl) ?_
                refine rts _ rfl (opD_extract (ls rfl lz) rfl) ?_
                refine rts _ rfl (opD_assign (ls rfl lz)) ?_
                refine rts _ rfl (opD_assign (ls rfl lz)) ?_
                refine .nil ?_
                refine aw_keep [(1, _), (5, _), (6, _), (7, _), (8, _), (10, _), (11, _), (12, _), (13, _), (14, _)] ⟨lg (ls rfl (ls rfl (ls rfl (ls rfl (ls rfl (ls rfl (ls rfl (ls rfl oz)))))))), lg (ls rfl (ls rfl (ls rfl (ls rfl (ls rfl (ls rfl (ls rfl (ls rfl (os rfl oz))))))))), lg (ls rfl (ls rfl (ls rfl (ls rfl (ls rfl (ls rfl (ls rfl (ls rfl (os rfl (os rfl oz)))))))))), lg (ls rfl (ls rfl (ls rfl (ls rfl (ls rfl (ls rfl (ls rfl (ls rfl (os rfl (os rfl (os rfl oz))))))))))), lg (ls rfl (ls rfl (ls rfl (ls rfl (ls rfl (ls rfl (ls rfl (ls rfl (os rfl (os rfl (os rfl (os rfl oz)))))))))))), lg (ls rfl (ls rfl (ls rfl (ls rfl (ls rfl (ls rfl (ls rfl (ls rfl (os rfl (os rfl (os rfl (os rfl (os rfl oz))))))))))))), lg (ls rfl (ls rfl (ls rfl (ls rfl (ls rfl (ls rfl (ls rfl (ls rfl (os rfl (os rfl (os rfl (os rfl (os rfl (os rfl oz)))))))))))))), lg (ls rfl (ls rfl (ls rfl (ls rfl (ls rfl (ls rfl (ls rfl (ls rfl (os rfl (os rfl (os rfl (os rfl (os rfl (os rfl (os rfl oz))))))))))))))), lg (ls rfl lz), lg lz, trivial⟩ ?_
                refine aw_seq ?_
                refine aw_seq ?_
                refine aw_region (by decide) ?_
                refine rts _ rfl (opD_move (os rfl (os rfl (os rfl (os rfl (os rfl (os rfl (os rfl (os rfl (os rfl oz)))))))))) ?_
                refine rts _ rfl (opD_bin lz (ev_const _ _) (fun w => errV_guard _ w _) (fun w => errV_beq _ w)) ?_
                refine rts _ rfl (opD_move lz) ?_
                refine rtg _ rfl lz (fun hg18_3_1082 => opD_move (ls rfl (ls rfl (ls rfl (os rfl (os rfl (os rfl (os rfl (os rfl (os rfl (os rfl (os rfl oz)))))))))))) ?_
                refine rtg _ rfl (ls rfl lz) (fun hg18_4_1083 => opD_fieldAddr fo86_3_W7 (ls rfl (ls rfl (ls rfl (ls rfl (os rfl (os rfl (os rfl (os rfl (os rfl (os rfl oz))))))))))) ?_
                replace hz_9 := grd_some hz_9
                obtain ⟨hg_1085, hz_9⟩ := hz_9
                refine rtg _ rfl (ls rfl (ls rfl lz)) (fun hg18_5_1084 => opD_indexAddr_arr (i := x_12.1.toNat) Tryd.underlying82 sz81_W7 (lz.trans (pif_pos hg18_5_1084)) ((ls rfl lz).trans (pif_pos hg18_5_1084)) (hg_1085 hg18_5_1084).eq (hg_1085 hg18_5_1084).2) ?_
                refine rtg _ rfl (ls rfl (ls rfl (ls rfl lz))) (fun hg18_6_1086 => opD_fieldAddr fo81_2_W7 (lz.trans (pif_pos hg18_6_1086))) ?_
                refine rtg _ rfl (ls rfl (ls rfl (ls rfl (ls rfl lz)))) (fun hg18_7_1087 => opD_load_one ag79_W7 (lz.trans (pif_pos hg18_7_1087)) (loc_getN rfl rfl) ((kDir_e_L _ (j := 2) (hg_1085 hg18_7_1087).2 (by decide)).trans rfl)) ?_
                replace hz_9 := bnd_some hz_9
                obtain ⟨x_13, hx_13, hz_9⟩ := hz_9
                refine rtg _ rfl (ls rfl (ls rfl (ls rfl (ls rfl (ls rfl lz))))) (fun hg18_8_1088 => opD_pure ht43_W7 (c_xMany (gif_some hx_13 hg18_8_1088)) ⟨le_of_eq (lz.trans (pif_pos hg18_8_1088)), trivial⟩) ?_
                refine rtg _ rfl (ls rfl (ls rfl (ls rfl (ls rfl (ls rfl (ls rfl lz)))))) (fun hg18_9_1089 => opD_move (ls rfl (ls rfl (ls rfl (ls rfl (ls rfl (ls rfl (ls rfl (ls rfl (ls rfl (os rfl (os rfl (os rfl (os rfl (os rfl oz))))))))))))))) ?_
                refine rtg _ rfl (ls rfl (ls rfl (ls rfl (ls rfl (ls rfl (ls rfl (ls rfl lz))))))) (fun hg18_10_1090 => opD_neq ((ls rfl lz).trans (pif_pos hg18_10_1090)) (lz.trans (pif_pos hg18_10_1090))) ?_
                refine rts _ rfl (opD_or (ls rfl (ls rfl (ls rfl (ls rfl (ls rfl (ls rfl (ls rfl (ls rfl lz)))))))) lz) ?_
                refine .nil ?_
                refine aw_keep [(1, _), (5, _), (6, _), (7, _), (8, _), (11, _), (12, _), (13, _), (113, _)] ⟨lg (ls rfl (ls rfl (ls rfl (ls rfl (ls rfl (ls rfl (ls rfl (ls rfl (ls rfl (ls rfl (ls rfl (ls rfl oz)))))))))))), lg (ls rfl (ls rfl (ls rfl (ls rfl (ls rfl (ls rfl (ls rfl (ls rfl (ls rfl (ls rfl (ls rfl (ls rfl (os rfl oz))))))))))))), lg (ls rfl (ls rfl (ls rfl (ls rfl (ls rfl (ls rfl (ls rfl (ls rfl (ls rfl (ls rfl (ls rfl (ls rfl (os rfl (os rfl oz)))))))))))))), lg (ls rfl (ls rfl (ls rfl (ls rfl (ls rfl (ls rfl (ls rfl (ls rfl (ls rfl (ls rfl (ls rfl (ls rfl (os rfl (os rfl (os rfl oz))))))))))))))), lg (ls rfl (ls rfl (ls rfl (ls rfl (ls rfl (ls rfl (ls rfl (ls rfl (ls rfl (ls rfl (ls rfl (ls rfl (os rfl (os rfl (os rfl (os rfl oz)))))))))))))))), lg (ls rfl (ls rfl (ls rfl (ls rfl (ls rfl (ls rfl (ls rfl (ls rfl (ls rfl (ls rfl (ls rfl (ls rfl (os rfl (os rfl (os rfl (os rfl (os rfl (os rfl oz)))))))))))))))))), lg (ls rfl (ls rfl (ls rfl (ls rfl (ls rfl (ls rfl (ls rfl (ls rfl (ls rfl (ls rfl (ls rfl (ls rfl (os rfl (os rfl (os rfl (os rfl (os rfl (os rfl (os rfl oz))))))))))))))))))), lg (ls rfl (ls rfl (ls rfl (ls rfl (ls rfl (ls rfl (ls rfl (ls rfl (ls rfl (ls rfl (ls rfl (ls rfl (os rfl (os rfl (os rfl (os rfl (os rfl (os rfl (os rfl (os rfl oz)))))))))))))))))))), lg lz, trivial⟩ ?_
                refine aw_cond _ (os rfl (os rfl (os rfl (os rfl (os rfl (os rfl (os rfl (os rfl oz)))))))) (fun hc => ?_) (fun hc => ?_)
                · skip
                  replace hz_9 := ifb_t hz_9 hc
                  clear hc
                  refine aw_seq ?_
                  refine aw_region (by decide) ?_
                  refine rts _ rfl (opD_assign (ev_const _ _)) ?_
                  refine .nil ?_
                  refine aw_keep [(4, _)] ⟨lg lz, trivial⟩ ?_
                  refine aw_ret ?_
                  obtain rfl := some_of hz_9
                  replace hz_4 := ocs_l hz_4
                  obtain rfl := some_of hz_4
                  replace hz_3 := ocs_l hz_3
                  obtain rfl := some_of hz_3
                  replace hz_1 := ocs_r hz_1
                  obtain rfl := some_of hz_1
                  replace h0 := ocs_l h0
                  refine wk_no ?_
                  refine wk_no ?_
                  refine wk_no ?_
                  refine wk_no ?_
                  obtain rfl := some_of h0
                  exact done_ext (.inr rfl) ((res_one rfl (it_tmp oz)).le zLr) zPb
                · skip
                  replace hz_9 := ifb_f hz_9 hc
                  clear hc
                  refine aw_skip ?_
                  refine aw_keep [(1, _), (5, _), (6, _), (7, _), (8, _), (11, _), (12, _), (13, _)] ⟨lg oz, lg (os rfl oz), lg (os rfl (os rfl oz)), lg (os rfl (os rfl (os rfl oz))), lg (os rfl (os rfl (os rfl (os rfl oz)))), lg (os rfl (os rfl (os rfl (os rfl (os rfl oz))))), lg (os rfl (os rfl (os rfl (os rfl (os rfl (os rfl oz)))))), lg (os rfl (os rfl (os rfl (os rfl (os rfl (os rfl (os rfl oz))))))), trivial⟩ ?_
                  refine aw_seq ?_
                  refine aw_seq ?_
                  refine aw_region (by decide) ?_
                  refine rts _ rfl (opD_assign (ev_const _ _)) ?_
                  refine .nil ?_
                  refine aw_keep [(1, _), (5, _), (6, _), (7, _), (8, _), (11, _), (12, _), (13, _), (15, _)] ⟨lg (ls rfl oz), lg (ls rfl (os rfl oz)), lg (ls rfl (os rfl (os rfl oz))), lg (ls rfl (os rfl (os rfl (os rfl oz)))), lg (ls rfl (os rfl (os rfl (os rfl (os rfl oz))))), lg (ls rfl (os rfl (os rfl (os rfl (os rfl (os rfl oz)))))), lg (ls rfl (os rfl (os rfl (os rfl (os rfl (os rfl (os rfl oz))))))), lg (ls rfl (os rfl (os rfl (os rfl (os rfl (os rfl (os rfl (os rfl oz)))))))), lg lz, trivial⟩ ?_
                  replace hz_9 := bnd_some hz_9
                  obtain ⟨z_14, hz_14, hz_9⟩ := hz_9
                  refine aw_mid (fun e st => ∃ v : Unit, Holds e [(1, sl (kArr 4 (kI .u8) (0 : Int)) none none p1), (5, ptr (s.boxes.length + 0) 0), (6, sl (kI .u64) (some (s.fr.length + 0)) none t_2.1), (7, pl (.int .i64 t_2.2.1)), (8, pl (.int .u64 (IntKind.u64.wrap (1 + (IntKind.u64.wrap (((x_5.getD 1 (0 : Int)).tmod 20))))))), (11, ptr (s.boxes.length + 1) 0), (12, pl (errV x_11.2)), (13, pl (.int .i64 x_12.1))] ∧ st = s.ext [⟨86, (kDir.cs t_2.2.2)⟩, ⟨86, (kDir.cs x_11.1)⟩] [⟨56, 1, t_2.1.length⟩] ∧ (.inr v) = z_14) ?_ ?_
                  · skip
                    refine aw_wkN rfl 2 1 rfl rfl ?_
                    refine aw_block ?_
                    refine aw_loop (fun n e st => ∃ v : Int, Holds e [(1, sl (kArr 4 (kI .u8) (0 : Int)) none none p1), (5, ptr (s.boxes.length + 0) 0), (6, sl (kI .u64) (some (s.fr.length + 0)) none t_2.1), (7, pl (.int .i64 t_2.2.1)), (8, pl (.int .u64 (IntKind.u64.wrap (1 + (IntKind.u64.wrap (((x_5.getD 1 (0 : Int)).tmod 20))))))), (11, ptr (s.boxes.length + 1) 0), (12, pl (errV x_11.2)), (13, pl (.int .i64 x_12.1)), (15, pl (.int .i64 v))] ∧ st = s.ext [⟨86, (kDir.cs t_2.2.2)⟩, ⟨86, (kDir.cs x_11.1)⟩] [⟨56, 1, t_2.1.length⟩] ∧ lp (F_l32DirApart_b1 t_2 x_11 x_12) n v = some z_14) fl ⟨0, ⟨le_of_eq (eg oz), le_of_eq (eg (os rfl oz)), le_of_eq (eg (os rfl (os rfl oz))), le_of_eq (eg (os rfl (os rfl (os rfl oz)))), le_of_eq (eg (os rfl (os rfl (os rfl (os rfl oz))))), le_of_eq (eg (os rfl (os rfl (os rfl (os rfl (os rfl oz)))))), le_of_eq (eg (os rfl (os rfl (os rfl (os rfl (os rfl (os rfl oz))))))), le_of_eq (eg (os rfl (os rfl (os rfl (os rfl (os rfl (os rfl (os rfl oz)))))))), le_of_eq (eg (os rfl (os rfl (os rfl (os rfl (os rfl (os rfl (os rfl (os rfl oz))))))))), trivial⟩, rfl, hz_14⟩ ?_
                    rintro n e st ⟨t_15, hH, rfl, hz_14⟩
                    replace hz_14 := lp_some hz_14
                    obtain ⟨m_z_16, z_16, rfl, hz_16, hz_14⟩ := hz_14
                    unfold F_l32DirApart_b1 at hz_16
                    refine aw_keep _ hH ?_
                    refine aw_wkN rfl 2 1 rfl rfl ?_
                    refine aw_seq ?_
                    refine aw_seq ?_
                    refine aw_region (by decide) ?_
                    refine rts _ rfl (opD_move (os rfl (os rfl (os rfl (os rfl (os rfl (os rfl (os rfl (os rfl oz))))))))) ?_
                    refine rts _ rfl (opD_move (ls rfl (os rfl (os rfl oz)))) ?_
                    refine rts _ rfl (opD_len_sl Tryd.underlying87 lz) ?_
                    refine rts _ rfl (opD_lss (ls rfl (ls rfl lz)) lz) ?_
                    refine .nil ?_
                    refine aw_keep [(1, _), (5, _), (6, _), (7, _), (8, _), (11, _), (12, _), (13, _), (15, _), (117, _)] ⟨lg (ls rfl (ls rfl (ls rfl (ls rfl oz)))), lg (ls rfl (ls rfl (ls rfl (ls rfl (os rfl oz))))), lg (ls rfl (ls rfl (ls rfl (ls rfl (os rfl (os rfl oz)))))), lg (ls rfl (ls rfl (ls rfl (ls rfl (os rfl (os rfl (os rfl oz))))))), lg (ls rfl (ls rfl (ls rfl (ls rfl (os rfl (os rfl (os rfl (os rfl oz)))))))), lg (ls rfl (ls rfl (ls rfl (ls rfl (os rfl (os rfl (os rfl (os rfl (os rfl oz))))))))), lg (ls rfl (ls rfl (ls rfl (ls rfl (os rfl (os rfl (os rfl (os rfl (os rfl (os rfl oz)))))))))), lg (ls rfl (ls rfl (ls rfl (ls rfl (os rfl (os rfl (os rfl (os rfl (os rfl (os rfl (os rfl oz))))))))))), lg (ls rfl (ls rfl (ls rfl (ls rfl (os rfl (os rfl (os rfl (os rfl (os rfl (os rfl (os rfl (os rfl oz)))))))))))), lg lz, trivial⟩ ?_
                    refine aw_cond _ (os rfl (os rfl (os rfl (os rfl (os rfl (os rfl (os rfl (os rfl (os rfl oz))))))))) (fun hc => ?_) (fun hc => ?_)
                    · skip
                      replace hz_16 := ifb_t hz_16 hc
                      clear hc
                      refine aw_skip ?_
                      refine aw_keep [(1, _), (5, _), (6, _), (7, _), (8, _), (11, _), (12, _), (13, _), (15, _)] ⟨lg oz, lg (os rfl oz), lg (os rfl (os rfl oz)), lg (os rfl (os rfl (os rfl oz))), lg (os rfl (os rfl (os rfl (os rfl oz)))), lg (os rfl (os rfl (os rfl (os rfl (os rfl oz))))), lg (os rfl (os rfl (os rfl (os rfl (os rfl (os rfl oz)))))), lg (os rfl (os rfl (os rfl (os rfl (os rfl (os rfl (os rfl oz))))))), lg (os rfl (os rfl (os rfl (os rfl (os rfl (os rfl (os rfl (os rfl oz)))))))), trivial⟩ ?_
                      refine aw_seq ?_
                      refine aw_block ?_
                      refine aw_seq ?_
                      refine aw_flat mixed_W7 (by decide +kernel) ?_
                      refine zts _ rfl (opD_move (os rfl (os rfl oz))) ?_
                      refine zts _ rfl (opD_move (ls rfl (os rfl (os rfl (os rfl (os rfl (os rfl (os rfl (os rfl (os rfl oz)))))))))) ?_
                      replace hz_16 := ixb_some hz_16
                      obtain ⟨x_17, hx_17, hbx_17, hz_16⟩ := hz_16
                      refine zts _ rfl (opD_indexAddr_sl (i := t_15.toNat) Tryd.underlying87 sz56_W7 (ls rfl lz) lz hbx_17.2.2 hbx_17.2.1) ?_
                      refine zts _ rfl (opD_load_el_one ag56_W7 lz hx_17 rfl) ?_
                      refine zts _ rfl (opD_move (ls rfl (ls rfl (ls rfl (ls rfl (os rfl (os rfl (os rfl (os rfl (os rfl (os rfl (os rfl oz)))))))))))) ?_
                      refine zts _ rfl (opD_fieldAddr fo86_3_W7 (ls rfl (ls rfl (ls rfl (ls rfl (ls rfl (os rfl (os rfl (os rfl (os rfl (os rfl oz))))))))))) ?_
                      replace hz_16 := grd_some hz_16
                      obtain ⟨hg_1098, hz_16⟩ := hz_16
                      refine zts _ rfl (opD_indexAddr_arr (i := x_12.1.toNat) Tryd.underlying82 sz81_W7 lz (ls rfl lz) hg_1098.eq hg_1098.2) ?_
                      refine zts _ rfl (opD_fieldAddr fo81_1_W7 lz) ?_
                      refine zts _ rfl (opD_load_one ag56_W7 lz (loc_getN rfl rfl) ((kDir_e_L _ (j := 1) hg_1098.2 (by decide)).trans rfl)) ?_
                      refine zts _ rfl (opD_eql (ls rfl (ls rfl (ls rfl (ls rfl (ls rfl lz))))) lz) ?_
                      refine .nil ?_
                      refine aw_keep [(1, _), (5, _), (6, _), (7, _), (8, _), (11, _), (12, _), (13, _), (15, _), (129, _)] ⟨lg (ls rfl (ls rfl (ls rfl (ls rfl (ls rfl (ls rfl (ls rfl (ls rfl (ls rfl (ls rfl oz)))))))))), lg (ls rfl (ls rfl (ls rfl (ls rfl (ls rfl (ls rfl (ls rfl (ls rfl (ls rfl (ls rfl (os rfl oz))))))))))), lg (ls rfl (ls rfl (ls rfl (ls rfl (ls rfl (ls rfl (ls rfl (ls rfl (ls rfl (ls rfl (os rfl (os rfl oz)))))))))))), lg (ls rfl (ls rfl (ls rfl (ls rfl (ls rfl (ls rfl (ls rfl (ls rfl (ls rfl (ls rfl (os rfl (os rfl (os rfl oz))))))))))))), lg (ls rfl (ls rfl (ls rfl (ls rfl (ls rfl (ls rfl (ls rfl (ls rfl (ls rfl (ls rfl (os rfl (os rfl (os rfl (os rfl oz)))))))))))))), lg (ls rfl (ls rfl (ls rfl (ls rfl (ls rfl (ls rfl (ls rfl (ls rfl (ls rfl (ls rfl (os rfl (os rfl (os rfl (os rfl (os rfl oz))))))))))))))), lg (ls rfl (ls rfl (ls rfl (ls rfl (ls rfl (ls rfl (ls rfl (ls rfl (ls rfl (ls rfl (os rfl (os rfl (os rfl (os rfl (os rfl (os rfl oz)))))))))))))))), lg (ls rfl (ls rfl (ls rfl (ls rfl (ls rfl (ls rfl (ls rfl (ls rfl (ls rfl (ls rfl (os rfl (os rfl (os rfl (os rfl (os rfl (os rfl (os rfl oz))))))))))))))))), lg (ls rfl (ls rfl (ls rfl (ls rfl (ls rfl (ls rfl (ls rfl (ls rfl (ls rfl (ls rfl (os rfl (os rfl (os rfl (os rfl (os rfl (os rfl (os rfl (os rfl oz)))))))))))))))))), lg lz, trivial⟩ ?_
                      refine aw_cond _ (os rfl (os rfl (os rfl (os rfl (os rfl (os rfl (os rfl (os rfl (os rfl oz))))))))) (fun hc => ?_) (fun hc => ?_)
                      · skip
                        replace hz_16 := ifb_t hz_16 hc
                        clear hc
                        refine aw_seq ?_
                        refine aw_region (by decide) ?_
                        refine rts _ rfl (opD_assign (ev_const _ _)) ?_
                        refine .nil ?_
                        refine aw_keep [(4, _)] ⟨lg lz, trivial⟩ ?_
                        refine aw_ret ?_
                        obtain rfl := some_of hz_16
                        replace hz_14 := ocs_r hz_14
                        obtain rfl := some_of hz_14
                        replace hz_9 := ocs_l hz_9
                        obtain rfl := some_of hz_9
                        replace hz_4 := ocs_l hz_4
                        obtain rfl := some_of hz_4
                        replace hz_3 := ocs_l hz_3
                        obtain rfl := some_of hz_3
                        replace hz_1 := ocs_r hz_1
                        obtain rfl := some_of hz_1
                        replace h0 := ocs_l h0
                        refine wk_no ?_
                        refine wk_no ?_
                        refine wk_no ?_
                        refine wk_no ?_
                        refine wk_no ?_
                        refine wk_no ?_
                        obtain rfl := some_of h0
                        exact done_ext (.inr rfl) ((res_one rfl (it_tmp oz)).le zLr) zPb
                      · skip
                        replace hz_16 := ifb_f hz_16 hc
                        clear hc
                        refine aw_skip ?_
                        refine aw_keep [(1, _), (5, _), (6, _), (7, _), (8, _), (11, _), (12, _), (13, _), (15, _)] ⟨lg oz, lg (os rfl oz), lg (os rfl (os rfl oz)), lg (os rfl (os rfl (os rfl oz))), lg (os rfl (os rfl (os rfl (os rfl oz)))), lg (os rfl (os rfl (os rfl (os rfl (os rfl oz))))), lg (os rfl (os rfl (os rfl (os rfl (os rfl (os rfl oz)))))), lg (os rfl (os rfl (os rfl (os rfl (os rfl (os rfl (os rfl oz))))))), lg (os rfl (os rfl (os rfl (os rfl (os rfl (os rfl (os rfl (os rfl oz)))))))), trivial⟩ ?_
                        refine aw_region (by decide) ?_
                        refine rts _ rfl (opD_move (os rfl (os rfl (os rfl (os rfl (os rfl (os rfl (os rfl (os rfl oz))))))))) ?_
                        refine rts _ rfl (opD_add lz (ev_const _ _) rfl) ?_
                        refine rts _ rfl (opD_assign lz) ?_
                        refine .nil ?_
                        obtain rfl := some_of hz_16
                        replace hz_14 := ocs_l hz_14
                        refine wk_yesN rfl (l := [(1, sl (kArr 4 (kI .u8) (0 : Int)) none none p1), (5, ptr (s.boxes.length + 0) 0), (6, sl (kI .u64) (some (s.fr.length + 0)) none t_2.1), (7, pl (.int .i64 t_2.2.1)), (8, pl (.int .u64 (IntKind.u64.wrap (1 + (IntKind.u64.wrap (((x_5.getD 1 (0 : Int)).tmod 20))))))), (11, ptr (s.boxes.length + 1) 0), (12, pl (errV x_11.2)), (13, pl (.int .i64 x_12.1)), (15, pl (.int .i64 (IntKind.i64.wrap (t_15 + 1))))]) (bs' := [⟨86, (kDir.cs t_2.2.2)⟩, ⟨86, (kDir.cs x_11.1)⟩]) ⟨le_of_eq (eg (ls rfl (ls rfl (ls rfl oz)))), le_of_eq (eg (ls rfl (ls rfl (ls rfl (os rfl oz))))), le_of_eq (eg (ls rfl (ls rfl (ls rfl (os rfl (os rfl oz)))))), le_of_eq (eg (ls rfl (ls rfl (ls rfl (os rfl (os rfl (os rfl oz))))))), le_of_eq (eg (ls rfl (ls rfl (ls rfl (os rfl (os rfl (os rfl (os rfl oz)))))))), le_of_eq (eg (ls rfl (ls rfl (ls rfl (os rfl (os rfl (os rfl (os rfl (os rfl oz))))))))), le_of_eq (eg (ls rfl (ls rfl (ls rfl (os rfl (os rfl (os rfl (os rfl (os rfl (os rfl oz)))))))))), le_of_eq (eg (ls rfl (ls rfl (ls rfl (os rfl (os rfl (os rfl (os rfl (os rfl (os rfl (os rfl oz))))))))))), le_of_eq (eg lz), trivial⟩ (zbc (sl_b (kb_arr (kb_I _))) (zbc (ptr_bnd _ (by first | omega | (simp only [List.length_append, List.length_cons, List.length_nil]; omega))) (zbc (sl_ob (kb_I _) (by first | omega | (simp only [List.length_append, List.length_cons, List.length_nil, ext_fr_length, upd_fr_length]; omega))) (zbc zPb (zbc zPb (zbc (ptr_bnd _ (by first | omega | (simp only [List.length_append, List.length_cons, List.length_nil]; omega))) (zbc zPb (zbc zPb (zbc zPb bnd_nil))))))))) (zNb rfl) (by simp only [znz] <;> rfl) (bxle_same (bxle_same bxle_nil)) rfl (by simp only [znz] <;> rfl) (bl_cons (kb_Dir _ _ _) (bl_cons (kb_Dir _ _ _) bl_nil)) ?_
                        exact ⟨m_z_16, Nat.lt_succ_self _, IntKind.i64.wrap (t_15 + 1), ⟨le_of_eq (eg oz), le_of_eq (eg (os rfl oz)), le_of_eq (eg (os rfl (os rfl oz))), le_of_eq (eg (os rfl (os rfl (os rfl oz)))), le_of_eq (eg (os rfl (os rfl (os rfl (os rfl oz))))), le_of_eq (eg (os rfl (os rfl (os rfl (os rfl (os rfl oz)))))), le_of_eq (eg (os rfl (os rfl (os rfl (os rfl (os rfl (os rfl oz))))))), le_of_eq (eg (os rfl (os rfl (os rfl (os rfl (os rfl (os rfl (os rfl oz)))))))), le_of_eq (eg (os rfl (os rfl (os rfl (os rfl (os rfl (os rfl (os rfl (os rfl oz))))))))), trivial⟩, rfl, hz_14⟩
                    · skip
                      replace hz_16 := ifb_f hz_16 hc
                      clear hc
                      refine aw_exit ?_
                      obtain rfl := some_of hz_16
                      replace hz_14 := ocs_r hz_14
                      refine wk_no ?_
                      refine wk_yesN rfl (l := [(1, sl (kArr 4 (kI .u8) (0 : Int)) none none p1), (5, ptr (s.boxes.length + 0) 0), (6, sl (kI .u64) (some (s.fr.length + 0)) none t_2.1), (7, pl (.int .i64 t_2.2.1)), (8, pl (.int .u64 (IntKind.u64.wrap (1 + (IntKind.u64.wrap (((x_5.getD 1 (0 : Int)).tmod 20))))))), (11, ptr (s.boxes.length + 1) 0), (12, pl (errV x_11.2)), (13, pl (.int .i64 x_12.1))]) (bs' := [⟨86, (kDir.cs t_2.2.2)⟩, ⟨86, (kDir.cs x_11.1)⟩]) ⟨le_of_eq (eg oz), le_of_eq (eg (os rfl oz)), le_of_eq (eg (os rfl (os rfl oz))), le_of_eq (eg (os rfl (os rfl (os rfl oz)))), le_of_eq (eg (os rfl (os rfl (os rfl (os rfl oz))))), le_of_eq (eg (os rfl (os rfl (os rfl (os rfl (os rfl oz)))))), le_of_eq (eg (os rfl (os rfl (os rfl (os rfl (os rfl (os rfl oz))))))), le_of_eq (eg (os rfl (os rfl (os rfl (os rfl (os rfl (os rfl (os rfl oz)))))))), trivial⟩ (zbc (sl_b (kb_arr (kb_I _))) (zbc (ptr_bnd _ (by first | omega | (simp only [List.length_append, List.length_cons, List.length_nil]; omega))) (zbc (sl_ob (kb_I _) (by first | omega | (simp only [List.length_append, List.length_cons, List.length_nil, ext_fr_length, upd_fr_length]; omega))) (zbc zPb (zbc zPb (zbc (ptr_bnd _ (by first | omega | (simp only [List.length_append, List.length_cons, List.length_nil]; omega))) (zbc zPb (zbc zPb bnd_nil)))))))) (zNb rfl) (by simp only [znz] <;> rfl) (bxle_same (bxle_same bxle_nil)) rfl (by simp only [znz] <;> rfl) (bl_cons (kb_Dir _ _ _) (bl_cons (kb_Dir _ _ _) bl_nil)) ?_
                      exact ⟨(), ⟨le_of_eq (eg oz), le_of_eq (eg (os rfl oz)), le_of_eq (eg (os rfl (os rfl oz))), le_of_eq (eg (os rfl (os rfl (os rfl oz)))), le_of_eq (eg (os rfl (os rfl (os rfl (os rfl oz))))), le_of_eq (eg (os rfl (os rfl (os rfl (os rfl (os rfl oz)))))), le_of_eq (eg (os rfl (os rfl (os rfl (os rfl (os rfl (os rfl oz))))))), le_of_eq (eg (os rfl (os rfl (os rfl (os rfl (os rfl (os rfl (os rfl oz)))))))), trivial⟩, rfl, some_of hz_14⟩
                  · rintro e st ⟨vz_14, hH, rfl, rfl⟩
                    refine aw_keep _ hH ?_
                    replace hz_9 := ocs_r hz_9
                    refine aw_keep [(1, _), (5, _), (6, _), (7, _), (8, _), (11, _), (12, _), (13, _)] ⟨lg oz, lg (os rfl oz), lg (os rfl (os rfl oz)), lg (os rfl (os rfl (os rfl oz))), lg (os rfl (os rfl (os rfl (os rfl oz)))), lg (os rfl (os rfl (os rfl (os rfl (os rfl oz))))), lg (os rfl (os rfl (os rfl (os rfl (os rfl (os rfl oz)))))), lg (os rfl (os rfl (os rfl (os rfl (os rfl (os rfl (os rfl oz))))))), trivial⟩ ?_
                    refine aw_seq ?_
                    refine aw_region (by decide) ?_
                    refine rts _ rfl (opD_move (os rfl (os rfl oz))) ?_
                    refine rts _ rfl (opD_move (ls rfl (os rfl (os rfl (os rfl (os rfl (os rfl (os rfl (os rfl oz))))))))) ?_
                    refine rts _ rfl (opD_fieldAddr fo86_3_W7 (ls rfl (ls rfl (os rfl (os rfl (os rfl (os rfl (os rfl oz)))))))) ?_
                    replace hz_9 := grd_some hz_9
                    obtain ⟨hg_1099, hz_9⟩ := hz_9
                    refine rts _ rfl (opD_indexAddr_arr (i := x_12.1.toNat) Tryd.underlying82 sz81_W7 lz (ls rfl lz) hg_1099.eq hg_1099.2) ?_
                    refine rts _ rfl (opD_fieldAddr fo81_1_W7 lz) ?_
                    refine rts _ rfl (opD_load_one ag56_W7 lz (loc_getN rfl rfl) ((kDir_e_L _ (j := 1) hg_1099.2 (by decide)).trans rfl)) ?_
                    refine rts _ rfl (opD_buildOwn (k := kI .u64) ([(x_11.1.L.getD x_12.1.toNat (default : Tenant)).Gen] : (List Int)) Tryd.underlying87 sz56_W7 zt56_W7 (by decide) rfl (parts_cons (cells1 lz (one_pl rfl)) parts_nil) rfl rfl (by first | exact List.length_nil | (simp only [List.length_cons, List.length_nil, Nat.zero_add, Nat.reduceAdd] <;> rfl)) (by simp only [znz] <;> rfl)) ?_
                    replace hz_9 := grd_some hz_9
                    obtain ⟨hg_1100, hz_9⟩ := hz_9
                    refine rts _ rfl (opD_appendX Tryd.underlying87 el56_W7 (ls rfl (ls rfl (ls rfl (ls rfl (ls rfl (ls rfl lz)))))) lz rfl hg_1100.1 hg_1100.2 rfl (by simp only [znz] <;> rfl)) ?_
                    refine rts _ rfl (opD_assign lz) ?_
                    refine .nil ?_
                    refine aw_keep [(1, _), (5, _), (6, _), (7, _), (8, _), (11, _), (12, _)] ⟨lg (ls rfl (ls rfl (ls rfl (ls rfl (ls rfl (ls rfl (ls rfl (ls rfl (ls rfl oz))))))))), lg (ls rfl (ls rfl (ls rfl (ls rfl (ls rfl (ls rfl (ls rfl (ls rfl (ls rfl (os rfl oz)))))))))), lg lz, lg (ls rfl (ls rfl (ls rfl (ls rfl (ls rfl (ls rfl (ls rfl (ls rfl (ls rfl (os rfl (os rfl (os rfl oz)))))))))))), lg (ls rfl (ls rfl (ls rfl (ls rfl (ls rfl (ls rfl (ls rfl (ls rfl (ls rfl (os rfl (os rfl (os rfl (os rfl oz))))))))))))), lg (ls rfl (ls rfl (ls rfl (ls rfl (ls rfl (ls rfl (ls rfl (ls rfl (ls rfl (os rfl (os rfl (os rfl (os rfl (os rfl oz)))))))))))))), lg (ls rfl (ls rfl (ls rfl (ls rfl (ls rfl (ls rfl (ls rfl (ls rfl (ls rfl (os rfl (os rfl (os rfl (os rfl (os rfl (os rfl oz))))))))))))))), trivial⟩ ?_
                    refine aw_seq ?_
                    refine aw_region (by decide) ?_
                    refine rts _ rfl (opD_assign (ev_const _ _)) ?_
                    refine .nil ?_
                    refine aw_keep [(1, _), (5, _), (6, _), (7, _), (8, _), (11, _), (12, _), (16, _)] ⟨lg (ls rfl oz), lg (ls rfl (os rfl oz)), lg (ls rfl (os rfl (os rfl oz))), lg (ls rfl (os rfl (os rfl (os rfl oz)))), lg (ls rfl (os rfl (os rfl (os rfl (os rfl oz))))), lg (ls rfl (os rfl (os rfl (os rfl (os rfl (os rfl oz)))))), lg (ls rfl (os rfl (os rfl (os rfl (os rfl (os rfl (os rfl oz))))))), lg lz, trivial⟩ ?_
                    refine aw_block ?_
                    refine aw_loop (fun n e st => ∃ v : Int, Holds e [(1, sl (kArr 4 (kI .u8) (0 : Int)) none none p1), (5, ptr (s.boxes.length + 0) 0), (6, sl (kI .u64) (some (s.fr.length + 0)) none (t_2.1 ++ ([(x_11.1.L.getD x_12.1.toNat (default : Tenant)).Gen] : (List Int)))), (7, pl (.int .i64 t_2.2.1)), (8, pl (.int .u64 (IntKind.u64.wrap (1 + (IntKind.u64.wrap (((x_5.getD 1 (0 : Int)).tmod 20))))))), (11, ptr (s.boxes.length + 1) 0), (12, pl (errV x_11.2)), (16, pl (.int .u64 v))] ∧ st = s.ext [⟨86, (kDir.cs t_2.2.2)⟩, ⟨86, (kDir.cs x_11.1)⟩] [⟨56, 1, (t_2.1 ++ ([(x_11.1.L.getD x_12.1.toNat (default : Tenant)).Gen] : (List Int))).length⟩, ⟨56, 1, ([(x_11.1.L.getD x_12.1.toNat (default : Tenant)).Gen] : (List Int)).length⟩] ∧ lp (F_l32DirApart_b2 fl t_2 x_5 x_11 x_12) n v = some z_9) fl ⟨1, ⟨le_of_eq (eg oz), le_of_eq (eg (os rfl oz)), le_of_eq (eg (os rfl (os rfl oz))), le_of_eq (eg (os rfl (os rfl (os rfl oz)))), le_of_eq (eg (os rfl (os rfl (os rfl (os rfl oz))))), le_of_eq (eg (os rfl (os rfl (os rfl (os rfl (os rfl oz)))))), le_of_eq (eg (os rfl (os rfl (os rfl (os rfl (os rfl (os rfl oz))))))), le_of_eq (eg (os rfl (os rfl (os rfl (os rfl (os rfl (os rfl (os rfl oz)))))))), trivial⟩, rfl, hz_9⟩ ?_
                    rintro n e st ⟨t_18, hH, rfl, hz_9⟩
                    replace hz_9 := lp_some hz_9
                    obtain ⟨m_z_19, z_19, rfl, hz_19, hz_9⟩ := hz_9
                    unfold F_l32DirApart_b2 at hz_19
                    refine aw_keep _ hH ?_
                    refine aw_wkN rfl 2 2 rfl rfl ?_
                    refine aw_seq ?_
                    refine aw_seq ?_
                    refine aw_region (by decide) ?_
                    refine rts _ rfl (opD_move (os rfl (os rfl (os rfl (os rfl (os rfl (os rfl (os rfl oz)))))))) ?_
                    refine rts _ rfl (opD_leq lz (ev_const _ _)) ?_
                    refine .nil ?_
                    refine aw_keep [(1, _), (5, _), (6, _), (7, _), (8, _), (11, _), (12, _), (16, _), (139, _)] ⟨lg (ls rfl (ls rfl oz)), lg (ls rfl (ls rfl (os rfl oz))), lg (ls rfl (ls rfl (os rfl (os rfl oz)))), lg (ls rfl (ls rfl (os rfl (os rfl (os rfl oz))))), lg (ls rfl (ls rfl (os rfl (os rfl (os rfl (os rfl oz)))))), lg (ls rfl (ls rfl (os rfl (os rfl (os rfl (os rfl (os rfl oz))))))), lg (ls rfl (ls rfl (os rfl (os rfl (os rfl (os rfl (os rfl (os rfl oz)))))))), lg (ls rfl (ls rfl (os rfl (os rfl (os rfl (os rfl (os rfl (os rfl (os rfl oz))))))))), lg lz, trivial⟩ ?_
                    refine aw_cond _ (os rfl (os rfl (os rfl (os rfl (os rfl (os rfl (os rfl (os rfl oz)))))))) (fun hc => ?_) (fun hc => ?_)
                    · skip
                      replace hz_19 := ifb_t hz_19 hc
                      clear hc
                      refine aw_skip ?_
                      refine aw_keep [(1, _), (5, _), (6, _), (7, _), (8, _), (11, _), (12, _), (16, _)] ⟨lg oz, lg (os rfl oz), lg (os rfl (os rfl oz)), lg (os rfl (os rfl (os rfl oz))), lg (os rfl (os rfl (os rfl (os rfl oz)))), lg (os rfl (os rfl (os rfl (os rfl (os rfl oz))))), lg (os rfl (os rfl (os rfl (os rfl (os rfl (os rfl oz)))))), lg (os rfl (os rfl (os rfl (os rfl (os rfl (os rfl (os rfl oz))))))), trivial⟩ ?_
                      refine aw_seq ?_
                      refine aw_block ?_
                      refine aw_seq ?_
                      refine aw_region (by decide) ?_
                      refine rts _ rfl (opD_move (os rfl (os rfl (os rfl (os rfl (os rfl (os rfl (os rfl oz)))))))) ?_
                      refine rts _ rfl (opD_move (ls rfl (os rfl (os rfl (os rfl (os rfl oz)))))) ?_
                      refine rts _ rfl (opD_neq (ls rfl lz) lz) ?_
                      refine rts _ rfl (opD_move lz) ?_
                      refine rtg _ rfl lz (fun hg29_4_1105 => opD_load_aggX ag86_W7 sz86_W7 (ls rfl (ls rfl (ls rfl (ls rfl (os rfl (os rfl (os rfl (os rfl (os rfl oz))))))))) (loc_getN rfl rfl) (by rw [kDir_len]; exact Nat.le_refl _) (kDir_full _)) ?_
                      refine rtg _ rfl (ls rfl lz) (fun hg29_5_1106 => opD_move (ls rfl (ls rfl (ls rfl (ls rfl (ls rfl (os rfl (os rfl (os rfl (os rfl (os rfl (os rfl (os rfl oz))))))))))))) ?_
                      refine rtg _ rfl (ls rfl (ls rfl lz)) (fun hg29_6_1107 => opD_move (ls rfl (ls rfl (ls rfl (ls rfl (ls rfl (ls rfl (os rfl (os rfl (os rfl (os rfl oz))))))))))) ?_
                      replace hz_19 := bnd_some hz_19
                      obtain ⟨x_20, hx_20, hz_19⟩ := hz_19
                      refine rtg _ rfl (ls rfl (ls rfl (ls rfl lz))) (fun hg29_7_1108 => opD_pure ht44_W7 (c_dSees (gif_some hx_20 hg29_7_1108)) ⟨le_of_eq ((ls rfl (ls rfl lz)).trans (pif_pos hg29_7_1108)), le_of_eq ((ls rfl lz).trans (pif_pos hg29_7_1108)), le_of_eq (lz.trans (pif_pos hg29_7_1108)), trivial⟩) ?_
                      refine rts _ rfl (opD_and (ls rfl (ls rfl (ls rfl (ls rfl lz)))) lz) ?_
                      refine .nil ?_
                      refine aw_keep [(1, _), (5, _), (6, _), (7, _), (8, _), (11, _), (12, _), (16, _), (150, _)] ⟨lg (ls rfl (ls rfl (ls rfl (ls rfl (ls rfl (ls rfl (ls rfl (ls rfl (ls rfl oz))))))))), lg (ls rfl (ls rfl (ls rfl (ls rfl (ls rfl (ls rfl (ls rfl (ls rfl (ls rfl (os rfl oz)))))))))), lg (ls rfl (ls rfl (ls rfl (ls rfl (ls rfl (ls rfl (ls rfl (ls rfl (ls rfl (os rfl (os rfl oz))))))))))), lg (ls rfl (ls rfl (ls rfl (ls rfl (ls rfl (ls rfl (ls rfl (ls rfl (ls rfl (os rfl (os rfl (os rfl oz)))))))))))), lg (ls rfl (ls rfl (ls rfl (ls rfl (ls rfl (ls rfl (ls rfl (ls rfl (ls rfl (os rfl (os rfl (os rfl (os rfl oz))))))))))))), lg (ls rfl (ls rfl (ls rfl (ls rfl (ls rfl (ls rfl (ls rfl (ls rfl (ls rfl (os rfl (os rfl (os rfl (os rfl (os rfl oz)))))))))))))), lg (ls rfl (ls rfl (ls rfl (ls rfl (ls rfl (ls rfl (ls rfl (ls rfl (ls rfl (os rfl (os rfl (os rfl (os rfl (os rfl (os rfl oz))))))))))))))), lg (ls rfl (ls rfl (ls rfl (ls rfl (ls rfl (ls rfl (ls rfl (ls rfl (ls rfl (os rfl (os rfl (os rfl (os rfl (os rfl (os rfl (os rfl oz)))))))))))))))), lg lz, trivial⟩ ?_
                      refine aw_cond _ (os rfl (os rfl (os rfl (os rfl (os rfl (os rfl (os rfl (os rfl oz)))))))) (fun hc => ?_) (fun hc => ?_)
                      · skip
                        replace hz_19 := ifb_t hz_19 hc
                        clear hc
                        refine aw_seq ?_
                        refine aw_region (by decide) ?_
                        refine rts _ rfl (opD_assign (ev_const _ _)) ?_
                        refine .nil ?_
                        refine aw_keep [(4, _)] ⟨lg lz, trivial⟩ ?_
                        refine aw_ret ?_
                        obtain rfl := some_of hz_19
                        replace hz_9 := ocs_r hz_9
                        obtain rfl := some_of hz_9
                        replace hz_4 := ocs_l hz_4
                        obtain rfl := some_of hz_4
                        replace hz_3 := ocs_l hz_3
                        obtain rfl := some_of hz_3
                        replace hz_1 := ocs_r hz_1
                        obtain rfl := some_of hz_1
                        replace h0 := ocs_l h0
                        refine wk_no ?_
                        refine wk_no ?_
                        refine wk_no ?_
                        refine wk_no ?_
                        refine wk_no ?_
                        obtain rfl := some_of h0
                        exact done_ext (.inr rfl) ((res_one rfl (it_tmp oz)).le zLr) zPb
                      · skip
                        replace hz_19 := ifb_f hz_19 hc
                        clear hc
                        refine aw_skip ?_
                        refine aw_keep [(1, _), (5, _), (6, _), (7, _), (8, _), (11, _), (12, _), (16, _)] ⟨lg oz, lg (os rfl oz), lg (os rfl (os rfl oz)), lg (os rfl (os rfl (os rfl oz))), lg (os rfl (os rfl (os rfl (os rfl oz)))), lg (os rfl (os rfl (os rfl (os rfl (os rfl oz))))), lg (os rfl (os rfl (os rfl (os rfl (os rfl (os rfl oz)))))), lg (os rfl (os rfl (os rfl (os rfl (os rfl (os rfl (os rfl oz))))))), trivial⟩ ?_
                        refine aw_region (by decide) ?_
                        refine rts _ rfl (opD_move (os rfl (os rfl (os rfl (os rfl (os rfl (os rfl (os rfl oz)))))))) ?_
                        refine rts _ rfl (opD_add lz (ev_const _ _) rfl) ?_
                        refine rts _ rfl (opD_assign lz) ?_
                        refine .nil ?_
                        obtain rfl := some_of hz_19
                        replace hz_9 := ocs_l hz_9
                        refine wk_yesN rfl (l := [(1, sl (kArr 4 (kI .u8) (0 : Int)) none none p1), (5, ptr (s.boxes.length + 0) 0), (6, sl (kI .u64) (some (s.fr.length + 0)) none (t_2.1 ++ ([(x_11.1.L.getD x_12.1.toNat (default : Tenant)).Gen] : (List Int)))), (7, pl (.int .i64 t_2.2.1)), (8, pl (.int .u64 (IntKind.u64.wrap (1 + (IntKind.u64.wrap (((x_5.getD 1 (0 : Int)).tmod 20))))))), (11, ptr (s.boxes.length + 1) 0), (12, pl (errV x_11.2)), (16, pl (.int .u64 (IntKind.u64.wrap (t_18 + 1))))]) (bs' := [⟨86, (kDir.cs t_2.2.2)⟩, ⟨86, (kDir.cs x_11.1)⟩]) ⟨le_of_eq (eg (ls rfl (ls rfl (ls rfl oz)))), le_of_eq (eg (ls rfl (ls rfl (ls rfl (os rfl oz))))), le_of_eq (eg (ls rfl (ls rfl (ls rfl (os rfl (os rfl oz)))))), le_of_eq (eg (ls rfl (ls rfl (ls rfl (os rfl (os rfl (os rfl oz))))))), le_of_eq (eg (ls rfl (ls rfl (ls rfl (os rfl (os rfl (os rfl (os rfl oz)))))))), le_of_eq (eg (ls rfl (ls rfl (ls rfl (os rfl (os rfl (os rfl (os rfl (os rfl oz))))))))), le_of_eq (eg (ls rfl (ls rfl (ls rfl (os rfl (os rfl (os rfl (os rfl (os rfl (os rfl oz)))))))))), le_of_eq (eg lz), trivial⟩ (zbc (sl_b (kb_arr (kb_I _))) (zbc (ptr_bnd _ (by first | omega | (simp only [List.length_append, List.length_cons, List.length_nil]; omega))) (zbc (sl_ob (kb_I _) (by first | omega | (simp only [List.length_append, List.length_cons, List.length_nil, ext_fr_length, upd_fr_length]; omega))) (zbc zPb (zbc zPb (zbc (ptr_bnd _ (by first | omega | (simp only [List.length_append, List.length_cons, List.length_nil]; omega))) (zbc zPb (zbc zPb bnd_nil)))))))) (zNb rfl) (by simp only [znz] <;> rfl) (bxle_same (bxle_same bxle_nil)) rfl (by simp only [znz] <;> rfl) (bl_cons (kb_Dir _ _ _) (bl_cons (kb_Dir _ _ _) bl_nil)) ?_
                        exact ⟨m_z_19, Nat.lt_succ_self _, IntKind.u64.wrap (t_18 + 1), ⟨le_of_eq (eg oz), le_of_eq (eg (os rfl oz)), le_of_eq (eg (os rfl (os rfl oz))), le_of_eq (eg (os rfl (os rfl (os rfl oz)))), le_of_eq (eg (os rfl (os rfl (os rfl (os rfl oz))))), le_of_eq (eg (os rfl (os rfl (os rfl (os rfl (os rfl oz)))))), le_of_eq (eg (os rfl (os rfl (os rfl (os rfl (os rfl (os rfl oz))))))), le_of_eq (eg (os rfl (os rfl (os rfl (os rfl (os rfl (os rfl (os rfl oz)))))))), trivial⟩, rfl, hz_9⟩
                    · skip
                      replace hz_19 := ifb_f hz_19 hc
                      clear hc
                      refine aw_exit ?_
                      obtain rfl := some_of hz_19
                      replace hz_9 := ocs_r hz_9
                      refine wk_no ?_
                      refine wk_yesN rfl (l := [(1, sl (kArr 4 (kI .u8) (0 : Int)) none none p1), (5, ptr (s.boxes.length + 0) 0), (6, sl (kI .u64) (some (s.fr.length + 0)) none (t_2.1 ++ ([(x_11.1.L.getD x_12.1.toNat (default : Tenant)).Gen] : (List Int)))), (7, pl (.int .i64 t_2.2.1)), (11, ptr (s.boxes.length + 1) 0), (12, pl (errV x_11.2))]) (bs' := [⟨86, (kDir.cs t_2.2.2)⟩, ⟨86, (kDir.cs x_11.1)⟩]) ⟨le_of_eq (eg oz), le_of_eq (eg (os rfl oz)), le_of_eq (eg (os rfl (os rfl oz))), le_of_eq (eg (os rfl (os rfl (os rfl oz)))), le_of_eq (eg (os rfl (os rfl (os rfl (os rfl (os rfl oz)))))), le_of_eq (eg (os rfl (os rfl (os rfl (os rfl (os rfl (os rfl oz))))))), trivial⟩ (zbc (sl_b (kb_arr (kb_I _))) (zbc (ptr_bnd _ (by first | omega | (simp only [List.length_append, List.length_cons, List.length_nil]; omega))) (zbc (sl_ob (kb_I _) (by first | omega | (simp only [List.length_append, List.length_cons, List.length_nil, ext_fr_length, upd_fr_length]; omega))) (zbc zPb (zbc (ptr_bnd _ (by first | omega | (simp only [List.length_append, List.length_cons, List.length_nil]; omega))) (zbc zPb bnd_nil)))))) (zNb rfl) (by simp only [znz] <;> rfl) (bxle_same (bxle_same bxle_nil)) rfl (by simp only [znz] <;> rfl) (bl_cons (kb_Dir _ _ _) (bl_cons (kb_Dir _ _ _) bl_nil)) ?_
                      exact ⟨((t_2.1 ++ ([(x_11.1.L.getD x_12.1.toNat (default : Tenant)).Gen] : (List Int))), x_11.2, x_11.1), ⟨le_of_eq (eg oz), le_of_eq (eg (os rfl oz)), le_of_eq (eg (os rfl (os rfl oz))), le_of_eq (eg (os rfl (os rfl (os rfl oz)))), le_of_eq (eg (os rfl (os rfl (os rfl (os rfl oz))))), le_of_eq (eg (os rfl (os rfl (os rfl (os rfl (os rfl oz)))))), trivial⟩, rfl, some_of hz_9⟩
            · skip
              replace hz_9 := ifb_f hz_9 hc
              clear hc
              refine aw_seq ?_
              refine aw_region (by decide) ?_
              refine rts _ rfl (opD_eql (os rfl (os rfl (os rfl (os rfl (os rfl (os rfl (os rfl (os rfl oz)))))))) (ev_const _ _)) ?_
              refine rts _ rfl (opD_assign lz) ?_
              refine .nil ?_
              refine aw_keep [(1, _), (5, _), (6, _), (7, _), (8, _), (9, _), (10, _), (11, _), (60, _), (151, _)] ⟨lg (ls rfl (ls rfl oz)), lg (ls rfl (ls rfl (os rfl oz))), lg (ls rfl (ls rfl (os rfl (os rfl oz)))), lg (ls rfl (ls rfl (os rfl (os rfl (os rfl oz))))), lg (ls rfl (ls rfl (os rfl (os rfl (os rfl (os rfl oz)))))), lg (ls rfl (ls rfl (os rfl (os rfl (os rfl (os rfl (os rfl oz))))))), lg (ls rfl (ls rfl (os rfl (os rfl (os rfl (os rfl (os rfl (os rfl oz)))))))), lg (ls rfl (ls rfl (os rfl (os rfl (os rfl (os rfl (os rfl (os rfl (os rfl oz))))))))), lg (ls rfl (ls rfl (os rfl (os rfl (os rfl (os rfl (os rfl (os rfl (os rfl (os rfl oz)))))))))), lg lz, trivial⟩ ?_
              refine aw_cond _ (os rfl (os rfl (os rfl (os rfl (os rfl (os rfl (os rfl (os rfl (os rfl oz))))))))) (fun hc => ?_) (fun hc => ?_)
              · skip
                replace hz_9 := ifb_t hz_9 hc
                clear hc
                refine aw_region (by decide) ?_
                refine rts _ rfl (opD_load_aggX ag86_W7 sz86_W7 (os rfl oz) (loc_getN rfl rfl) (by rw [kDir_len]; exact Nat.le_refl _) (kDir_full _)) ?_
                refine rts _ rfl (opD_move (ls rfl (os rfl (os rfl (os rfl (os rfl oz)))))) ?_
                replace hz_9 := bnd_some hz_9
                obtain ⟨x_21, hx_21, hz_9⟩ := hz_9
                refine rts _ rfl (opD_pure ht45_W7 (c_dDelete hx_21) ⟨le_of_eq (ls rfl lz), le_of_eq lz, trivial⟩) ?_
                refine rts _ rfl (opD_move lz) ?_
                refine rts _ rfl (opD_extract lz rfl) ?_
                refine rts _ rfl (opD_extract (ls rfl lz) rfl) ?_
                refine rts _ rfl (storeAN (cs' := kDir.cs x_21.1) rfl sz86_W7 (ls rfl (ls rfl (ls rfl (ls rfl (ls rfl (ls rfl (os rfl (os rfl (os rfl (os rfl (os rfl (os rfl (os rfl oz))))))))))))) (ls rfl lz) (fun p_ h_ => kDir.one _ p_ h_) rfl (kDir_len _) (by rw [kDir_len]; exact Nat.le_refl _) (by intro h_; have := congrArg List.length h_; rw [kDir_len] at this; cases this) (kb_Dir _ _ _) (kDir_put _ _) (by simp only [znz] <;> rfl)) ?_
                refine rts _ rfl (opD_assign (lx lz)) ?_
                refine .nil ?_
                refine wk_yesN rfl (l := [(1, sl (kArr 4 (kI .u8) (0 : Int)) none none p1), (5, ptr (s.boxes.length + 0) 0), (6, sl (kI .u64) (some (s.fr.length + 0)) none t_2.1), (7, pl (.int .i64 t_2.2.1)), (11, ptr (s.boxes.length + 1) 0), (12, pl (errV x_21.2))]) (bs' := [⟨86, (kDir.cs t_2.2.2)⟩, ⟨86, (kDir.cs x_21.1)⟩]) ⟨le_of_eq (eg (ls rfl (lx (ls rfl (ls rfl (ls rfl (ls rfl (ls rfl (ls rfl oz))))))))), le_of_eq (eg (ls rfl (lx (ls rfl (ls rfl (ls rfl (ls rfl (ls rfl (ls rfl (os rfl oz)))))))))), le_of_eq (eg (ls rfl (lx (ls rfl (ls rfl (ls rfl (ls rfl (ls rfl (ls rfl (os rfl (os rfl oz))))))))))), le_of_eq (eg (ls rfl (lx (ls rfl (ls rfl (ls rfl (ls rfl (ls rfl (ls rfl (os rfl (os rfl (os rfl oz)))))))))))), le_of_eq (eg (ls rfl (lx (ls rfl (ls rfl (ls rfl (ls rfl (ls rfl (ls rfl (os rfl (os rfl (os rfl (os rfl (os rfl (os rfl (os rfl oz)))))))))))))))), le_of_eq (eg lz), trivial⟩ (zbc (sl_b (kb_arr (kb_I _))) (zbc (ptr_bnd _ (by first | omega | (simp only [List.length_append, List.length_cons, List.length_nil]; omega))) (zbc (sl_ob (kb_I _) (by first | omega | (simp only [List.length_append, List.length_cons, List.length_nil, ext_fr_length, upd_fr_length]; omega))) (zbc zPb (zbc (ptr_bnd _ (by first | omega | (simp only [List.length_append, List.length_cons, List.length_nil]; omega))) (zbc zPb bnd_nil)))))) (zNb rfl) (by simp only [znz] <;> rfl) (bxle_same (bxle_same bxle_nil)) rfl (by simp only [znz] <;> rfl) (bl_cons (kb_Dir _ _ _) (bl_cons (kb_Dir _ _ _) bl_nil)) ?_
                exact ⟨(t_2.1, x_21.2, x_21.1), ⟨le_of_eq (eg oz), le_of_eq (eg (os rfl oz)), le_of_eq (eg (os rfl (os rfl oz))), le_of_eq (eg (os rfl (os rfl (os rfl oz)))), le_of_eq (eg (os rfl (os rfl (os rfl (os rfl oz))))), le_of_eq (eg (os rfl (os rfl (os rfl (os rfl (os rfl oz)))))), trivial⟩, rfl, some_of hz_9⟩
              · skip
                replace hz_9 := ifb_f hz_9 hc
                clear hc
                refine aw_seq ?_
                refine aw_region (by decide) ?_
                refine rts _ rfl (opD_eql (os rfl (os rfl (os rfl (os rfl (os rfl (os rfl (os rfl (os rfl oz)))))))) (ev_const _ _)) ?_
                refine rts _ rfl (opD_assign lz) ?_
                refine .nil ?_
                refine aw_keep [(1, _), (5, _), (6, _), (7, _), (8, _), (9, _), (10, _), (11, _), (159, _)] ⟨lg (ls rfl (ls rfl oz)), lg (ls rfl (ls rfl (os rfl oz))), lg (ls rfl (ls rfl (os rfl (os rfl oz)))), lg (ls rfl (ls rfl (os rfl (os rfl (os rfl oz))))), lg (ls rfl (ls rfl (os rfl (os rfl (os rfl (os rfl oz)))))), lg (ls rfl (ls rfl (os rfl (os rfl (os rfl (os rfl (os rfl oz))))))), lg (ls rfl (ls rfl (os rfl (os rfl (os rfl (os rfl (os rfl (os rfl oz)))))))), lg (ls rfl (ls rfl (os rfl (os rfl (os rfl (os rfl (os rfl (os rfl (os rfl oz))))))))), lg lz, trivial⟩ ?_
                refine aw_cond _ (os rfl (os rfl (os rfl (os rfl (os rfl (os rfl (os rfl (os rfl oz)))))))) (fun hc => ?_) (fun hc => ?_)
                · skip
                  replace hz_9 := ifb_t hz_9 hc
                  clear hc
                  refine aw_region (by decide) ?_
                  refine rts _ rfl (opD_load_aggX ag86_W7 sz86_W7 (os rfl oz) (loc_getN rfl rfl) (by rw [kDir_len]; exact Nat.le_refl _) (kDir_full _)) ?_
                  refine rts _ rfl (opD_move (ls rfl (os rfl (os rfl (os rfl (os rfl oz)))))) ?_
                  refine rts _ rfl (opD_move (ls rfl (ls rfl (os rfl (os rfl (os rfl (os rfl (os rfl (os rfl oz))))))))) ?_
                  replace hz_9 := bnd_some hz_9
                  obtain ⟨x_22, hx_22, hz_9⟩ := hz_9
                  refine rts _ rfl (opD_pure ht46_W7 (c_dGrow hx_22) ⟨le_of_eq (ls rfl (ls rfl lz)), le_of_eq (ls rfl lz), le_of_eq lz, trivial⟩) ?_
                  refine rts _ rfl (opD_move lz) ?_
                  refine rts _ rfl (opD_extract lz rfl) ?_
                  refine rts _ rfl (opD_extract (ls rfl lz) rfl) ?_
                  refine rts _ rfl (storeAN (cs' := kDir.cs x_22.1) rfl sz86_W7 (ls rfl (ls rfl (ls rfl (ls rfl (ls rfl (ls rfl (ls rfl (os rfl (os rfl (os rfl (os rfl (os rfl (os rfl (os rfl oz)))))))))))))) (ls rfl lz) (fun p_ h_ => kDir.one _ p_ h_) rfl (kDir_len _) (by rw [kDir_len]; exact Nat.le_refl _) (by intro h_; have := congrArg List.length h_; rw [kDir_len] at this; cases this) (kb_Dir _ _ _) (kDir_put _ _) (by simp only [znz] <;> rfl)) ?_
                  refine rts _ rfl (opD_assign (lx lz)) ?_
                  refine .nil ?_
                  refine wk_yesN rfl (l := [(1, sl (kArr 4 (kI .u8) (0 : Int)) none none p1), (5, ptr (s.boxes.length + 0) 0), (6, sl (kI .u64) (some (s.fr.length + 0)) none t_2.1), (7, pl (.int .i64 t_2.2.1)), (11, ptr (s.boxes.length + 1) 0), (12, pl (errV x_22.2))]) (bs' := [⟨86, (kDir.cs t_2.2.2)⟩, ⟨86, (kDir.cs x_22.1)⟩]) ⟨le_of_eq (eg (ls rfl (lx (ls rfl (ls rfl (ls rfl (ls rfl (ls rfl (ls rfl (ls rfl oz)))))))))), le_of_eq (eg (ls rfl (lx (ls rfl (ls rfl (ls rfl (ls rfl (ls rfl (ls rfl (ls rfl (os rfl oz))))))))))), le_of_eq (eg (ls rfl (lx (ls rfl (ls rfl (ls rfl (ls rfl (ls rfl (ls rfl (ls rfl (os rfl (os rfl oz)))))))))))), le_of_eq (eg (ls rfl (lx (ls rfl (ls rfl (ls rfl (ls rfl (ls rfl (ls rfl (ls rfl (os rfl (os rfl (os rfl oz))))))))))))), le_of_eq (eg (ls rfl (lx (ls rfl (ls rfl (ls rfl (ls rfl (ls rfl (ls rfl (ls rfl (os rfl (os rfl (os rfl (os rfl (os rfl (os rfl (os rfl oz))))))))))))))))), le_of_eq (eg lz), trivial⟩ (zbc (sl_b (kb_arr (kb_I _))) (zbc (ptr_bnd _ (by first | omega | (simp only [List.length_append, List.length_cons, List.length_nil]; omega))) (zbc (sl_ob (kb_I _) (by first | omega | (simp only [List.length_append, List.length_cons, List.length_nil, ext_fr_length, upd_fr_length]; omega))) (zbc zPb (zbc (ptr_bnd _ (by first | omega | (simp only [List.length_append, List.length_cons, List.length_nil]; omega))) (zbc zPb bnd_nil)))))) (zNb rfl) (by simp only [znz] <;> rfl) (bxle_same (bxle_same bxle_nil)) rfl (by simp only [znz] <;> rfl) (bl_cons (kb_Dir _ _ _) (bl_cons (kb_Dir _ _ _) bl_nil)) ?_
                  exact ⟨(t_2.1, x_22.2, x_22.1), ⟨le_of_eq (eg oz), le_of_eq (eg (os rfl oz)), le_of_eq (eg (os rfl (os rfl oz))), le_of_eq (eg (os rfl (os rfl (os rfl oz)))), le_of_eq (eg (os rfl (os rfl (os rfl (os rfl oz))))), le_of_eq (eg (os rfl (os rfl (os rfl (os rfl (os rfl oz)))))), trivial⟩, rfl, some_of hz_9⟩
                · skip
                  replace hz_9 := ifb_f hz_9 hc
                  clear hc
                  refine aw_seq ?_
                  refine aw_region (by decide) ?_
                  refine rts _ rfl (opD_load_aggX ag86_W7 sz86_W7 (os rfl oz) (loc_getN rfl rfl) (by rw [kDir_len]; exact Nat.le_refl _) (kDir_full _)) ?_
                  refine rts _ rfl (opD_move (ls rfl (os rfl (os rfl (os rfl (os rfl oz)))))) ?_
                  refine rts _ rfl (opD_move (ls rfl (ls rfl (os rfl (os rfl (os rfl (os rfl (os rfl oz)))))))) ?_
                  refine rts _ rfl (opD_move (ls rfl (ls rfl (ls rfl (os rfl (os rfl (os rfl (os rfl (os rfl (os rfl oz)))))))))) ?_
                  refine rts _ rfl (opD_rem lz (ev_const _ _) (by decide) rfl) ?_
                  refine rts _ rfl (opD_gtr lz (ev_const _ _)) ?_
                  replace hz_9 := bnd_some hz_9
                  obtain ⟨x_23, hx_23, hz_9⟩ := hz_9
                  refine rts _ rfl (opD_pure ht47_W7 (c_dLink hx_23) ⟨le_of_eq (ls rfl (ls rfl (ls rfl (ls rfl (ls rfl lz))))), le_of_eq (ls rfl (ls rfl (ls rfl (ls rfl lz)))), le_of_eq (ls rfl (ls rfl (ls rfl lz))), le_of_eq lz, trivial⟩) ?_
                  refine rts _ rfl (opD_move lz) ?_
                  refine rts _ rfl (opD_extract lz rfl) ?_
                  refine rts _ rfl (opD_extract (ls rfl lz) rfl) ?_
                  refine rts _ rfl (storeAN (cs' := kDir.cs x_23.1) rfl sz86_W7 (ls rfl (ls rfl (ls rfl (ls rfl (ls rfl (ls rfl (ls rfl (ls rfl (ls rfl (ls rfl (os rfl (os rfl (os rfl (os rfl (os rfl (os rfl (os rfl oz))))))))))))))))) (ls rfl lz) (fun p_ h_ => kDir.one _ p_ h_) rfl (kDir_len _) (by rw [kDir_len]; exact Nat.le_refl _) (by intro h_; have := congrArg List.length h_; rw [kDir_len] at this; cases this) (kb_Dir _ _ _) (kDir_put _ _) (by simp only [znz] <;> rfl)) ?_
                  refine rts _ rfl (opD_assign (lx lz)) ?_
                  refine .nil ?_
                  refine aw_keep [(1, _), (5, _), (6, _), (7, _), (8, _), (9, _), (10, _), (11, _), (12, _)] ⟨lg (ls rfl (lx (ls rfl (ls rfl (ls rfl (ls rfl (ls rfl (ls rfl (ls rfl (ls rfl (ls rfl (ls rfl oz)))))))))))), lg (ls rfl (lx (ls rfl (ls rfl (ls rfl (ls rfl (ls rfl (ls rfl (ls rfl (ls rfl (ls rfl (ls rfl (os rfl oz))))))))))))), lg (ls rfl (lx (ls rfl (ls rfl (ls rfl (ls rfl (ls rfl (ls rfl (ls rfl (ls rfl (ls rfl (ls rfl (os rfl (os rfl oz)))))))))))))), lg (ls rfl (lx (ls rfl (ls rfl (ls rfl (ls rfl (ls rfl (ls rfl (ls rfl (ls rfl (ls rfl (ls rfl (os rfl (os rfl (os rfl oz))))))))))))))), lg (ls rfl (lx (ls rfl (ls rfl (ls rfl (ls rfl (ls rfl (ls rfl (ls rfl (ls rfl (ls rfl (ls rfl (os rfl (os rfl (os rfl (os rfl oz)))))))))))))))), lg (ls rfl (lx (ls rfl (ls rfl (ls rfl (ls rfl (ls rfl (ls rfl (ls rfl (ls rfl (ls rfl (ls rfl (os rfl (os rfl (os rfl (os rfl (os rfl oz))))))))))))))))), lg (ls rfl (lx (ls rfl (ls rfl (ls rfl (ls rfl (ls rfl (ls rfl (ls rfl (ls rfl (ls rfl (ls rfl (os rfl (os rfl (os rfl (os rfl (os rfl (os rfl oz)))))))))))))))))), lg (ls rfl (lx (ls rfl (ls rfl (ls rfl (ls rfl (ls rfl (ls rfl (ls rfl (ls rfl (ls rfl (ls rfl (os rfl (os rfl (os rfl (os rfl (os rfl (os rfl (os rfl oz))))))))))))))))))), lg lz, trivial⟩ ?_
                  refine aw_seq ?_
                  refine aw_region (by decide) ?_
                  refine rts _ rfl (opD_move (os rfl (os rfl (os rfl (os rfl (os rfl (os rfl (os rfl (os rfl oz))))))))) ?_
                  refine rts _ rfl (opD_bin lz (ev_const _ _) (fun w => errV_geql _ w _) (fun w => errV_eql _ w)) ?_
                  refine rts _ rfl (opD_move lz) ?_
                  refine rtg _ rfl lz (fun hg10_3_1109 => opD_load_aggX ag86_W7 sz86_W7 (ls rfl (ls rfl (ls rfl (os rfl (os rfl (os rfl (os rfl (os rfl (os rfl (os rfl oz)))))))))) (loc_getN rfl rfl) (by rw [kDir_len]; exact Nat.le_refl _) (kDir_full _)) ?_
                  refine rtg _ rfl (ls rfl lz) (fun hg10_4_1110 => opD_move (ls rfl (ls rfl (ls rfl (ls rfl (os rfl (os rfl (os rfl (os rfl oz))))))))) ?_
                  refine rtg _ rfl (ls rfl (ls rfl lz)) (fun hg10_5_1111 => opD_move (ls rfl (ls rfl (ls rfl (ls rfl (ls rfl (os rfl (os rfl (os rfl (os rfl (os rfl oz))))))))))) ?_
                  replace hz_9 := bnd_some hz_9
                  obtain ⟨x_24, hx_24, hz_9⟩ := hz_9
                  refine rtg _ rfl (ls rfl (ls rfl (ls rfl lz))) (fun hg10_6_1112 => opD_pure ht44_W7 (c_dSees (gif_some hx_24 hg10_6_1112)) ⟨le_of_eq ((ls rfl (ls rfl lz)).trans (pif_pos hg10_6_1112)), le_of_eq ((ls rfl lz).trans (pif_pos hg10_6_1112)), le_of_eq (lz.trans (pif_pos hg10_6_1112)), trivial⟩) ?_
                  refine rtg _ rfl (ls rfl (ls rfl (ls rfl (ls rfl lz)))) (fun hg10_7_1113 => opD_move (ls rfl (ls rfl (ls rfl (ls rfl (ls rfl (ls rfl (ls rfl (os rfl (os rfl (os rfl (os rfl (os rfl (os rfl oz)))))))))))))) ?_
                  refine rtg _ rfl (ls rfl (ls rfl (ls rfl (ls rfl (ls rfl lz))))) (fun hg10_8_1114 => opD_rem (lz.trans (pif_pos hg10_8_1114)) (ev_const _ _) (by decide) rfl) ?_
                  refine rtg _ rfl (ls rfl (ls rfl (ls rfl (ls rfl (ls rfl (ls rfl lz)))))) (fun hg10_9_1115 => opD_gtr (lz.trans (pif_pos hg10_9_1115)) (ev_const _ _)) ?_
                  refine rtg _ rfl (ls rfl (ls rfl (ls rfl (ls rfl (ls rfl (ls rfl (ls rfl lz))))))) (fun hg10_10_1116 => opD_bneq Tryd.underlying4 ((ls rfl (ls rfl (ls rfl lz))).trans (pif_pos hg10_10_1116)) (lz.trans (pif_pos hg10_10_1116))) ?_
                  refine rts _ rfl (opD_and (ls rfl (ls rfl (ls rfl (ls rfl (ls rfl (ls rfl (ls rfl (ls rfl lz)))))))) lz) ?_
                  refine .nil ?_
                  refine aw_keep [(1, _), (5, _), (6, _), (7, _), (11, _), (12, _), (82, _)] ⟨lg (ls rfl (ls rfl (ls rfl (ls rfl (ls rfl (ls rfl (ls rfl (ls rfl (ls rfl (ls rfl (ls rfl (ls rfl oz)))))))))))), lg (ls rfl (ls rfl (ls rfl (ls rfl (ls rfl (ls rfl (ls rfl (ls rfl (ls rfl (ls rfl (ls rfl (ls rfl (os rfl oz))))))))))))), lg (ls rfl (ls rfl (ls rfl (ls rfl (ls rfl (ls rfl (ls rfl (ls rfl (ls rfl (ls rfl (ls rfl (ls rfl (os rfl (os rfl oz)))))))))))))), lg (ls rfl (ls rfl (ls rfl (ls rfl (ls rfl (ls rfl (ls rfl (ls rfl (ls rfl (ls rfl (ls rfl (ls rfl (os rfl (os rfl (os rfl oz))))))))))))))), lg (ls rfl (ls rfl (ls rfl (ls rfl (ls rfl (ls rfl (ls rfl (ls rfl (ls rfl (ls rfl (ls rfl (ls rfl (os rfl (os rfl (os rfl (os rfl (os rfl (os rfl (os rfl oz))))))))))))))))))), lg (ls rfl (ls rfl (ls rfl (ls rfl (ls rfl (ls rfl (ls rfl (ls rfl (ls rfl (ls rfl (ls rfl (ls rfl (os rfl (os rfl (os rfl (os rfl (os rfl (os rfl (os rfl (os rfl oz)))))))))))))))))))), lg lz, trivial⟩ ?_
                  refine aw_cond _ (os rfl (os rfl (os rfl (os rfl (os rfl (os rfl oz)))))) (fun hc => ?_) (fun hc => ?_)
                  · skip
                    replace hz_9 := ifb_t hz_9 hc
                    clear hc
                    refine aw_seq ?_
                    refine aw_region (by decide) ?_
                    refine rts _ rfl (opD_assign (ev_const _ _)) ?_
                    refine .nil ?_
                    refine aw_keep [(4, _)] ⟨lg lz, trivial⟩ ?_
                    refine aw_ret ?_
                    obtain rfl := some_of hz_9
                    replace hz_4 := ocs_l hz_4
                    obtain rfl := some_of hz_4
                    replace hz_3 := ocs_l hz_3
                    obtain rfl := some_of hz_3
                    replace hz_1 := ocs_r hz_1
                    obtain rfl := some_of hz_1
                    replace h0 := ocs_l h0
                    refine wk_no ?_
                    refine wk_no ?_
                    refine wk_no ?_
                    refine wk_no ?_
                    obtain rfl := some_of h0
                    exact done_ext (.inr rfl) ((res_one rfl (it_tmp oz)).le zLr) zPb
                  · skip
                    replace hz_9 := ifb_f hz_9 hc
                    clear hc
                    refine aw_skip ?_
                    refine wk_yesN rfl (l := [(1, sl (kArr 4 (kI .u8) (0 : Int)) none none p1), (5, ptr (s.boxes.length + 0) 0), (6, sl (kI .u64) (some (s.fr.length + 0)) none t_2.1), (7, pl (.int .i64 t_2.2.1)), (11, ptr (s.boxes.length + 1) 0), (12, pl (errV x_23.2))]) (bs' := [⟨86, (kDir.cs t_2.2.2)⟩, ⟨86, (kDir.cs x_23.1)⟩]) ⟨le_of_eq (eg oz), le_of_eq (eg (os rfl oz)), le_of_eq (eg (os rfl (os rfl oz))), le_of_eq (eg (os rfl (os rfl (os rfl oz)))), le_of_eq (eg (os rfl (os rfl (os rfl (os rfl oz))))), le_of_eq (eg (os rfl (os rfl (os rfl (os rfl (os rfl oz)))))), trivial⟩ (zbc (sl_b (kb_arr (kb_I _))) (zbc (ptr_bnd _ (by first | omega | (simp only [List.length_append, List.length_cons, List.length_nil]; omega))) (zbc (sl_ob (kb_I _) (by first | omega | (simp only [List.length_append, List.length_cons, List.length_nil, ext_fr_length, upd_fr_length]; omega))) (zbc zPb (zbc (ptr_bnd _ (by first | omega | (simp only [List.length_append, List.length_cons, List.length_nil]; omega))) (zbc zPb bnd_nil)))))) (zNb rfl) (by simp only [znz] <;> rfl) (bxle_same (bxle_same bxle_nil)) rfl (by simp only [znz] <;> rfl) (bl_cons (kb_Dir _ _ _) (bl_cons (kb_Dir _ _ _) bl_nil)) ?_
                    exact ⟨(t_2.1, x_23.2, x_23.1), ⟨le_of_eq (eg oz), le_of_eq (eg (os rfl oz)), le_of_eq (eg (os rfl (os rfl oz))), le_of_eq (eg (os rfl (os rfl (os rfl oz)))), le_of_eq (eg (os rfl (os rfl (os rfl (os rfl oz))))), le_of_eq (eg (os rfl (os rfl (os rfl (os rfl (os rfl oz)))))), trivial⟩, rfl, some_of hz_9⟩
        · rintro e st ⟨vz_9, hH, rfl, rfl⟩
          refine aw_keep _ hH ?_
          replace hz_4 := ocs_r hz_4
          refine aw_keep [(1, _), (5, _), (6, _), (7, _), (11, _), (12, _)] ⟨lg oz, lg (os rfl oz), lg (os rfl (os rfl oz)), lg (os rfl (os rfl (os rfl oz))), lg (os rfl (os rfl (os rfl (os rfl oz)))), lg (os rfl (os rfl (os rfl (os rfl (os rfl oz))))), trivial⟩ ?_
          refine aw_seq ?_
          refine aw_seq ?_
          refine aw_region (by decide) ?_
          refine rts _ rfl (opD_move (os rfl (os rfl (os rfl (os rfl (os rfl oz)))))) ?_
          refine rts _ rfl (opD_bin lz (ev_const _ _) (fun w => errV_guard _ w _) (fun w => errV_beq _ w)) ?_
          refine .nil ?_
          refine aw_keep [(1, _), (5, _), (6, _), (7, _), (11, _), (169, _)] ⟨lg (ls rfl (ls rfl oz)), lg (ls rfl (ls rfl (os rfl oz))), lg (ls rfl (ls rfl (os rfl (os rfl oz)))), lg (ls rfl (ls rfl (os rfl (os rfl (os rfl oz))))), lg (ls rfl (ls rfl (os rfl (os rfl (os rfl (os rfl oz)))))), lg lz, trivial⟩ ?_
          refine aw_cond _ (os rfl (os rfl (os rfl (os rfl (os rfl oz))))) (fun hc => ?_) (fun hc => ?_)
          · skip
            replace hz_4 := ifb_t hz_4 hc
            clear hc
            refine aw_exit ?_
            refine wk_yesN rfl (l := [(1, sl (kArr 4 (kI .u8) (0 : Int)) none none p1), (5, ptr (s.boxes.length + 0) 0), (6, sl (kI .u64) (some (s.fr.length + 0)) none vz_9.1), (7, pl (.int .i64 t_2.2.1))]) (bs' := [⟨86, (kDir.cs t_2.2.2)⟩]) ⟨le_of_eq (eg oz), le_of_eq (eg (os rfl oz)), le_of_eq (eg (os rfl (os rfl oz))), le_of_eq (eg (os rfl (os rfl (os rfl oz)))), trivial⟩ (zbc (sl_b (kb_arr (kb_I _))) (zbc (ptr_bnd _ (by first | omega | (simp only [List.length_append, List.length_cons, List.length_nil]; omega))) (zbc (sl_ob (kb_I _) (by first | omega | (simp only [List.length_append, List.length_cons, List.length_nil, ext_fr_length, upd_fr_length]; omega))) (zbc zPb bnd_nil)))) (zNb rfl) (by simp only [znz] <;> rfl) (bxle_same bxle_nil) rfl (by simp only [znz] <;> rfl) (bl_cons (kb_Dir _ _ _) bl_nil) ?_
            exact ⟨(vz_9.1, t_2.2.2), ⟨le_of_eq (eg oz), le_of_eq (eg (os rfl oz)), le_of_eq (eg (os rfl (os rfl oz))), le_of_eq (eg (os rfl (os rfl (os rfl oz)))), trivial⟩, rfl, some_of hz_4⟩
          · skip
            replace hz_4 := ifb_f hz_4 hc
            clear hc
            refine aw_skip ?_
            refine aw_keep [(1, _), (5, _), (6, _), (7, _), (11, _)] ⟨lg oz, lg (os rfl oz), lg (os rfl (os rfl oz)), lg (os rfl (os rfl (os rfl oz))), lg (os rfl (os rfl (os rfl (os rfl oz)))), trivial⟩ ?_
            refine aw_seq ?_
            refine aw_seq ?_
            refine aw_flat mixed_W7 (by decide +kernel) ?_
            refine zts _ rfl (opD_load_aggX ag86_W7 sz86_W7 (os rfl (os rfl (os rfl (os rfl oz)))) (loc_getN rfl rfl) (by rw [kDir_len]; exact Nat.le_refl _) (kDir_full _)) ?_
            replace hz_4 := bnd_some hz_4
            obtain ⟨x_25, hx_25, hz_4⟩ := hz_4
            refine zts _ rfl (opD_pure ht48_W7 (c_dCheck hx_25) ⟨le_of_eq lz, trivial⟩) ?_
            refine zts _ rfl (opD_bin lz (ev_const _ _) (fun w => errV_guard _ w _) (fun w => errV_beq _ w)) ?_
            refine zts _ rfl (opD_move lz) ?_
            refine ztg _ rfl lz (fun hg36_4_1129 => opD_fieldAddr fo86_0_W7 (ls rfl (ls rfl (ls rfl (ls rfl (os rfl (os rfl (os rfl (os rfl oz))))))))) ?_
            refine ztg _ rfl (ls rfl lz) (fun hg36_5_1130 => opD_load_one ag56_W7 (lz.trans (pif_pos hg36_5_1130)) (loc_getN rfl rfl) rfl) ?_
            refine ztg _ rfl (ls rfl (ls rfl lz)) (fun hg36_6_1131 => opD_fieldAddr fo86_0_W7 (ls rfl (ls rfl (ls rfl (ls rfl (ls rfl (ls rfl (os rfl oz)))))))) ?_
            refine ztg _ rfl (ls rfl (ls rfl (ls rfl lz))) (fun hg36_7_1132 => opD_load_one ag56_W7 (lz.trans (pif_pos hg36_7_1132)) (loc_getN rfl rfl) rfl) ?_
            refine ztg _ rfl (ls rfl (ls rfl (ls rfl (ls rfl lz)))) (fun hg36_8_1133 => opD_add (lz.trans (pif_pos hg36_8_1133)) (ev_const _ _) rfl) ?_
            refine ztg _ rfl (ls rfl (ls rfl (ls rfl (ls rfl (ls rfl lz))))) (fun hg36_9_1134 => opD_neq ((ls rfl (ls rfl (ls rfl lz))).trans (pif_pos hg36_9_1134)) (lz.trans (pif_pos hg36_9_1134))) ?_
            refine zts _ rfl (opD_or (ls rfl (ls rfl (ls rfl (ls rfl (ls rfl (ls rfl lz)))))) lz) ?_
            refine zts _ rfl (opD_move lz) ?_
            refine ztg _ rfl lz (fun hg36_12_1135 => opD_load_aggX ag86_W7 sz86_W7 (ls rfl (ls rfl (ls rfl (ls rfl (ls rfl (ls rfl (ls rfl (ls rfl (ls rfl (ls rfl (ls rfl (ls rfl (os rfl (os rfl (os rfl (os rfl oz)))))))))))))))) (loc_getN rfl rfl) (by rw [kDir_len]; exact Nat.le_refl _) (kDir_full _)) ?_
            replace hz_4 := bnd_some hz_4
            obtain ⟨x_26, hx_26, hz_4⟩ := hz_4
            refine ztg _ rfl (ls rfl lz) (fun hg36_13_1136 => opD_pure ht50_W7 (c_dTaken (gif_some hx_26 hg36_13_1136)) ⟨le_of_eq (lz.trans (pif_pos hg36_13_1136)), trivial⟩) ?_
            refine ztg _ rfl (ls rfl (ls rfl lz)) (fun hg36_14_1137 => opD_fieldAddr fo86_2_W7 (ls rfl (ls rfl (ls rfl (ls rfl (ls rfl (ls rfl (ls rfl (ls rfl (ls rfl (ls rfl (ls rfl (ls rfl (ls rfl (ls rfl (os rfl oz)))))))))))))))) ?_
            refine ztg _ rfl (ls rfl (ls rfl (ls rfl lz))) (fun hg36_15_1138 => opD_load_one ag3_W7 (lz.trans (pif_pos hg36_15_1138)) (loc_getN rfl rfl) rfl) ?_
            replace hz_4 := bnd_some hz_4
            obtain ⟨x_27, hx_27, hz_4⟩ := hz_4
            refine ztg _ rfl (ls rfl (ls rfl (ls rfl (ls rfl lz)))) (fun hg36_16_1139 => opD_pure ht49_W7 (c_xcheck (gif_some hx_27 hg36_16_1139)) ⟨le_of_eq ((ls rfl (ls rfl lz)).trans (pif_pos hg36_16_1139)), le_of_eq (lz.trans (pif_pos hg36_16_1139)), trivial⟩) ?_
            refine ztg _ rfl (ls rfl (ls rfl (ls rfl (ls rfl (ls rfl lz))))) (fun hg36_17_1140 => opD_bin (lz.trans (pif_pos hg36_17_1140)) (ev_const _ _) (fun w => errV_guard _ w _) (fun w => errV_beq _ w)) ?_
            refine zts _ rfl (opD_or (ls rfl (ls rfl (ls rfl (ls rfl (ls rfl (ls rfl lz)))))) lz) ?_
            refine .nil ?_
            refine aw_keep [(1, _), (5, _), (6, _), (7, _), (11, _), (188, _)] ⟨lg (ls rfl (ls rfl (ls rfl (ls rfl (ls rfl (ls rfl (ls rfl (ls rfl (ls rfl (ls rfl (ls rfl (ls rfl (ls rfl (ls rfl (ls rfl (ls rfl (ls rfl (ls rfl (ls rfl oz))))))))))))))))))), lg (ls rfl (ls rfl (ls rfl (ls rfl (ls rfl (ls rfl (ls rfl (ls rfl (ls rfl (ls rfl (ls rfl (ls rfl (ls rfl (ls rfl (ls rfl (ls rfl (ls rfl (ls rfl (ls rfl (os rfl oz)))))))))))))))))))), lg (ls rfl (ls rfl (ls rfl (ls rfl (ls rfl (ls rfl (ls rfl (ls rfl (ls rfl (ls rfl (ls rfl (ls rfl (ls rfl (ls rfl (ls rfl (ls rfl (ls rfl (ls rfl (ls rfl (os rfl (os rfl oz))))))))))))))))))))), lg (ls rfl (ls rfl (ls rfl (ls rfl (ls rfl (ls rfl (ls rfl (ls rfl (ls rfl (ls rfl (ls rfl (ls rfl (ls rfl (ls rfl (ls rfl (ls rfl (ls rfl (ls rfl (ls rfl (os rfl (os rfl (os rfl oz)))))))))))))))))))))), lg (ls rfl (ls rfl (ls rfl (ls rfl (ls rfl (ls rfl (ls rfl (ls rfl (ls rfl (ls rfl (ls rfl (ls rfl (ls rfl (ls rfl (ls rfl (ls rfl (ls rfl (ls rfl (ls rfl (os rfl (os rfl (os rfl (os rfl oz))))))))))))))))))))))), lg lz, trivial⟩ ?_
            refine aw_cond _ (os rfl (os rfl (os rfl (os rfl (os rfl oz))))) (fun hc => ?_) (fun hc => ?_)
            · skip
              replace hz_4 := ifb_t hz_4 hc
              clear hc
              refine aw_seq ?_
              refine aw_region (by decide) ?_
              refine rts _ rfl (opD_assign (ev_const _ _)) ?_
              refine .nil ?_
              refine aw_keep [(4, _)] ⟨lg lz, trivial⟩ ?_
              refine aw_ret ?_
              obtain rfl := some_of hz_4
              replace hz_3 := ocs_l hz_3
              obtain rfl := some_of hz_3
              replace hz_1 := ocs_r hz_1
              obtain rfl := some_of hz_1
              replace h0 := ocs_l h0
              refine wk_no ?_
              refine wk_no ?_
              refine wk_no ?_
              obtain rfl := some_of h0
              exact done_ext (.inr rfl) ((res_one rfl (it_tmp oz)).le zLr) zPb
            · skip
              replace hz_4 := ifb_f hz_4 hc
              clear hc
              refine aw_skip ?_
              refine aw_keep [(1, _), (5, _), (6, _), (7, _), (11, _)] ⟨lg oz, lg (os rfl oz), lg (os rfl (os rfl oz)), lg (os rfl (os rfl (os rfl oz))), lg (os rfl (os rfl (os rfl (os rfl oz)))), trivial⟩ ?_
              refine aw_region (by decide) ?_
              refine rts _ rfl (opD_load_aggX ag86_W7 sz86_W7 (os rfl (os rfl (os rfl (os rfl oz)))) (loc_getN rfl rfl) (by rw [kDir_len]; exact Nat.le_refl _) (kDir_full _)) ?_
              refine rts _ rfl (storeAN (cs' := kDir.cs vz_9.2.2) rfl sz86_W7 (ls rfl (os rfl oz)) lz (fun p_ h_ => kDir.one _ p_ h_) rfl (kDir_len _) (by rw [kDir_len]; exact Nat.le_refl _) (by intro h_; have := congrArg List.length h_; rw [kDir_len] at this; cases this) (kb_Dir _ _ _) (kDir_put _ _) (by simp only [znz] <;> rfl)) ?_
              refine .nil ?_
              refine wk_yesN rfl (l := [(1, sl (kArr 4 (kI .u8) (0 : Int)) none none p1), (5, ptr (s.boxes.length + 0) 0), (6, sl (kI .u64) (some (s.fr.length + 0)) none vz_9.1), (7, pl (.int .i64 t_2.2.1))]) (bs' := [⟨86, (kDir.cs vz_9.2.2)⟩]) ⟨le_of_eq (eg (lx (ls rfl oz))), le_of_eq (eg (lx (ls rfl (os rfl oz)))), le_of_eq (eg (lx (ls rfl (os rfl (os rfl oz))))), le_of_eq (eg (lx (ls rfl (os rfl (os rfl (os rfl oz)))))), trivial⟩ (zbc (sl_b (kb_arr (kb_I _))) (zbc (ptr_bnd _ (by first | omega | (simp only [List.length_append, List.length_cons, List.length_nil]; omega))) (zbc (sl_ob (kb_I _) (by first | omega | (simp only [List.length_append, List.length_cons, List.length_nil, ext_fr_length, upd_fr_length]; omega))) (zbc zPb bnd_nil)))) (zNb rfl) (by simp only [znz] <;> rfl) (bxle_same bxle_nil) rfl (by simp only [znz] <;> rfl) (bl_cons (kb_Dir _ _ _) bl_nil) ?_
              exact ⟨(vz_9.1, vz_9.2.2), ⟨le_of_eq (eg oz), le_of_eq (eg (os rfl oz)), le_of_eq (eg (os rfl (os rfl oz))), le_of_eq (eg (os rfl (os rfl (os rfl oz)))), trivial⟩, rfl, some_of hz_4⟩
      · rintro e st ⟨vz_4, hH, rfl, rfl⟩
        refine aw_keep _ hH ?_
        replace hz_3 := ocs_r hz_3
        refine aw_keep [(1, _), (5, _), (6, _), (7, _)] ⟨lg oz, lg (os rfl oz), lg (os rfl (os rfl oz)), lg (os rfl (os rfl (os rfl oz))), trivial⟩ ?_
        refine aw_region (by decide) ?_
        refine rts _ rfl (opD_move (os rfl (os rfl (os rfl oz)))) ?_
        refine rts _ rfl (opD_add lz (ev_const _ _) rfl) ?_
        refine rts _ rfl (opD_assign lz) ?_
        refine .nil ?_
        obtain rfl := some_of hz_3
        replace hz_1 := ocs_l hz_1
        refine wk_yesN rfl (l := [(1, sl (kArr 4 (kI .u8) (0 : Int)) none none p1), (5, ptr (s.boxes.length + 0) 0), (6, sl (kI .u64) (some (s.fr.length + 0)) none vz_4.1), (7, pl (.int .i64 (IntKind.i64.wrap (t_2.2.1 + 1))))]) (bs' := [⟨86, (kDir.cs vz_4.2)⟩]) ⟨le_of_eq (eg (ls rfl (ls rfl (ls rfl oz)))), le_of_eq (eg (ls rfl (ls rfl (ls rfl (os rfl oz))))), le_of_eq (eg (ls rfl (ls rfl (ls rfl (os rfl (os rfl oz)))))), le_of_eq (eg lz), trivial⟩ (zbc (sl_b (kb_arr (kb_I _))) (zbc (ptr_bnd _ (by first | omega | (simp only [List.length_append, List.length_cons, List.length_nil]; omega))) (zbc (sl_ob (kb_I _) (by first | omega | (simp only [List.length_append, List.length_cons, List.length_nil, ext_fr_length, upd_fr_length]; omega))) (zbc zPb bnd_nil)))) (zNb rfl) (by simp only [znz] <;> rfl) (bxle_same bxle_nil) rfl (by simp only [znz] <;> rfl) (bl_cons (kb_Dir _ _ _) bl_nil) ?_
        exact ⟨m_z_3, Nat.lt_succ_self _, (vz_4.1, IntKind.i64.wrap (t_2.2.1 + 1), vz_4.2), ⟨le_of_eq (eg oz), le_of_eq (eg (os rfl oz)), le_of_eq (eg (os rfl (os rfl oz))), le_of_eq (eg (os rfl (os rfl (os rfl oz)))), trivial⟩, rfl, hz_1⟩
    · skip
      replace hz_3 := ifb_f hz_3 hc
      clear hc
      refine aw_exit ?_
      obtain rfl := some_of hz_3
      replace hz_1 := ocs_r hz_1
      refine wk_no ?_
      refine wk_yesN rfl (l := []) (bs' := [⟨86, (kDir.cs t_2.2.2)⟩]) trivial bnd_nil (zNb rfl) (by simp only [znz] <;> rfl) (bxle_same bxle_nil) rfl (by simp only [znz] <;> rfl) (bl_cons (kb_Dir _ _ _) bl_nil) ?_
      exact ⟨t_2.2.2, trivial, rfl, some_of hz_1⟩
  · rintro e st ⟨vz_1, hH, rfl, rfl⟩
    refine aw_keep _ hH ?_
    replace h0 := ocs_r h0
    refine aw_keep [] trivial ?_
    refine aw_seq ?_
    refine aw_region (by decide) ?_
    replace h0 := bnd_some h0
    obtain ⟨x_28, hx_28, h0⟩ := h0
    refine rts _ rfl (opD_call ht51_W7 (c_l32sure hx_28 hst) trivial) ?_
    refine rts _ rfl (opD_assign lz) ?_
    refine .nil ?_
    refine aw_keep [(4, _)] ⟨lg lz, trivial⟩ ?_
    refine aw_ret ?_
    obtain rfl := some_of h0
    exact done_ext (.inr rfl) ((res_one rfl (it_tmp oz)).le zLr) zPb

def F_l32DirBack_b0 (fl : Nat) (x_1 : (Dir)) (x_9 : (Dir × (Option Int))) (t_16 : Int) : Option ((Int) ⊕ ((Bool) ⊕ (Unit))) :=
  ifb (decide (t_16 < 16)) (grd (Below t_16 16) <| grd (Below t_16 16) <| grd (((decide (((x_9.1.L.getD t_16.toNat (default : Tenant)).ID) ≠ ((x_1.L.getD t_16.toNat (default : Tenant)).ID))) == false) = true → Below t_16 16) <| grd (((decide (((x_9.1.L.getD t_16.toNat (default : Tenant)).ID) ≠ ((x_1.L.getD t_16.toNat (default : Tenant)).ID))) == false) = true → Below t_16 16) <| grd ((((decide (((x_9.1.L.getD t_16.toNat (default : Tenant)).ID) ≠ ((x_1.L.getD t_16.toNat (default : Tenant)).ID))) || (decide (((x_9.1.L.getD t_16.toNat (default : Tenant)).Gen) ≠ ((x_1.L.getD t_16.toNat (default : Tenant)).Gen)))) == false) = true → Below t_16 16) <| bnd (gif (((decide (((x_9.1.L.getD t_16.toNat (default : Tenant)).ID) ≠ ((x_1.L.getD t_16.toNat (default : Tenant)).ID))) || (decide (((x_9.1.L.getD t_16.toNat (default : Tenant)).Gen) ≠ ((x_1.L.getD t_16.toNat (default : Tenant)).Gen)))) == false) (F_xMany fl ((x_9.1.L.getD t_16.toNat (default : Tenant)).Ext))) fun x_18 => grd ((((decide (((x_9.1.L.getD t_16.toNat (default : Tenant)).ID) ≠ ((x_1.L.getD t_16.toNat (default : Tenant)).ID))) || (decide (((x_9.1.L.getD t_16.toNat (default : Tenant)).Gen) ≠ ((x_1.L.getD t_16.toNat (default : Tenant)).Gen)))) == false) = true → Below t_16 16) <| bnd (gif (((decide (((x_9.1.L.getD t_16.toNat (default : Tenant)).ID) ≠ ((x_1.L.getD t_16.toNat (default : Tenant)).ID))) || (decide (((x_9.1.L.getD t_16.toNat (default : Tenant)).Gen) ≠ ((x_1.L.getD t_16.toNat (default : Tenant)).Gen)))) == false) (F_xMany fl ((x_1.L.getD t_16.toNat (default : Tenant)).Ext))) fun x_19 => ifb (((decide (((x_9.1.L.getD t_16.toNat (default : Tenant)).ID) ≠ ((x_1.L.getD t_16.toNat (default : Tenant)).ID))) || (decide (((x_9.1.L.getD t_16.toNat (default : Tenant)).Gen) ≠ ((x_1.L.getD t_16.toNat (default : Tenant)).Gen)))) || (decide (x_18 ≠ x_19))) (some (.inr (.inl false))) (some (.inl (IntKind.i64.wrap (t_16 + 1))))) (some (.inr (.inr ())))
def F_l32DirBack_b1 (x_1 : (Dir)) (x_20 : (Int × (Option Int))) (x_21 : (Dir × (Option Int))) (t_26 : Int) : Option ((Int) ⊕ ((Bool) ⊕ (Unit))) :=
  grd (Below x_20.1 16) <| ifb (decide (t_26 < (((x_1.L.getD x_20.1.toNat (default : Tenant)).Ext).length : Int))) (grd (Below x_20.1 16) <| ixb ((x_21.1.L.getD x_20.1.toNat (default : Tenant)).Ext) t_26 fun x_28 => grd (Below x_20.1 16) <| ixb ((x_1.L.getD x_20.1.toNat (default : Tenant)).Ext) t_26 fun x_29 => ifb (!(decide (x_28.From = x_29.From) && (decide (x_28.Many = x_29.Many) && true))) (some (.inr (.inl false))) (some (.inl (IntKind.i64.wrap (t_26 + 1))))) (some (.inr (.inr ())))
def F_l32DirBack (fl : Nat) (p0 : Dirr) (p1 : Ask) : Option (Bool) :=
  bnd (F_l32giveDir fl p0) fun x_1 => bnd (F_l32bigDir fl p0) fun x_2 => bnd (gif (x_2 == false) (F_dCheck fl x_1)) fun x_3 => ifb (x_2 || x_3.isSome) (bnd (F_l32sure fl) fun x_4 => some x_4) (bnd (F_dTaken fl x_1) fun x_5 => bnd (F_xFree fl x_5 x_1.Pages) fun x_6 => ifb x_6.2.isSome (some false) (bnd (F_dCreate fl x_1 p1.A p1.Pages) fun x_7 => bnd (ifb x_7.2.isNone (bnd (F_dDelete fl x_7.1 p1.A) fun x_9 => bnd (oNum32 x_9.2) fun x_10 => ifb ((decide (x_10 = 2)) && (decide (4611686018427387904 < (IntKind.u64.wrap (x_1.Seq + 2))))) (bnd (F_l32sure fl) fun x_11 => some (.inl x_11)) (bnd (F_dTaken fl x_9.1) fun x_12 => bnd (F_xFree fl x_12 x_9.1.Pages) fun x_13 => grd (((((x_9.2.isSome || x_13.2.isSome) || (decide (x_9.1.Seq ≠ (IntKind.u64.wrap (x_1.Seq + 2))))) || (decide (x_9.1.Gen ≠ (IntKind.u64.wrap (x_1.Gen + 1))))) == false) = true → (nrm 16 (0 : Int) x_9.1.M).length = 16) <| grd (((((x_9.2.isSome || x_13.2.isSome) || (decide (x_9.1.Seq ≠ (IntKind.u64.wrap (x_1.Seq + 2))))) || (decide (x_9.1.Gen ≠ (IntKind.u64.wrap (x_1.Gen + 1))))) == false) = true → (nrm 16 (0 : Int) x_1.M).length = 16) <| bnd (gif (((((x_9.2.isSome || x_13.2.isSome) || (decide (x_9.1.Seq ≠ (IntKind.u64.wrap (x_1.Seq + 2))))) || (decide (x_9.1.Gen ≠ (IntKind.u64.wrap (x_1.Gen + 1))))) || (!decide ((nrm 16 (0 : Int) x_9.1.M) = (nrm 16 (0 : Int) x_1.M)))) == false) (F_xMany fl x_13.1)) fun x_14 => bnd (gif (((((x_9.2.isSome || x_13.2.isSome) || (decide (x_9.1.Seq ≠ (IntKind.u64.wrap (x_1.Seq + 2))))) || (decide (x_9.1.Gen ≠ (IntKind.u64.wrap (x_1.Gen + 1))))) || (!decide ((nrm 16 (0 : Int) x_9.1.M) = (nrm 16 (0 : Int) x_1.M)))) == false) (F_xMany fl x_6.1)) fun x_15 => ifb (((((x_9.2.isSome || x_13.2.isSome) || (decide (x_9.1.Seq ≠ (IntKind.u64.wrap (x_1.Seq + 2))))) || (decide (x_9.1.Gen ≠ (IntKind.u64.wrap (x_1.Gen + 1))))) || (!decide ((nrm 16 (0 : Int) x_9.1.M) = (nrm 16 (0 : Int) x_1.M)))) || (decide (x_14 ≠ x_15))) (some (.inl false)) (lp (F_l32DirBack_b0 fl x_1 x_9) fl 0))) (some (.inr ()))) fun z_8 => ocs z_8 (fun qz_8_0 => some qz_8_0) fun z_8_0 => bnd (F_dPlace fl x_1 p1.A) fun x_20 => bnd (F_dGrow fl x_1 p1.A p1.Pages) fun x_21 => ifb x_21.2.isSome (bnd (F_l32sure fl) fun x_22 => some x_22) (grd ((x_20.2.isSome == false) = true → Below x_20.1 16) <| bnd (gif (x_20.2.isSome == false) (F_xMany fl ((x_21.1.L.getD x_20.1.toNat (default : Tenant)).Ext))) fun x_23 => grd ((x_20.2.isSome == false) = true → Below x_20.1 16) <| bnd (gif (x_20.2.isSome == false) (F_xMany fl ((x_1.L.getD x_20.1.toNat (default : Tenant)).Ext))) fun x_24 => ifb (x_20.2.isSome || (decide (x_23 ≠ (IntKind.i64.wrap (x_24 + p1.Pages))))) (some false) (grd (Below x_20.1 16) <| grd (Below x_20.1 16) <| ifb (decide ((((x_21.1.L.getD x_20.1.toNat (default : Tenant)).Ext).length : Int) < (((x_1.L.getD x_20.1.toNat (default : Tenant)).Ext).length : Int))) (some false) (bnd (lp (F_l32DirBack_b1 x_1 x_20 x_21) fl 0) fun z_25 => ocs z_25 (fun qz_25_0 => some qz_25_0) fun z_25_0 => bnd (F_l32sure fl) fun x_30 => some x_30)))))
set_option maxRecDepth 100000 in
set_option maxHeartbeats 2000000 in
theorem c_l32DirBack {fl : Nat} {p0 : Dirr} {p1 : Ask} {R : Bool} {s : St} (h0 : F_l32DirBack fl p0 p1 = some R) (hst : StGV s) : AC Tryd.prog 6 [agg (kDirr.cs p0), agg [pl (.int .u64 p1.A), pl (.int .u64 p1.B), pl (.int .i64 p1.Pages), pl (.bool p1.See)]] s (pl (.bool R)) s := by
  unfold F_l32DirBack at h0
  refine ac_of_aw s.boxes.length s.fr.length Tryd.func6 rfl (by simp [Tryd.ntmps6]) ?_
  refine aw_ext0 ?_
  refine aw_keep [(0, _), (1, _)] ⟨lg ez, lg (es ez), trivial⟩ ?_
  refine aw_seq ?_
  refine aw_region (by decide) ?_
  refine rts _ rfl (boxAN (n := 0) rfl oz (kb_Dirr _ _ _) (by first | exact List.length_nil | (simp only [List.length_cons, List.length_nil, Nat.zero_add, Nat.reduceAdd] <;> rfl)) (by simp only [znz] <;> rfl)) ?_
  refine rts _ rfl (boxAN (n := 1) rfl (ls rfl (os rfl oz)) (zbc zPb (zbc zPb (zbc zPb (zbc zPb bnd_nil)))) (by first | exact List.length_nil | (simp only [List.length_cons, List.length_nil, Nat.zero_add, Nat.reduceAdd] <;> rfl)) (by simp only [znz] <;> rfl)) ?_
  refine rts _ rfl (opD_assign (ev_const _ _)) ?_
  refine .nil ?_
  refine aw_keep [(2, _), (3, _)] ⟨lg (ls rfl (ls rfl lz)), lg (ls rfl lz), trivial⟩ ?_
  refine aw_seq ?_
  refine aw_region (by decide) ?_
  refine rts _ rfl (opD_load_aggX ag106_W7 sz106_W7 oz (loc_getN rfl rfl) (by rw [kDirr_len]; exact Nat.le_refl _) (kDirr_full _)) ?_
  replace h0 := bnd_some h0
  obtain ⟨x_1, hx_1, h0⟩ := h0
  refine rts _ rfl (opD_pure ht52_W7 (c_l32giveDir hx_1) ⟨le_of_eq lz, trivial⟩) ?_
  refine rts _ rfl (opD_wkN rfl (allocN (bs' := [⟨106, (kDirr.cs p0)⟩, ⟨108, [pl (.int .u64 p1.A), pl (.int .u64 p1.B), pl (.int .i64 p1.Pages), pl (.bool p1.See)]⟩, ⟨86, zl1⟩]) rfl zt86_W7 (by first | exact List.length_nil | (simp only [List.length_cons, List.length_nil, Nat.zero_add, Nat.reduceAdd] <;> rfl)) (by simp only [znz] <;> rfl)) (bxle_same (bxle_same (bxle_cons (B := ⟨86, zl1⟩) (C := ⟨86, kDir.cs (default : Dir)⟩) (@Eq.refl TypeId 86) kDir_zero bxle_nil))) (bl_cons (kb_Dirr _ _ _) (bl_cons (zbc zPb (zbc zPb (zbc zPb (zbc zPb bnd_nil)))) (bl_cons (kb_Dir _ _ _) bl_nil)))) ?_
  refine rts _ rfl (storeAN (cs' := kDir.cs x_1) rfl sz86_W7 lz (ls rfl lz) (fun p_ h_ => kDir.one _ p_ h_) rfl (kDir_len _) (by rw [kDir_len]; exact Nat.le_refl _) (by intro h_; have := congrArg List.length h_; rw [kDir_len] at this; cases this) (kb_Dir _ _ _) (kDir_put _ _) (by simp only [znz] <;> rfl)) ?_
  refine .nil ?_
  refine aw_keep [(2, _), (3, _), (5, _)] ⟨lg (lx (ls rfl (ls rfl (ls rfl oz)))), lg (lx (ls rfl (ls rfl (ls rfl (os rfl oz))))), lg (lx lz), trivial⟩ ?_
  refine aw_seq ?_
  refine aw_seq ?_
  refine aw_region (by decide) ?_
  refine rts _ rfl (opD_load_aggX ag106_W7 sz106_W7 oz (loc_getN rfl rfl) (by rw [kDirr_len]; exact Nat.le_refl _) (kDirr_full _)) ?_
  replace h0 := bnd_some h0
  obtain ⟨x_2, hx_2, h0⟩ := h0
  refine rts _ rfl (opD_pure ht53_W7 (c_l32bigDir hx_2) ⟨le_of_eq lz, trivial⟩) ?_
  refine rts _ rfl (opD_move lz) ?_
  refine rtg _ rfl lz (fun hg2_3_1 => opD_load_aggX ag86_W7 sz86_W7 (ls rfl (ls rfl (ls rfl (os rfl (os rfl oz))))) (loc_getN rfl rfl) (by rw [kDir_len]; exact Nat.le_refl _) (kDir_full _)) ?_
  replace h0 := bnd_some h0
  obtain ⟨x_3, hx_3, h0⟩ := h0
  refine rtg _ rfl (ls rfl lz) (fun hg2_4_2 => opD_pure ht48_W7 (c_dCheck (gif_some hx_3 hg2_4_2)) ⟨le_of_eq (lz.trans (pif_pos hg2_4_2)), trivial⟩) ?_
  refine rtg _ rfl (ls rfl (ls rfl lz)) (fun hg2_5_3 => opD_bin (lz.trans (pif_pos hg2_5_3)) (ev_const _ _) (fun w => errV_guard _ w _) (fun w => errV_beq _ w)) ?_
  refine rts _ rfl (opD_or (ls rfl (ls rfl (ls rfl lz))) lz) ?_
  refine .nil ?_
  refine aw_keep [(3, _), (5, _), (28, _)] ⟨lg (ls rfl (ls rfl (ls rfl (ls rfl (ls rfl (ls rfl (ls rfl (os rfl oz)))))))), lg (ls rfl (ls rfl (ls rfl (ls rfl (ls rfl (ls rfl (ls rfl (os rfl (os rfl oz))))))))), lg lz, trivial⟩ ?_
  refine aw_cond _ (os rfl (os rfl oz)) (fun hc => ?_) (fun hc => ?_)
  · skip
    replace h0 := ifb_t h0 hc
    clear hc
    refine aw_seq ?_
    refine aw_region (by decide) ?_
    replace h0 := bnd_some h0
    obtain ⟨x_4, hx_4, h0⟩ := h0
    refine rts _ rfl (opD_call ht51_W7 (c_l32sure hx_4 hst) trivial) ?_
    refine rts _ rfl (opD_assign lz) ?_
    refine .nil ?_
    refine aw_keep [(4, _)] ⟨lg lz, trivial⟩ ?_
    refine aw_ret ?_
    obtain rfl := some_of h0
    exact done_ext (.inr rfl) ((res_one rfl (it_tmp oz)).le zLr) zPb
  · skip
    replace h0 := ifb_f h0 hc
    clear hc
    refine aw_skip ?_
    refine aw_keep [(3, _), (5, _)] ⟨lg oz, lg (os rfl oz), trivial⟩ ?_
    refine aw_seq ?_
    refine aw_flat mixed_W7 (by decide +kernel) ?_
    refine zts _ rfl (opD_load_aggX ag86_W7 sz86_W7 (os rfl oz) (loc_getN rfl rfl) (by rw [kDir_len]; exact Nat.le_refl _) (kDir_full _)) ?_
    replace h0 := bnd_some h0
    obtain ⟨x_5, hx_5, h0⟩ := h0
    refine zts _ rfl (opD_pure ht50_W7 (c_dTaken hx_5) ⟨le_of_eq lz, trivial⟩) ?_
    refine zts _ rfl (opD_fieldAddr fo86_2_W7 (ls rfl (ls rfl (os rfl oz)))) ?_
    refine zts _ rfl (opD_load_one ag3_W7 lz (loc_getN rfl rfl) rfl) ?_
    replace h0 := bnd_some h0
    obtain ⟨x_6, hx_6, h0⟩ := h0
    refine zts _ rfl (opD_pure ht54_W7 (c_xFree hx_6) ⟨le_of_eq (ls rfl (ls rfl lz)), le_of_eq lz, trivial⟩) ?_
    refine zts _ rfl (opD_move lz) ?_
    refine zts _ rfl (opD_extract lz rfl) ?_
    refine zts _ rfl (opD_extract (ls rfl lz) rfl) ?_
    refine zts _ rfl (opD_assign (ls rfl lz)) ?_
    refine zts _ rfl (opD_assign (ls rfl lz)) ?_
    refine .nil ?_
    refine aw_keep [(3, _), (5, _), (6, _), (7, _)] ⟨lg (ls rfl (ls rfl (ls rfl (ls rfl (ls rfl (ls rfl (ls rfl (ls rfl (ls rfl (ls rfl oz)))))))))), lg (ls rfl (ls rfl (ls rfl (ls rfl (ls rfl (ls rfl (ls rfl (ls rfl (ls rfl (ls rfl (os rfl oz))))))))))), lg (ls rfl lz), lg lz, trivial⟩ ?_
    refine aw_seq ?_
    refine aw_seq ?_
    refine aw_region (by decide) ?_
    refine rts _ rfl (opD_move (os rfl (os rfl (os rfl oz)))) ?_
    refine rts _ rfl (opD_bin lz (ev_const _ _) (fun w => errV_guard _ w _) (fun w => errV_beq _ w)) ?_
    refine .nil ?_
    refine aw_keep [(3, _), (5, _), (6, _), (39, _)] ⟨lg (ls rfl (ls rfl oz)), lg (ls rfl (ls rfl (os rfl oz))), lg (ls rfl (ls rfl (os rfl (os rfl oz)))), lg lz, trivial⟩ ?_
    refine aw_cond _ (os rfl (os rfl (os rfl oz))) (fun hc => ?_) (fun hc => ?_)
    · skip
      replace h0 := ifb_t h0 hc
      clear hc
      refine aw_seq ?_
      refine aw_region (by decide) ?_
      refine rts _ rfl (opD_assign (ev_const _ _)) ?_
      refine .nil ?_
      refine aw_keep [(4, _)] ⟨lg lz, trivial⟩ ?_
      refine aw_ret ?_
      obtain rfl := some_of h0
      exact done_ext (.inr rfl) ((res_one rfl (it_tmp oz)).le zLr) zPb
    · skip
      replace h0 := ifb_f h0 hc
      clear hc
      refine aw_skip ?_
      refine aw_keep [(3, _), (5, _), (6, _)] ⟨lg oz, lg (os rfl oz), lg (os rfl (os rfl oz)), trivial⟩ ?_
      refine aw_seq ?_
      refine aw_region (by decide) ?_
      refine rts _ rfl (opD_load_aggX ag86_W7 sz86_W7 (os rfl oz) (loc_getN rfl rfl) (by rw [kDir_len]; exact Nat.le_refl _) (kDir_full _)) ?_
      refine rts _ rfl (opD_fieldAddr fo108_0_W7 (ls rfl oz)) ?_
      refine rts _ rfl (opD_load_one ag56_W7 lz (loc_getN rfl rfl) rfl) ?_
      refine rts _ rfl (opD_fieldAddr fo108_2_W7 (ls rfl (ls rfl (ls rfl oz)))) ?_
      refine rts _ rfl (opD_load_one ag3_W7 lz (loc_getN rfl rfl) rfl) ?_
      replace h0 := bnd_some h0
      obtain ⟨x_7, hx_7, h0⟩ := h0
      refine rts _ rfl (opD_pure ht41_W7 (c_dCreate hx_7) ⟨le_of_eq (ls rfl (ls rfl (ls rfl (ls rfl lz)))), le_of_eq (ls rfl (ls rfl lz)), le_of_eq lz, trivial⟩) ?_
      refine rts _ rfl (opD_move lz) ?_
      refine rts _ rfl (opD_extract lz rfl) ?_
      refine rts _ rfl (opD_extract (ls rfl lz) rfl) ?_
      refine rts _ rfl (opD_wkN rfl (allocN (bs' := [⟨106, (kDirr.cs p0)⟩, ⟨108, [pl (.int .u64 p1.A), pl (.int .u64 p1.B), pl (.int .i64 p1.Pages), pl (.bool p1.See)]⟩, ⟨86, (kDir.cs x_1)⟩, ⟨86, zl1⟩]) rfl zt86_W7 (by first | exact List.length_nil | (simp only [List.length_cons, List.length_nil, Nat.zero_add, Nat.reduceAdd] <;> rfl)) (by simp only [znz] <;> rfl)) (bxle_same (bxle_same (bxle_same (bxle_cons (B := ⟨86, zl1⟩) (C := ⟨86, kDir.cs (default : Dir)⟩) (@Eq.refl TypeId 86) kDir_zero bxle_nil)))) (bl_cons (kb_Dirr _ _ _) (bl_cons (zbc zPb (zbc zPb (zbc zPb (zbc zPb bnd_nil)))) (bl_cons (kb_Dir _ _ _) (bl_cons (kb_Dir _ _ _) bl_nil))))) ?_
      refine rts _ rfl (storeAN (cs' := kDir.cs x_7.1) rfl sz86_W7 lz (ls rfl (ls rfl lz)) (fun p_ h_ => kDir.one _ p_ h_) rfl (kDir_len _) (by rw [kDir_len]; exact Nat.le_refl _) (by intro h_; have := congrArg List.length h_; rw [kDir_len] at this; cases this) (kb_Dir _ _ _) (kDir_put _ _) (by simp only [znz] <;> rfl)) ?_
      refine rts _ rfl (opD_assign (lx (ls rfl lz))) ?_
      refine .nil ?_
      refine aw_keep [(3, _), (5, _), (6, _), (8, _), (9, _)] ⟨lg (ls rfl (lx (ls rfl (ls rfl (ls rfl (ls rfl (ls rfl (ls rfl (ls rfl (ls rfl (ls rfl (ls rfl oz)))))))))))), lg (ls rfl (lx (ls rfl (ls rfl (ls rfl (ls rfl (ls rfl (ls rfl (ls rfl (ls rfl (ls rfl (ls rfl (os rfl oz))))))))))))), lg (ls rfl (lx (ls rfl (ls rfl (ls rfl (ls rfl (ls rfl (ls rfl (ls rfl (ls rfl (ls rfl (ls rfl (os rfl (os rfl oz)))))))))))))), lg (ls rfl (lx lz)), lg lz, trivial⟩ ?_
      refine aw_seq ?_
      refine aw_seq ?_
      refine aw_region (by decide) ?_
      refine rts _ rfl (opD_move (os rfl (os rfl (os rfl (os rfl oz))))) ?_
      refine rts _ rfl (opD_bin lz (ev_const _ _) (fun w => errV_geql _ w _) (fun w => errV_eql _ w)) ?_
      refine .nil ?_
      refine aw_keep [(3, _), (5, _), (6, _), (8, _), (50, _)] ⟨lg (ls rfl (ls rfl oz)), lg (ls rfl (ls rfl (os rfl oz))), lg (ls rfl (ls rfl (os rfl (os rfl oz)))), lg (ls rfl (ls rfl (os rfl (os rfl (os rfl oz))))), lg lz, trivial⟩ ?_
      replace h0 := bnd_some h0
      obtain ⟨z_8, hz_8, h0⟩ := h0
      refine aw_mid (fun e st => ∃ v : Unit, Holds e [(3, ptr (s.boxes.length + 1) 0), (5, ptr (s.boxes.length + 2) 0)] ∧ st = s.ext [⟨106, (kDirr.cs p0)⟩, ⟨108, [pl (.int .u64 p1.A), pl (.int .u64 p1.B), pl (.int .i64 p1.Pages), pl (.bool p1.See)]⟩, ⟨86, (kDir.cs x_1)⟩, ⟨86, (kDir.cs x_7.1)⟩] [] ∧ (.inr v) = z_8) ?_ ?_
      · skip
        refine aw_wkN rfl 4 0 rfl rfl ?_
        refine aw_cond _ (os rfl (os rfl (os rfl (os rfl oz)))) (fun hc => ?_) (fun hc => ?_)
        · skip
          replace hz_8 := ifb_t hz_8 hc
          clear hc
          refine aw_seq ?_
          refine aw_region (by decide) ?_
          refine rts _ rfl (opD_load_aggX ag86_W7 sz86_W7 (os rfl (os rfl (os rfl oz))) (loc_getN rfl rfl) (by rw [kDir_len]; exact Nat.le_refl _) (kDir_full _)) ?_
          refine rts _ rfl (opD_fieldAddr fo108_0_W7 (ls rfl oz)) ?_
          refine rts _ rfl (opD_load_one ag56_W7 lz (loc_getN rfl rfl) rfl) ?_
          replace hz_8 := bnd_some hz_8
          obtain ⟨x_9, hx_9, hz_8⟩ := hz_8
          refine rts _ rfl (opD_pure ht45_W7 (c_dDelete hx_9) ⟨le_of_eq (ls rfl (ls rfl lz)), le_of_eq lz, trivial⟩) ?_
          refine rts _ rfl (opD_move lz) ?_
          refine rts _ rfl (opD_extract lz rfl) ?_
          refine rts _ rfl (opD_extract (ls rfl lz) rfl) ?_
          refine rts _ rfl (opD_wkN rfl (allocN (bs' := [⟨106, (kDirr.cs p0)⟩, ⟨108, [pl (.int .u64 p1.A), pl (.int .u64 p1.B), pl (.int .i64 p1.Pages), pl (.bool p1.See)]⟩, ⟨86, (kDir.cs x_1)⟩, ⟨86, (kDir.cs x_7.1)⟩, ⟨86, zl1⟩]) rfl zt86_W7 (by first | exact List.length_nil | (simp only [List.length_cons, List.length_nil, Nat.zero_add, Nat.reduceAdd] <;> rfl)) (by simp only [znz] <;> rfl)) (bxle_same (bxle_same (bxle_same (bxle_same (bxle_cons (B := ⟨86, zl1⟩) (C := ⟨86, kDir.cs (default : Dir)⟩) (@Eq.refl TypeId 86) kDir_zero bxle_nil))))) (bl_cons (kb_Dirr _ _ _) (bl_cons (zbc zPb (zbc zPb (zbc zPb (zbc zPb bnd_nil)))) (bl_cons (kb_Dir _ _ _) (bl_cons (kb_Dir _ _ _) (bl_cons (kb_Dir _ _ _) bl_nil)))))) ?_
          refine rts _ rfl (storeAN (cs' := kDir.cs x_9.1) rfl sz86_W7 lz (ls rfl (ls rfl lz)) (fun p_ h_ => kDir.one _ p_ h_) rfl (kDir_len _) (by rw [kDir_len]; exact Nat.le_refl _) (by intro h_; have := congrArg List.length h_; rw [kDir_len] at this; cases this) (kb_Dir _ _ _) (kDir_put _ _) (by simp only [znz] <;> rfl)) ?_
          refine rts _ rfl (opD_assign (lx (ls rfl lz))) ?_
          refine .nil ?_
          refine aw_keep [(3, _), (5, _), (6, _), (10, _), (11, _)] ⟨lg (ls rfl (lx (ls rfl (ls rfl (ls rfl (ls rfl (ls rfl (ls rfl (ls rfl (ls rfl oz)))))))))), lg (ls rfl (lx (ls rfl (ls rfl (ls rfl (ls rfl (ls rfl (ls rfl (ls rfl (ls rfl (os rfl oz))))))))))), lg (ls rfl (lx (ls rfl (ls rfl (ls rfl (ls rfl (ls rfl (ls rfl (ls rfl (ls rfl (os rfl (os rfl oz)))))))))))), lg (ls rfl (lx lz)), lg lz, trivial⟩ ?_
          refine aw_seq ?_
          refine aw_seq ?_
          refine aw_region (by decide) ?_
          refine rts _ rfl (opD_move (os rfl (os rfl (os rfl (os rfl oz))))) ?_
          replace hz_8 := bnd_some hz_8
          obtain ⟨x_10, hx_10, hz_8⟩ := hz_8
          refine rts _ rfl (opD_call ht55_W7 (c_num32 hx_10 hst) ⟨le_of_eq lz, trivial⟩) ?_
          refine rts _ rfl (opD_eql lz (ev_const _ _)) ?_
          refine rts _ rfl (opD_move lz) ?_
          refine rtg _ rfl lz (fun hg10_4_154 => opD_fieldAddr fo86_0_W7 (ls rfl (ls rfl (ls rfl (ls rfl (os rfl oz)))))) ?_
          refine rtg _ rfl (ls rfl lz) (fun hg10_5_155 => opD_load_one ag56_W7 (lz.trans (pif_pos hg10_5_155)) (loc_getN rfl rfl) rfl) ?_
          refine rtg _ rfl (ls rfl (ls rfl lz)) (fun hg10_6_156 => opD_add (lz.trans (pif_pos hg10_6_156)) (ev_const _ _) rfl) ?_
          refine rtg _ rfl (ls rfl (ls rfl (ls rfl lz))) (fun hg10_7_157 => opD_gtr (lz.trans (pif_pos hg10_7_157)) (ev_const _ _)) ?_
          refine rts _ rfl (opD_and (ls rfl (ls rfl (ls rfl (ls rfl lz)))) lz) ?_
          refine .nil ?_
          refine aw_keep [(3, _), (5, _), (6, _), (10, _), (11, _), (66, _)] ⟨lg (ls rfl (ls rfl (ls rfl (ls rfl (ls rfl (ls rfl (ls rfl (ls rfl (ls rfl oz))))))))), lg (ls rfl (ls rfl (ls rfl (ls rfl (ls rfl (ls rfl (ls rfl (ls rfl (ls rfl (os rfl oz)))))))))), lg (ls rfl (ls rfl (ls rfl (ls rfl (ls rfl (ls rfl (ls rfl (ls rfl (ls rfl (os rfl (os rfl oz))))))))))), lg (ls rfl (ls rfl (ls rfl (ls rfl (ls rfl (ls rfl (ls rfl (ls rfl (ls rfl (os rfl (os rfl (os rfl oz)))))))))))), lg (ls rfl (ls rfl (ls rfl (ls rfl (ls rfl (ls rfl (ls rfl (ls rfl (ls rfl (os rfl (os rfl (os rfl (os rfl oz))))))))))))), lg lz, trivial⟩ ?_
          refine aw_cond _ (os rfl (os rfl (os rfl (os rfl (os rfl oz))))) (fun hc => ?_) (fun hc => ?_)
          · skip
            replace hz_8 := ifb_t hz_8 hc
            clear hc
            refine aw_seq ?_
            refine aw_region (by decide) ?_
            replace hz_8 := bnd_some hz_8
            obtain ⟨x_11, hx_11, hz_8⟩ := hz_8
            refine rts _ rfl (opD_call ht51_W7 (c_l32sure hx_11 hst) trivial) ?_
            refine rts _ rfl (opD_assign lz) ?_
            refine .nil ?_
            refine aw_keep [(4, _)] ⟨lg lz, trivial⟩ ?_
            refine aw_ret ?_
            obtain rfl := some_of hz_8
            replace h0 := ocs_l h0
            refine wk_no ?_
            obtain rfl := some_of h0
            exact done_ext (.inr rfl) ((res_one rfl (it_tmp oz)).le zLr) zPb
          · skip
            replace hz_8 := ifb_f hz_8 hc
            clear hc
            refine aw_skip ?_
            refine aw_keep [(3, _), (5, _), (6, _), (10, _), (11, _)] ⟨lg oz, lg (os rfl oz), lg (os rfl (os rfl oz)), lg (os rfl (os rfl (os rfl oz))), lg (os rfl (os rfl (os rfl (os rfl oz)))), trivial⟩ ?_
            refine aw_seq ?_
            refine aw_flat mixed_W7 (by decide +kernel) ?_
            refine zts _ rfl (opD_load_aggX ag86_W7 sz86_W7 (os rfl (os rfl (os rfl oz))) (loc_getN rfl rfl) (by rw [kDir_len]; exact Nat.le_refl _) (kDir_full _)) ?_
            replace hz_8 := bnd_some hz_8
            obtain ⟨x_12, hx_12, hz_8⟩ := hz_8
            refine zts _ rfl (opD_pure ht50_W7 (c_dTaken hx_12) ⟨le_of_eq lz, trivial⟩) ?_
            refine zts _ rfl (opD_fieldAddr fo86_2_W7 (ls rfl (ls rfl (os rfl (os rfl (os rfl oz)))))) ?_
            refine zts _ rfl (opD_load_one ag3_W7 lz (loc_getN rfl rfl) rfl) ?_
            replace hz_8 := bnd_some hz_8
            obtain ⟨x_13, hx_13, hz_8⟩ := hz_8
            refine zts _ rfl (opD_pure ht54_W7 (c_xFree hx_13) ⟨le_of_eq (ls rfl (ls rfl lz)), le_of_eq lz, trivial⟩) ?_
            refine zts _ rfl (opD_move lz) ?_
            refine zts _ rfl (opD_extract lz rfl) ?_
            refine zts _ rfl (opD_extract (ls rfl lz) rfl) ?_
            refine zts _ rfl (opD_assign (ls rfl lz)) ?_
            refine zts _ rfl (opD_assign (ls rfl lz)) ?_
            refine .nil ?_
            refine aw_keep [(3, _), (5, _), (6, _), (10, _), (11, _), (12, _), (13, _)] ⟨lg (ls rfl (ls rfl (ls rfl (ls rfl (ls rfl (ls rfl (ls rfl (ls rfl (ls rfl (ls rfl oz)))))))))), lg (ls rfl (ls rfl (ls rfl (ls rfl (ls rfl (ls rfl (ls rfl (ls rfl (ls rfl (ls rfl (os rfl oz))))))))))), lg (ls rfl (ls rfl (ls rfl (ls rfl (ls rfl (ls rfl (ls rfl (ls rfl (ls rfl (ls rfl (os rfl (os rfl oz)))))))))))), lg (ls rfl (ls rfl (ls rfl (ls rfl (ls rfl (ls rfl (ls rfl (ls rfl (ls rfl (ls rfl (os rfl (os rfl (os rfl oz))))))))))))), lg (ls rfl (ls rfl (ls rfl (ls rfl (ls rfl (ls rfl (ls rfl (ls rfl (ls rfl (ls rfl (os rfl (os rfl (os rfl (os rfl oz)))))))))))))), lg (ls rfl lz), lg lz, trivial⟩ ?_
            refine aw_seq ?_
            refine aw_seq ?_
            refine aw_region (by decide) ?_
            refine rts _ rfl (opD_move (os rfl (os rfl (os rfl (os rfl oz))))) ?_
            refine rts _ rfl (opD_bin lz (ev_const _ _) (fun w => errV_guard _ w _) (fun w => errV_beq _ w)) ?_
            refine rts _ rfl (opD_move lz) ?_
            refine rtg _ rfl lz (fun hg13_3_158 => opD_move (ls rfl (ls rfl (ls rfl (os rfl (os rfl (os rfl (os rfl (os rfl (os rfl oz)))))))))) ?_
            refine rtg _ rfl (ls rfl lz) (fun hg13_4_159 => opD_bin (lz.trans (pif_pos hg13_4_159)) (ev_const _ _) (fun w => errV_guard _ w _) (fun w => errV_beq _ w)) ?_
            refine rts _ rfl (opD_or (ls rfl (ls rfl lz)) lz) ?_
            refine rts _ rfl (opD_move lz) ?_
            refine rtg _ rfl lz (fun hg13_7_160 => opD_fieldAddr fo86_0_W7 (ls rfl (ls rfl (ls rfl (ls rfl (ls rfl (ls rfl (ls rfl (os rfl (os rfl (os rfl oz))))))))))) ?_
            refine rtg _ rfl (ls rfl lz) (fun hg13_8_161 => opD_load_one ag56_W7 (lz.trans (pif_pos hg13_8_161)) (loc_getN rfl rfl) rfl) ?_
            refine rtg _ rfl (ls rfl (ls rfl lz)) (fun hg13_9_162 => opD_fieldAddr fo86_0_W7 (ls rfl (ls rfl (ls rfl (ls rfl (ls rfl (ls rfl (ls rfl (ls rfl (ls rfl (os rfl oz))))))))))) ?_
            refine rtg _ rfl (ls rfl (ls rfl (ls rfl lz))) (fun hg13_10_163 => opD_load_one ag56_W7 (lz.trans (pif_pos hg13_10_163)) (loc_getN rfl rfl) rfl) ?_
            refine rtg _ rfl (ls rfl (ls rfl (ls rfl (ls rfl lz)))) (fun hg13_11_164 => opD_add (lz.trans (pif_pos hg13_11_164)) (ev_const _ _) rfl) ?_
            refine rtg _ rfl (ls rfl (ls rfl (ls rfl (ls rfl (ls rfl lz))))) (fun hg13_12_165 => opD_neq ((ls rfl (ls rfl (ls rfl lz))).trans (pif_pos hg13_12_165)) (lz.trans (pif_pos hg13_12_165))) ?_
            refine rts _ rfl (opD_or (ls rfl (ls rfl (ls rfl (ls rfl (ls rfl (ls rfl lz)))))) lz) ?_
            refine rts _ rfl (opD_move lz) ?_
            refine rtg _ rfl lz (fun hg13_15_166 => opD_fieldAddr fo86_1_W7 (ls rfl (ls rfl (ls rfl (ls rfl (ls rfl (ls rfl (ls rfl (ls rfl (ls rfl (ls rfl (ls rfl (ls rfl (ls rfl (ls rfl (ls rfl (os rfl (os rfl (os rfl oz))))))))))))))))))) ?_
            refine rtg _ rfl (ls rfl lz) (fun hg13_16_167 => opD_load_one ag56_W7 (lz.trans (pif_pos hg13_16_167)) (loc_getN rfl rfl) rfl) ?_
            refine rtg _ rfl (ls rfl (ls rfl lz)) (fun hg13_17_168 => opD_fieldAddr fo86_1_W7 (ls rfl (ls rfl (ls rfl (ls rfl (ls rfl (ls rfl (ls rfl (ls rfl (ls rfl (ls rfl (ls rfl (ls rfl (ls rfl (ls rfl (ls rfl (ls rfl (ls rfl (os rfl oz))))))))))))))))))) ?_
            refine rtg _ rfl (ls rfl (ls rfl (ls rfl lz))) (fun hg13_18_169 => opD_load_one ag56_W7 (lz.trans (pif_pos hg13_18_169)) (loc_getN rfl rfl) rfl) ?_
            refine rtg _ rfl (ls rfl (ls rfl (ls rfl (ls rfl lz)))) (fun hg13_19_170 => opD_add (lz.trans (pif_pos hg13_19_170)) (ev_const _ _) rfl) ?_
            refine rtg _ rfl (ls rfl (ls rfl (ls rfl (ls rfl (ls rfl lz))))) (fun hg13_20_171 => opD_neq ((ls rfl (ls rfl (ls rfl lz))).trans (pif_pos hg13_20_171)) (lz.trans (pif_pos hg13_20_171))) ?_
            refine rts _ rfl (opD_or (ls rfl (ls rfl (ls rfl (ls rfl (ls rfl (ls rfl lz)))))) lz) ?_
            refine rts _ rfl (opD_move lz) ?_
            refine rtg _ rfl lz (fun hg13_23_172 => opD_fieldAddr fo86_4_W7 (ls rfl (ls rfl (ls rfl (ls rfl (ls rfl (ls rfl (ls rfl (ls rfl (ls rfl (ls rfl (ls rfl (ls rfl (ls rfl (ls rfl (ls rfl (ls rfl (ls rfl (ls rfl (ls rfl (ls rfl (ls rfl (ls rfl (ls rfl (os rfl (os rfl (os rfl oz))))))))))))))))))))))))))) ?_
            refine rtg _ rfl (ls rfl lz) (fun hg13_24_173 => opD_load_aggX ag84_W7 sz84_W7 (lz.trans (pif_pos hg13_24_173)) (loc_getN rfl rfl) (by rw [kDir_len]; decide) (kDir_w_M _)) ?_
            refine rtg _ rfl (ls rfl (ls rfl lz)) (fun hg13_25_174 => opD_fieldAddr fo86_4_W7 (ls rfl (ls rfl (ls rfl (ls rfl (ls rfl (ls rfl (ls rfl (ls rfl (ls rfl (ls rfl (ls rfl (ls rfl (ls rfl (ls rfl (ls rfl (ls rfl (ls rfl (ls rfl (ls rfl (ls rfl (ls rfl (ls rfl (ls rfl (ls rfl (ls rfl (os rfl oz))))))))))))))))))))))))))) ?_
            refine rtg _ rfl (ls rfl (ls rfl (ls rfl lz))) (fun hg13_26_175 => opD_load_aggX ag84_W7 sz84_W7 (lz.trans (pif_pos hg13_26_175)) (loc_getN rfl rfl) (by rw [kDir_len]; decide) (kDir_w_M _)) ?_
            replace hz_8 := grd_some hz_8
            obtain ⟨hg_177, hz_8⟩ := hz_8
            replace hz_8 := grd_some hz_8
            obtain ⟨hg_178, hz_8⟩ := hz_8
            refine rtg _ rfl (ls rfl (ls rfl (ls rfl (ls rfl lz)))) (fun hg13_27_176 => opD_neArr Tryd.underlying84 (by kernel_rfl) Tryd.underlying77 ag77_W7 (by kernel_rfl) ((ls rfl (ls rfl lz)).trans (pif_pos hg13_27_176)) (lz.trans (pif_pos hg13_27_176)) (hg_177 hg13_27_176) (hg_178 hg13_27_176)) ?_
            refine rts _ rfl (opD_or (ls rfl (ls rfl (ls rfl (ls rfl (ls rfl lz))))) lz) ?_
            refine rts _ rfl (opD_move lz) ?_
            refine rtg _ rfl lz (fun hg13_30_179 => opD_move (ls rfl (ls rfl (ls rfl (ls rfl (ls rfl (ls rfl (ls rfl (ls rfl (ls rfl (ls rfl (ls rfl (ls rfl (ls rfl (ls rfl (ls rfl (ls rfl (ls rfl (ls rfl (ls rfl (ls rfl (ls rfl (ls rfl (ls rfl (ls rfl (ls rfl (ls rfl (ls rfl (ls rfl (ls rfl (ls rfl (os rfl (os rfl (os rfl (os rfl (os rfl oz)))))))))))))))))))))))))))))))))))) ?_
            replace hz_8 := bnd_some hz_8
            obtain ⟨x_14, hx_14, hz_8⟩ := hz_8
            refine rtg _ rfl (ls rfl lz) (fun hg13_31_180 => opD_pure ht43_W7 (c_xMany (gif_some hx_14 hg13_31_180)) ⟨le_of_eq (lz.trans (pif_pos hg13_31_180)), trivial⟩) ?_
            refine rtg _ rfl (ls rfl (ls rfl lz)) (fun hg13_32_181 => opD_move (ls rfl (ls rfl (ls rfl (ls rfl (ls rfl (ls rfl (ls rfl (ls rfl (ls rfl (ls rfl (ls rfl (ls rfl (ls rfl (ls rfl (ls rfl (ls rfl (ls rfl (ls rfl (ls rfl (ls rfl (ls rfl (ls rfl (ls rfl (ls rfl (ls rfl (ls rfl (ls rfl (ls rfl (ls rfl (ls rfl (ls rfl (ls rfl (os rfl (os rfl oz))))))))))))))))))))))))))))))))))) ?_
            replace hz_8 := bnd_some hz_8
            obtain ⟨x_15, hx_15, hz_8⟩ := hz_8
            refine rtg _ rfl (ls rfl (ls rfl (ls rfl lz))) (fun hg13_33_182 => opD_pure ht43_W7 (c_xMany (gif_some hx_15 hg13_33_182)) ⟨le_of_eq (lz.trans (pif_pos hg13_33_182)), trivial⟩) ?_
            refine rtg _ rfl (ls rfl (ls rfl (ls rfl (ls rfl lz)))) (fun hg13_34_183 => opD_neq ((ls rfl (ls rfl lz)).trans (pif_pos hg13_34_183)) (lz.trans (pif_pos hg13_34_183))) ?_
            refine rts _ rfl (opD_or (ls rfl (ls rfl (ls rfl (ls rfl (ls rfl lz))))) lz) ?_
            refine .nil ?_
            refine aw_keep [(3, _), (5, _), (10, _), (111, _)] ⟨lg (ls rfl (ls rfl (ls rfl (ls rfl (ls rfl (ls rfl (ls rfl (ls rfl (ls rfl (ls rfl (ls rfl (ls rfl (ls rfl (ls rfl (ls rfl (ls rfl (ls rfl (ls rfl (ls rfl (ls rfl (ls rfl (ls rfl (ls rfl (ls rfl (ls rfl (ls rfl (ls rfl (ls rfl (ls rfl (ls rfl (ls rfl (ls rfl (ls rfl (ls rfl (ls rfl (ls rfl oz)))))))))))))))))))))))))))))))))))), lg (ls rfl (ls rfl (ls rfl (ls rfl (ls rfl (ls rfl (ls rfl (ls rfl (ls rfl (ls rfl (ls rfl (ls rfl (ls rfl (ls rfl (ls rfl (ls rfl (ls rfl (ls rfl (ls rfl (ls rfl (ls rfl (ls rfl (ls rfl (ls rfl (ls rfl (ls rfl (ls rfl (ls rfl (ls rfl (ls rfl (ls rfl (ls rfl (ls rfl (ls rfl (ls rfl (ls rfl (os rfl oz))))))))))))))))))))))))))))))))))))), lg (ls rfl (ls rfl (ls rfl (ls rfl (ls rfl (ls rfl (ls rfl (ls rfl (ls rfl (ls rfl (ls rfl (ls rfl (ls rfl (ls rfl (ls rfl (ls rfl (ls rfl (ls rfl (ls rfl (ls rfl (ls rfl (ls rfl (ls rfl (ls rfl (ls rfl (ls rfl (ls rfl (ls rfl (ls rfl (ls rfl (ls rfl (ls rfl (ls rfl (ls rfl (ls rfl (ls rfl (os rfl (os rfl (os rfl oz))))))))))))))))))))))))))))))))))))))), lg lz, trivial⟩ ?_
            refine aw_cond _ (os rfl (os rfl (os rfl oz))) (fun hc => ?_) (fun hc => ?_)
            · skip
              replace hz_8 := ifb_t hz_8 hc
              clear hc
              refine aw_seq ?_
              refine aw_region (by decide) ?_
              refine rts _ rfl (opD_assign (ev_const _ _)) ?_
              refine .nil ?_
              refine aw_keep [(4, _)] ⟨lg lz, trivial⟩ ?_
              refine aw_ret ?_
              obtain rfl := some_of hz_8
              replace h0 := ocs_l h0
              refine wk_no ?_
              obtain rfl := some_of h0
              exact done_ext (.inr rfl) ((res_one rfl (it_tmp oz)).le zLr) zPb
            · skip
              replace hz_8 := ifb_f hz_8 hc
              clear hc
              refine aw_skip ?_
              refine aw_keep [(3, _), (5, _), (10, _)] ⟨lg oz, lg (os rfl oz), lg (os rfl (os rfl oz)), trivial⟩ ?_
              refine aw_seq ?_
              refine aw_region (by decide) ?_
              refine rts _ rfl (opD_assign (ev_const _ _)) ?_
              refine .nil ?_
              refine aw_keep [(3, _), (5, _), (10, _), (14, _)] ⟨lg (ls rfl oz), lg (ls rfl (os rfl oz)), lg (ls rfl (os rfl (os rfl oz))), lg lz, trivial⟩ ?_
              refine aw_block ?_
              refine aw_loop (fun n e st => ∃ v : Int, Holds e [(3, ptr (s.boxes.length + 1) 0), (5, ptr (s.boxes.length + 2) 0), (10, ptr (s.boxes.length + 4) 0), (14, pl (.int .i64 v))] ∧ st = s.ext [⟨106, (kDirr.cs p0)⟩, ⟨108, [pl (.int .u64 p1.A), pl (.int .u64 p1.B), pl (.int .i64 p1.Pages), pl (.bool p1.See)]⟩, ⟨86, (kDir.cs x_1)⟩, ⟨86, (kDir.cs x_7.1)⟩, ⟨86, (kDir.cs x_9.1)⟩] [] ∧ lp (F_l32DirBack_b0 fl x_1 x_9) n v = some z_8) fl ⟨0, ⟨le_of_eq (eg oz), le_of_eq (eg (os rfl oz)), le_of_eq (eg (os rfl (os rfl oz))), le_of_eq (eg (os rfl (os rfl (os rfl oz)))), trivial⟩, rfl, hz_8⟩ ?_
              rintro n e st ⟨t_16, hH, rfl, hz_8⟩
              replace hz_8 := lp_some hz_8
              obtain ⟨m_z_17, z_17, rfl, hz_17, hz_8⟩ := hz_8
              unfold F_l32DirBack_b0 at hz_17
              refine aw_keep _ hH ?_
              refine aw_wkN rfl 5 0 rfl rfl ?_
              refine aw_seq ?_
              refine aw_seq ?_
              refine aw_region (by decide) ?_
              refine rts _ rfl (opD_move (os rfl (os rfl (os rfl oz)))) ?_
              refine rts _ rfl (opD_lss lz (ev_const _ _)) ?_
              refine .nil ?_
              refine aw_keep [(3, _), (5, _), (10, _), (14, _), (113, _)] ⟨lg (ls rfl (ls rfl oz)), lg (ls rfl (ls rfl (os rfl oz))), lg (ls rfl (ls rfl (os rfl (os rfl oz)))), lg (ls rfl (ls rfl (os rfl (os rfl (os rfl oz))))), lg lz, trivial⟩ ?_
              refine aw_cond _ (os rfl (os rfl (os rfl (os rfl oz)))) (fun hc => ?_) (fun hc => ?_)
              · skip
                replace hz_17 := ifb_t hz_17 hc
                clear hc
                refine aw_skip ?_
                refine aw_keep [(3, _), (5, _), (10, _), (14, _)] ⟨lg oz, lg (os rfl oz), lg (os rfl (os rfl oz)), lg (os rfl (os rfl (os rfl oz))), trivial⟩ ?_
                refine aw_seq ?_
                refine aw_block ?_
                refine aw_seq ?_
                refine aw_flat mixed_W7 (by decide +kernel) ?_
                refine zts _ rfl (opD_move (os rfl (os rfl (os rfl oz)))) ?_
                refine zts _ rfl (opD_fieldAddr fo86_3_W7 (ls rfl (os rfl (os rfl oz)))) ?_
                replace hz_17 := grd_some hz_17
                obtain ⟨hg_274, hz_17⟩ := hz_17
                refine zts _ rfl (opD_indexAddr_arr (i := t_16.toNat) Tryd.underlying82 sz81_W7 lz (ls rfl lz) hg_274.eq hg_274.2) ?_
                refine zts _ rfl (opD_fieldAddr fo81_0_W7 lz) ?_
                refine zts _ rfl (opD_load_one ag56_W7 lz (loc_getN rfl rfl) ((kDir_e_L _ (j := 0) hg_274.2 (by decide)).trans rfl)) ?_
                refine zts _ rfl (opD_move (ls rfl (ls rfl (ls rfl (ls rfl (ls rfl (os rfl (os rfl (os rfl oz))))))))) ?_
                refine zts _ rfl (opD_fieldAddr fo86_3_W7 (ls rfl (ls rfl (ls rfl (ls rfl (ls rfl (ls rfl (os rfl oz)))))))) ?_
                replace hz_17 := grd_some hz_17
                obtain ⟨hg_275, hz_17⟩ := hz_17
                refine zts _ rfl (opD_indexAddr_arr (i := t_16.toNat) Tryd.underlying82 sz81_W7 lz (ls rfl lz) hg_275.eq hg_275.2) ?_
                refine zts _ rfl (opD_fieldAddr fo81_0_W7 lz) ?_
                refine zts _ rfl (opD_load_one ag56_W7 lz (loc_getN rfl rfl) ((kDir_e_L _ (j := 0) hg_275.2 (by decide)).trans rfl)) ?_
                refine zts _ rfl (opD_neq (ls rfl (ls rfl (ls rfl (ls rfl (ls rfl lz))))) lz) ?_
                refine zts _ rfl (opD_move lz) ?_
                refine ztg _ rfl lz (fun hg18_12_276 => opD_move (ls rfl (ls rfl (ls rfl (ls rfl (ls rfl (ls rfl (ls rfl (ls rfl (ls rfl (ls rfl (ls rfl (ls rfl (os rfl (os rfl (os rfl oz)))))))))))))))) ?_
                refine ztg _ rfl (ls rfl lz) (fun hg18_13_277 => opD_fieldAddr fo86_3_W7 (ls rfl (ls rfl (ls rfl (ls rfl (ls rfl (ls rfl (ls rfl (ls rfl (ls rfl (ls rfl (ls rfl (ls rfl (ls rfl (os rfl (os rfl oz)))))))))))))))) ?_
                replace hz_17 := grd_some hz_17
                obtain ⟨hg_279, hz_17⟩ := hz_17
                refine ztg _ rfl (ls rfl (ls rfl lz)) (fun hg18_14_278 => opD_indexAddr_arr (i := t_16.toNat) Tryd.underlying82 sz81_W7 (lz.trans (pif_pos hg18_14_278)) ((ls rfl lz).trans (pif_pos hg18_14_278)) (hg_279 hg18_14_278).eq (hg_279 hg18_14_278).2) ?_
                refine ztg _ rfl (ls rfl (ls rfl (ls rfl lz))) (fun hg18_15_280 => opD_fieldAddr fo81_1_W7 (lz.trans (pif_pos hg18_15_280))) ?_
                refine ztg _ rfl (ls rfl (ls rfl (ls rfl (ls rfl lz)))) (fun hg18_16_281 => opD_load_one ag56_W7 (lz.trans (pif_pos hg18_16_281)) (loc_getN rfl rfl) ((kDir_e_L _ (j := 1) (hg_279 hg18_16_281).2 (by decide)).trans rfl)) ?_
                refine ztg _ rfl (ls rfl (ls rfl (ls rfl (ls rfl (ls rfl lz))))) (fun hg18_17_282 => opD_move (ls rfl (ls rfl (ls rfl (ls rfl (ls rfl (ls rfl (ls rfl (ls rfl (ls rfl (ls rfl (ls rfl (ls rfl (ls rfl (ls rfl (ls rfl (ls rfl (ls rfl (os rfl (os rfl (os rfl oz))))))))))))))))))))) ?_
                refine ztg _ rfl (ls rfl (ls rfl (ls rfl (ls rfl (ls rfl (ls rfl lz)))))) (fun hg18_18_283 => opD_fieldAddr fo86_3_W7 (ls rfl (ls rfl (ls rfl (ls rfl (ls rfl (ls rfl (ls rfl (ls rfl (ls rfl (ls rfl (ls rfl (ls rfl (ls rfl (ls rfl (ls rfl (ls rfl (ls rfl (ls rfl (os rfl oz)))))))))))))))))))) ?_
                replace hz_17 := grd_some hz_17
                obtain ⟨hg_285, hz_17⟩ := hz_17
                refine ztg _ rfl (ls rfl (ls rfl (ls rfl (ls rfl (ls rfl (ls rfl (ls rfl lz))))))) (fun hg18_19_284 => opD_indexAddr_arr (i := t_16.toNat) Tryd.underlying82 sz81_W7 (lz.trans (pif_pos hg18_19_284)) ((ls rfl lz).trans (pif_pos hg18_19_284)) (hg_285 hg18_19_284).eq (hg_285 hg18_19_284).2) ?_
                refine ztg _ rfl (ls rfl (ls rfl (ls rfl (ls rfl (ls rfl (ls rfl (ls rfl (ls rfl lz)))))))) (fun hg18_20_286 => opD_fieldAddr fo81_1_W7 (lz.trans (pif_pos hg18_20_286))) ?_
                refine ztg _ rfl (ls rfl (ls rfl (ls rfl (ls rfl (ls rfl (ls rfl (ls rfl (ls rfl (ls rfl lz))))))))) (fun hg18_21_287 => opD_load_one ag56_W7 (lz.trans (pif_pos hg18_21_287)) (loc_getN rfl rfl) ((kDir_e_L _ (j := 1) (hg_285 hg18_21_287).2 (by decide)).trans rfl)) ?_
                refine ztg _ rfl (ls rfl (ls rfl (ls rfl (ls rfl (ls rfl (ls rfl (ls rfl (ls rfl (ls rfl (ls rfl lz)))))))))) (fun hg18_22_288 => opD_neq ((ls rfl (ls rfl (ls rfl (ls rfl (ls rfl lz))))).trans (pif_pos hg18_22_288)) (lz.trans (pif_pos hg18_22_288))) ?_
                refine zts _ rfl (opD_or (ls rfl (ls rfl (ls rfl (ls rfl (ls rfl (ls rfl (ls rfl (ls rfl (ls rfl (ls rfl (ls rfl lz))))))))))) lz) ?_
                refine zts _ rfl (opD_move lz) ?_
                refine ztg _ rfl lz (fun hg18_25_289 => opD_move (ls rfl (ls rfl (ls rfl (ls rfl (ls rfl (ls rfl (ls rfl (ls rfl (ls rfl (ls rfl (ls rfl (ls rfl (ls rfl (ls rfl (ls rfl (ls rfl (ls rfl (ls rfl (ls rfl (ls rfl (ls rfl (ls rfl (ls rfl (ls rfl (ls rfl (os rfl (os rfl (os rfl oz))))))))))))))))))))))))))))) ?_
                refine ztg _ rfl (ls rfl lz) (fun hg18_26_290 => opD_fieldAddr fo86_3_W7 (ls rfl (ls rfl (ls rfl (ls rfl (ls rfl (ls rfl (ls rfl (ls rfl (ls rfl (ls rfl (ls rfl (ls rfl (ls rfl (ls rfl (ls rfl (ls rfl (ls rfl (ls rfl (ls rfl (ls rfl (ls rfl (ls rfl (ls rfl (ls rfl (ls rfl (ls rfl (os rfl (os rfl oz))))))))))))))))))))))))))))) ?_
                replace hz_17 := grd_some hz_17
                obtain ⟨hg_292, hz_17⟩ := hz_17
                refine ztg _ rfl (ls rfl (ls rfl lz)) (fun hg18_27_291 => opD_indexAddr_arr (i := t_16.toNat) Tryd.underlying82 sz81_W7 (lz.trans (pif_pos hg18_27_291)) ((ls rfl lz).trans (pif_pos hg18_27_291)) (hg_292 hg18_27_291).eq (hg_292 hg18_27_291).2) ?_
                refine ztg _ rfl (ls rfl (ls rfl (ls rfl lz))) (fun hg18_28_293 => opD_fieldAddr fo81_2_W7 (lz.trans (pif_pos hg18_28_293))) ?_
                refine ztg _ rfl (ls rfl (ls rfl (ls rfl (ls rfl lz)))) (fun hg18_29_294 => opD_load_one ag79_W7 (lz.trans (pif_pos hg18_29_294)) (loc_getN rfl rfl) ((kDir_e_L _ (j := 2) (hg_292 hg18_29_294).2 (by decide)).trans rfl)) ?_
                replace hz_17 := bnd_some hz_17
                obtain ⟨x_18, hx_18, hz_17⟩ := hz_17
                refine ztg _ rfl (ls rfl (ls rfl (ls rfl (ls rfl (ls rfl lz))))) (fun hg18_30_295 => opD_pure ht43_W7 (c_xMany (gif_some hx_18 hg18_30_295)) ⟨le_of_eq (lz.trans (pif_pos hg18_30_295)), trivial⟩) ?_
                refine ztg _ rfl (ls rfl (ls rfl (ls rfl (ls rfl (ls rfl (ls rfl lz)))))) (fun hg18_31_296 => opD_move (ls rfl (ls rfl (ls rfl (ls rfl (ls rfl (ls rfl (ls rfl (ls rfl (ls rfl (ls rfl (ls rfl (ls rfl (ls rfl (ls rfl (ls rfl (ls rfl (ls rfl (ls rfl (ls rfl (ls rfl (ls rfl (ls rfl (ls rfl (ls rfl (ls rfl (ls rfl (ls rfl (ls rfl (ls rfl (ls rfl (ls rfl (os rfl (os rfl (os rfl oz))))))))))))))))))))))))))))))))))) ?_
                refine ztg _ rfl (ls rfl (ls rfl (ls rfl (ls rfl (ls rfl (ls rfl (ls rfl lz))))))) (fun hg18_32_297 => opD_fieldAddr fo86_3_W7 (ls rfl (ls rfl (ls rfl (ls rfl (ls rfl (ls rfl (ls rfl (ls rfl (ls rfl (ls rfl (ls rfl (ls rfl (ls rfl (ls rfl (ls rfl (ls rfl (ls rfl (ls rfl (ls rfl (ls rfl (ls rfl (ls rfl (ls rfl (ls rfl (ls rfl (ls rfl (ls rfl (ls rfl (ls rfl (ls rfl (ls rfl (ls rfl (os rfl oz)))))))))))))))))))))))))))))))))) ?_
                replace hz_17 := grd_some hz_17
                obtain ⟨hg_299, hz_17⟩ := hz_17
                refine ztg _ rfl (ls rfl (ls rfl (ls rfl (ls rfl (ls rfl (ls rfl (ls rfl (ls rfl lz)))))))) (fun hg18_33_298 => opD_indexAddr_arr (i := t_16.toNat) Tryd.underlying82 sz81_W7 (lz.trans (pif_pos hg18_33_298)) ((ls rfl lz).trans (pif_pos hg18_33_298)) (hg_299 hg18_33_298).eq (hg_299 hg18_33_298).2) ?_
                refine ztg _ rfl (ls rfl (ls rfl (ls rfl (ls rfl (ls rfl (ls rfl (ls rfl (ls rfl (ls rfl lz))))))))) (fun hg18_34_300 => opD_fieldAddr fo81_2_W7 (lz.trans (pif_pos hg18_34_300))) ?_
                refine ztg _ rfl (ls rfl (ls rfl (ls rfl (ls rfl (ls rfl (ls rfl (ls rfl (ls rfl (ls rfl (ls rfl lz)))))))))) (fun hg18_35_301 => opD_load_one ag79_W7 (lz.trans (pif_pos hg18_35_301)) (loc_getN rfl rfl) ((kDir_e_L _ (j := 2) (hg_299 hg18_35_301).2 (by decide)).trans rfl)) ?_
                replace hz_17 := bnd_some hz_17
                obtain ⟨x_19, hx_19, hz_17⟩ := hz_17
                refine ztg _ rfl (ls rfl (ls rfl (ls rfl (ls rfl (ls rfl (ls rfl (ls rfl (ls rfl (ls rfl (ls rfl (ls rfl lz))))))))))) (fun hg18_36_302 => opD_pure ht43_W7 (c_xMany (gif_some hx_19 hg18_36_302)) ⟨le_of_eq (lz.trans (pif_pos hg18_36_302)), trivial⟩) ?_
                refine ztg _ rfl (ls rfl (ls rfl (ls rfl (ls rfl (ls rfl (ls rfl (ls rfl (ls rfl (ls rfl (ls rfl (ls rfl (ls rfl lz)))))))))))) (fun hg18_37_303 => opD_neq ((ls rfl (ls rfl (ls rfl (ls rfl (ls rfl (ls rfl lz)))))).trans (pif_pos hg18_37_303)) (lz.trans (pif_pos hg18_37_303))) ?_
                refine zts _ rfl (opD_or (ls rfl (ls rfl (ls rfl (ls rfl (ls rfl (ls rfl (ls rfl (ls rfl (ls rfl (ls rfl (ls rfl (ls rfl (ls rfl lz))))))))))))) lz) ?_
                refine .nil ?_
                refine aw_keep [(3, _), (5, _), (10, _), (14, _), (154, _)] ⟨lg (ls rfl (ls rfl (ls rfl (ls rfl (ls rfl (ls rfl (ls rfl (ls rfl (ls rfl (ls rfl (ls rfl (ls rfl (ls rfl (ls rfl (ls rfl (ls rfl (ls rfl (ls rfl (ls rfl (ls rfl (ls rfl (ls rfl (ls rfl (ls rfl (ls rfl (ls rfl (ls rfl (ls rfl (ls rfl (ls rfl (ls rfl (ls rfl (ls rfl (ls rfl (ls rfl (ls rfl (ls rfl (ls rfl (ls rfl oz))))))))))))))))))))))))))))))))))))))), lg (ls rfl (ls rfl (ls rfl (ls rfl (ls rfl (ls rfl (ls rfl (ls rfl (ls rfl (ls rfl (ls rfl (ls rfl (ls rfl (ls rfl (ls rfl (ls rfl (ls rfl (ls rfl (ls rfl (ls rfl (ls rfl (ls rfl (ls rfl (ls rfl (ls rfl (ls rfl (ls rfl (ls rfl (ls rfl (ls rfl (ls rfl (ls rfl (ls rfl (ls rfl (ls rfl (ls rfl (ls rfl (ls rfl (ls rfl (os rfl oz)))))))))))))))))))))))))))))))))))))))), lg (ls rfl (ls rfl (ls rfl (ls rfl (ls rfl (ls rfl (ls rfl (ls rfl (ls rfl (ls rfl (ls rfl (ls rfl (ls rfl (ls rfl (ls rfl (ls rfl (ls rfl (ls rfl (ls rfl (ls rfl (ls rfl (ls rfl (ls rfl (ls rfl (ls rfl (ls rfl (ls rfl (ls rfl (ls rfl (ls rfl (ls rfl (ls rfl (ls rfl (ls rfl (ls rfl (ls rfl (ls rfl (ls rfl (ls rfl (os rfl (os rfl oz))))))))))))))))))))))))))))))))))))))))), lg (ls rfl (ls rfl (ls rfl (ls rfl (ls rfl (ls rfl (ls rfl (ls rfl (ls rfl (ls rfl (ls rfl (ls rfl (ls rfl (ls rfl (ls rfl (ls rfl (ls rfl (ls rfl (ls rfl (ls rfl (ls rfl (ls rfl (ls rfl (ls rfl (ls rfl (ls rfl (ls rfl (ls rfl (ls rfl (ls rfl (ls rfl (ls rfl (ls rfl (ls rfl (ls rfl (ls rfl (ls rfl (ls rfl (ls rfl (os rfl (os rfl (os rfl oz)))))))))))))))))))))))))))))))))))))))))), lg lz, trivial⟩ ?_
                refine aw_cond _ (os rfl (os rfl (os rfl (os rfl oz)))) (fun hc => ?_) (fun hc => ?_)
                · skip
                  replace hz_17 := ifb_t hz_17 hc
                  clear hc
                  refine aw_seq ?_
                  refine aw_region (by decide) ?_
                  refine rts _ rfl (opD_assign (ev_const _ _)) ?_
                  refine .nil ?_
                  refine aw_keep [(4, _)] ⟨lg lz, trivial⟩ ?_
                  refine aw_ret ?_
                  obtain rfl := some_of hz_17
                  replace hz_8 := ocs_r hz_8
                  obtain rfl := some_of hz_8
                  replace h0 := ocs_l h0
                  refine wk_no ?_
                  refine wk_no ?_
                  obtain rfl := some_of h0
                  exact done_ext (.inr rfl) ((res_one rfl (it_tmp oz)).le zLr) zPb
                · skip
                  replace hz_17 := ifb_f hz_17 hc
                  clear hc
                  refine aw_skip ?_
                  refine aw_keep [(3, _), (5, _), (10, _), (14, _)] ⟨lg oz, lg (os rfl oz), lg (os rfl (os rfl oz)), lg (os rfl (os rfl (os rfl oz))), trivial⟩ ?_
                  refine aw_region (by decide) ?_
                  refine rts _ rfl (opD_move (os rfl (os rfl (os rfl oz)))) ?_
                  refine rts _ rfl (opD_add lz (ev_const _ _) rfl) ?_
                  refine rts _ rfl (opD_assign lz) ?_
                  refine .nil ?_
                  obtain rfl := some_of hz_17
                  replace hz_8 := ocs_l hz_8
                  refine wk_yesN rfl (l := [(3, ptr (s.boxes.length + 1) 0), (5, ptr (s.boxes.length + 2) 0), (10, ptr (s.boxes.length + 4) 0), (14, pl (.int .i64 (IntKind.i64.wrap (t_16 + 1))))]) (bs' := [⟨106, (kDirr.cs p0)⟩, ⟨108, [pl (.int .u64 p1.A), pl (.int .u64 p1.B), pl (.int .i64 p1.Pages), pl (.bool p1.See)]⟩, ⟨86, (kDir.cs x_1)⟩, ⟨86, (kDir.cs x_7.1)⟩, ⟨86, (kDir.cs x_9.1)⟩]) ⟨le_of_eq (eg (ls rfl (ls rfl (ls rfl oz)))), le_of_eq (eg (ls rfl (ls rfl (ls rfl (os rfl oz))))), le_of_eq (eg (ls rfl (ls rfl (ls rfl (os rfl (os rfl oz)))))), le_of_eq (eg lz), trivial⟩ (zbc (ptr_bnd _ (by first | omega | (simp only [List.length_append, List.length_cons, List.length_nil]; omega))) (zbc (ptr_bnd _ (by first | omega | (simp only [List.length_append, List.length_cons, List.length_nil]; omega))) (zbc (ptr_bnd _ (by first | omega | (simp only [List.length_append, List.length_cons, List.length_nil]; omega))) (zbc zPb bnd_nil)))) (zNb rfl) (by simp only [znz] <;> rfl) (bxle_same (bxle_same (bxle_same (bxle_same (bxle_same bxle_nil))))) rfl (by simp only [znz] <;> rfl) (bl_cons (kb_Dirr _ _ _) (bl_cons (zbc zPb (zbc zPb (zbc zPb (zbc zPb bnd_nil)))) (bl_cons (kb_Dir _ _ _) (bl_cons (kb_Dir _ _ _) (bl_cons (kb_Dir _ _ _) bl_nil))))) ?_
                  exact ⟨m_z_17, Nat.lt_succ_self _, IntKind.i64.wrap (t_16 + 1), ⟨le_of_eq (eg oz), le_of_eq (eg (os rfl oz)), le_of_eq (eg (os rfl (os rfl oz))), le_of_eq (eg (os rfl (os rfl (os rfl oz)))), trivial⟩, rfl, hz_8⟩
              · skip
                replace hz_17 := ifb_f hz_17 hc
                clear hc
                refine aw_exit ?_
                obtain rfl := some_of hz_17
                replace hz_8 := ocs_r hz_8
                refine wk_no ?_
                refine wk_yesN rfl (l := [(3, ptr (s.boxes.length + 1) 0), (5, ptr (s.boxes.length + 2) 0)]) (bs' := [⟨106, (kDirr.cs p0)⟩, ⟨108, [pl (.int .u64 p1.A), pl (.int .u64 p1.B), pl (.int .i64 p1.Pages), pl (.bool p1.See)]⟩, ⟨86, (kDir.cs x_1)⟩, ⟨86, (kDir.cs x_7.1)⟩]) ⟨le_of_eq (eg oz), le_of_eq (eg (os rfl oz)), trivial⟩ (zbc (ptr_bnd _ (by first | omega | (simp only [List.length_append, List.length_cons, List.length_nil]; omega))) (zbc (ptr_bnd _ (by first | omega | (simp only [List.length_append, List.length_cons, List.length_nil]; omega))) bnd_nil)) (zNb rfl) (by simp only [znz] <;> rfl) (bxle_same (bxle_same (bxle_same (bxle_same bxle_nil)))) rfl (by simp only [znz] <;> rfl) (bl_cons (kb_Dirr _ _ _) (bl_cons (zbc zPb (zbc zPb (zbc zPb (zbc zPb bnd_nil)))) (bl_cons (kb_Dir _ _ _) (bl_cons (kb_Dir _ _ _) bl_nil)))) ?_
                exact ⟨(), ⟨le_of_eq (eg oz), le_of_eq (eg (os rfl oz)), trivial⟩, rfl, some_of hz_8⟩
        · skip
          replace hz_8 := ifb_f hz_8 hc
          clear hc
          refine aw_skip ?_
          refine wk_yesN rfl (l := [(3, ptr (s.boxes.length + 1) 0), (5, ptr (s.boxes.length + 2) 0)]) (bs' := [⟨106, (kDirr.cs p0)⟩, ⟨108, [pl (.int .u64 p1.A), pl (.int .u64 p1.B), pl (.int .i64 p1.Pages), pl (.bool p1.See)]⟩, ⟨86, (kDir.cs x_1)⟩, ⟨86, (kDir.cs x_7.1)⟩]) ⟨le_of_eq (eg oz), le_of_eq (eg (os rfl oz)), trivial⟩ (zbc (ptr_bnd _ (by first | omega | (simp only [List.length_append, List.length_cons, List.length_nil]; omega))) (zbc (ptr_bnd _ (by first | omega | (simp only [List.length_append, List.length_cons, List.length_nil]; omega))) bnd_nil)) (zNb rfl) (by simp only [znz] <;> rfl) (bxle_same (bxle_same (bxle_same (bxle_same bxle_nil)))) rfl (by simp only [znz] <;> rfl) (bl_cons (kb_Dirr _ _ _) (bl_cons (zbc zPb (zbc zPb (zbc zPb (zbc zPb bnd_nil)))) (bl_cons (kb_Dir _ _ _) (bl_cons (kb_Dir _ _ _) bl_nil)))) ?_
          exact ⟨(), ⟨le_of_eq (eg oz), le_of_eq (eg (os rfl oz)), trivial⟩, rfl, some_of hz_8⟩
      · rintro e st ⟨vz_8, hH, rfl, rfl⟩
        refine aw_keep _ hH ?_
        replace h0 := ocs_r h0
        refine aw_keep [(3, _), (5, _)] ⟨lg oz, lg (os rfl oz), trivial⟩ ?_
        refine aw_seq ?_
        refine aw_region (by decide) ?_
        refine rts _ rfl (opD_load_aggX ag86_W7 sz86_W7 (os rfl oz) (loc_getN rfl rfl) (by rw [kDir_len]; exact Nat.le_refl _) (kDir_full _)) ?_
        refine rts _ rfl (opD_fieldAddr fo108_0_W7 (ls rfl oz)) ?_
        refine rts _ rfl (opD_load_one ag56_W7 lz (loc_getN rfl rfl) rfl) ?_
        replace h0 := bnd_some h0
        obtain ⟨x_20, hx_20, h0⟩ := h0
        refine rts _ rfl (opD_pure ht42_W7 (c_dPlace hx_20) ⟨le_of_eq (ls rfl (ls rfl lz)), le_of_eq lz, trivial⟩) ?_
        refine rts _ rfl (opD_move lz) ?_
        refine rts _ rfl (opD_extract lz rfl) ?_
        refine rts _ rfl (opD_extract (ls rfl lz) rfl) ?_
        refine rts _ rfl (opD_assign (ls rfl lz)) ?_
        refine rts _ rfl (opD_assign (ls rfl lz)) ?_
        refine .nil ?_
        refine aw_keep [(3, _), (5, _), (15, _), (16, _)] ⟨lg (ls rfl (ls rfl (ls rfl (ls rfl (ls rfl (ls rfl (ls rfl (ls rfl (ls rfl oz))))))))), lg (ls rfl (ls rfl (ls rfl (ls rfl (ls rfl (ls rfl (ls rfl (ls rfl (ls rfl (os rfl oz)))))))))), lg (ls rfl lz), lg lz, trivial⟩ ?_
        refine aw_seq ?_
        refine aw_region (by decide) ?_
        refine rts _ rfl (opD_load_aggX ag86_W7 sz86_W7 (os rfl oz) (loc_getN rfl rfl) (by rw [kDir_len]; exact Nat.le_refl _) (kDir_full _)) ?_
        refine rts _ rfl (opD_fieldAddr fo108_0_W7 (ls rfl oz)) ?_
        refine rts _ rfl (opD_load_one ag56_W7 lz (loc_getN rfl rfl) rfl) ?_
        refine rts _ rfl (opD_fieldAddr fo108_2_W7 (ls rfl (ls rfl (ls rfl oz)))) ?_
        refine rts _ rfl (opD_load_one ag3_W7 lz (loc_getN rfl rfl) rfl) ?_
        replace h0 := bnd_some h0
        obtain ⟨x_21, hx_21, h0⟩ := h0
        refine rts _ rfl (opD_pure ht46_W7 (c_dGrow hx_21) ⟨le_of_eq (ls rfl (ls rfl (ls rfl (ls rfl lz)))), le_of_eq (ls rfl (ls rfl lz)), le_of_eq lz, trivial⟩) ?_
        refine rts _ rfl (opD_move lz) ?_
        refine rts _ rfl (opD_extract lz rfl) ?_
        refine rts _ rfl (opD_extract (ls rfl lz) rfl) ?_
        refine rts _ rfl (opD_wkN rfl (allocN (bs' := [⟨106, (kDirr.cs p0)⟩, ⟨108, [pl (.int .u64 p1.A), pl (.int .u64 p1.B), pl (.int .i64 p1.Pages), pl (.bool p1.See)]⟩, ⟨86, (kDir.cs x_1)⟩, ⟨86, (kDir.cs x_7.1)⟩, ⟨86, zl1⟩]) rfl zt86_W7 (by first | exact List.length_nil | (simp only [List.length_cons, List.length_nil, Nat.zero_add, Nat.reduceAdd] <;> rfl)) (by simp only [znz] <;> rfl)) (bxle_same (bxle_same (bxle_same (bxle_same (bxle_cons (B := ⟨86, zl1⟩) (C := ⟨86, kDir.cs (default : Dir)⟩) (@Eq.refl TypeId 86) kDir_zero bxle_nil))))) (bl_cons (kb_Dirr _ _ _) (bl_cons (zbc zPb (zbc zPb (zbc zPb (zbc zPb bnd_nil)))) (bl_cons (kb_Dir _ _ _) (bl_cons (kb_Dir _ _ _) (bl_cons (kb_Dir _ _ _) bl_nil)))))) ?_
        refine rts _ rfl (storeAN (cs' := kDir.cs x_21.1) rfl sz86_W7 lz (ls rfl (ls rfl lz)) (fun p_ h_ => kDir.one _ p_ h_) rfl (kDir_len _) (by rw [kDir_len]; exact Nat.le_refl _) (by intro h_; have := congrArg List.length h_; rw [kDir_len] at this; cases this) (kb_Dir _ _ _) (kDir_put _ _) (by simp only [znz] <;> rfl)) ?_
        refine rts _ rfl (opD_assign (lx (ls rfl lz))) ?_
        refine .nil ?_
        refine aw_keep [(3, _), (5, _), (15, _), (16, _), (17, _), (18, _)] ⟨lg (ls rfl (lx (ls rfl (ls rfl (ls rfl (ls rfl (ls rfl (ls rfl (ls rfl (ls rfl (ls rfl (ls rfl oz)))))))))))), lg (ls rfl (lx (ls rfl (ls rfl (ls rfl (ls rfl (ls rfl (ls rfl (ls rfl (ls rfl (ls rfl (ls rfl (os rfl oz))))))))))))), lg (ls rfl (lx (ls rfl (ls rfl (ls rfl (ls rfl (ls rfl (ls rfl (ls rfl (ls rfl (ls rfl (ls rfl (os rfl (os rfl oz)))))))))))))), lg (ls rfl (lx (ls rfl (ls rfl (ls rfl (ls rfl (ls rfl (ls rfl (ls rfl (ls rfl (ls rfl (ls rfl (os rfl (os rfl (os rfl oz))))))))))))))), lg (ls rfl (lx lz)), lg lz, trivial⟩ ?_
        refine aw_seq ?_
        refine aw_seq ?_
        refine aw_region (by decide) ?_
        refine rts _ rfl (opD_move (os rfl (os rfl (os rfl (os rfl (os rfl oz)))))) ?_
        refine rts _ rfl (opD_bin lz (ev_const _ _) (fun w => errV_guard _ w _) (fun w => errV_beq _ w)) ?_
        refine .nil ?_
        refine aw_keep [(3, _), (5, _), (15, _), (16, _), (17, _), (172, _)] ⟨lg (ls rfl (ls rfl oz)), lg (ls rfl (ls rfl (os rfl oz))), lg (ls rfl (ls rfl (os rfl (os rfl oz)))), lg (ls rfl (ls rfl (os rfl (os rfl (os rfl oz))))), lg (ls rfl (ls rfl (os rfl (os rfl (os rfl (os rfl oz)))))), lg lz, trivial⟩ ?_
        refine aw_cond _ (os rfl (os rfl (os rfl (os rfl (os rfl oz))))) (fun hc => ?_) (fun hc => ?_)
        · skip
          replace h0 := ifb_t h0 hc
          clear hc
          refine aw_seq ?_
          refine aw_region (by decide) ?_
          replace h0 := bnd_some h0
          obtain ⟨x_22, hx_22, h0⟩ := h0
          refine rts _ rfl (opD_call ht51_W7 (c_l32sure hx_22 hst) trivial) ?_
          refine rts _ rfl (opD_assign lz) ?_
          refine .nil ?_
          refine aw_keep [(4, _)] ⟨lg lz, trivial⟩ ?_
          refine aw_ret ?_
          obtain rfl := some_of h0
          exact done_ext (.inr rfl) ((res_one rfl (it_tmp oz)).le zLr) zPb
        · skip
          replace h0 := ifb_f h0 hc
          clear hc
          refine aw_skip ?_
          refine aw_keep [(3, _), (5, _), (15, _), (16, _), (17, _)] ⟨lg oz, lg (os rfl oz), lg (os rfl (os rfl oz)), lg (os rfl (os rfl (os rfl oz))), lg (os rfl (os rfl (os rfl (os rfl oz)))), trivial⟩ ?_
          refine aw_seq ?_
          refine aw_seq ?_
          refine aw_flat mixed_W7 (by decide +kernel) ?_
          refine zts _ rfl (opD_move (os rfl (os rfl (os rfl oz)))) ?_
          refine zts _ rfl (opD_bin lz (ev_const _ _) (fun w => errV_guard _ w _) (fun w => errV_beq _ w)) ?_
          refine zts _ rfl (opD_move lz) ?_
          refine ztg _ rfl lz (fun hg24_3_322 => opD_move (ls rfl (ls rfl (ls rfl (os rfl (os rfl oz)))))) ?_
          refine ztg _ rfl (ls rfl lz) (fun hg24_4_323 => opD_fieldAddr fo86_3_W7 (ls rfl (ls rfl (ls rfl (ls rfl (os rfl (os rfl (os rfl (os rfl oz))))))))) ?_
          replace h0 := grd_some h0
          obtain ⟨hg_325, h0⟩ := h0
          refine ztg _ rfl (ls rfl (ls rfl lz)) (fun hg24_5_324 => opD_indexAddr_arr (i := x_20.1.toNat) Tryd.underlying82 sz81_W7 (lz.trans (pif_pos hg24_5_324)) ((ls rfl lz).trans (pif_pos hg24_5_324)) (hg_325 hg24_5_324).eq (hg_325 hg24_5_324).2) ?_
          refine ztg _ rfl (ls rfl (ls rfl (ls rfl lz))) (fun hg24_6_326 => opD_fieldAddr fo81_2_W7 (lz.trans (pif_pos hg24_6_326))) ?_
          refine ztg _ rfl (ls rfl (ls rfl (ls rfl (ls rfl lz)))) (fun hg24_7_327 => opD_load_one ag79_W7 (lz.trans (pif_pos hg24_7_327)) (loc_getN rfl rfl) ((kDir_e_L _ (j := 2) (hg_325 hg24_7_327).2 (by decide)).trans rfl)) ?_
          replace h0 := bnd_some h0
          obtain ⟨x_23, hx_23, h0⟩ := h0
          refine ztg _ rfl (ls rfl (ls rfl (ls rfl (ls rfl (ls rfl lz))))) (fun hg24_8_328 => opD_pure ht43_W7 (c_xMany (gif_some hx_23 hg24_8_328)) ⟨le_of_eq (lz.trans (pif_pos hg24_8_328)), trivial⟩) ?_
          refine ztg _ rfl (ls rfl (ls rfl (ls rfl (ls rfl (ls rfl (ls rfl lz)))))) (fun hg24_9_329 => opD_move (ls rfl (ls rfl (ls rfl (ls rfl (ls rfl (ls rfl (ls rfl (ls rfl (ls rfl (os rfl (os rfl oz)))))))))))) ?_
          refine ztg _ rfl (ls rfl (ls rfl (ls rfl (ls rfl (ls rfl (ls rfl (ls rfl lz))))))) (fun hg24_10_330 => opD_fieldAddr fo86_3_W7 (ls rfl (ls rfl (ls rfl (ls rfl (ls rfl (ls rfl (ls rfl (ls rfl (ls rfl (ls rfl (os rfl oz)))))))))))) ?_
          replace h0 := grd_some h0
          obtain ⟨hg_332, h0⟩ := h0
          refine ztg _ rfl (ls rfl (ls rfl (ls rfl (ls rfl (ls rfl (ls rfl (ls rfl (ls rfl lz)))))))) (fun hg24_11_331 => opD_indexAddr_arr (i := x_20.1.toNat) Tryd.underlying82 sz81_W7 (lz.trans (pif_pos hg24_11_331)) ((ls rfl lz).trans (pif_pos hg24_11_331)) (hg_332 hg24_11_331).eq (hg_332 hg24_11_331).2) ?_
          refine ztg _ rfl (ls rfl (ls rfl (ls rfl (ls rfl (ls rfl (ls rfl (ls rfl (ls rfl (ls rfl lz))))))))) (fun hg24_12_333 => opD_fieldAddr fo81_2_W7 (lz.trans (pif_pos hg24_12_333))) ?_
          refine ztg _ rfl (ls rfl (ls rfl (ls rfl (ls rfl (ls rfl (ls rfl (ls rfl (ls rfl (ls rfl (ls rfl lz)))))))))) (fun hg24_13_334 => opD_load_one ag79_W7 (lz.trans (pif_pos hg24_13_334)) (loc_getN rfl rfl) ((kDir_e_L _ (j := 2) (hg_332 hg24_13_334).2 (by decide)).trans rfl)) ?_
          replace h0 := bnd_some h0
          obtain ⟨x_24, hx_24, h0⟩ := h0
          refine ztg _ rfl (ls rfl (ls rfl (ls rfl (ls rfl (ls rfl (ls rfl (ls rfl (ls rfl (ls rfl (ls rfl (ls rfl lz))))))))))) (fun hg24_14_335 => opD_pure ht43_W7 (c_xMany (gif_some hx_24 hg24_14_335)) ⟨le_of_eq (lz.trans (pif_pos hg24_14_335)), trivial⟩) ?_
          refine ztg _ rfl (ls rfl (ls rfl (ls rfl (ls rfl (ls rfl (ls rfl (ls rfl (ls rfl (ls rfl (ls rfl (ls rfl (ls rfl lz)))))))))))) (fun hg24_15_336 => opD_fieldAddr fo108_2_W7 (ls rfl (ls rfl (ls rfl (ls rfl (ls rfl (ls rfl (ls rfl (ls rfl (ls rfl (ls rfl (ls rfl (ls rfl (ls rfl (ls rfl (ls rfl oz)))))))))))))))) ?_
          refine ztg _ rfl (ls rfl (ls rfl (ls rfl (ls rfl (ls rfl (ls rfl (ls rfl (ls rfl (ls rfl (ls rfl (ls rfl (ls rfl (ls rfl lz))))))))))))) (fun hg24_16_337 => opD_load_one ag3_W7 (lz.trans (pif_pos hg24_16_337)) (loc_getN rfl rfl) rfl) ?_
          refine ztg _ rfl (ls rfl (ls rfl (ls rfl (ls rfl (ls rfl (ls rfl (ls rfl (ls rfl (ls rfl (ls rfl (ls rfl (ls rfl (ls rfl (ls rfl lz)))))))))))))) (fun hg24_17_338 => opD_add ((ls rfl (ls rfl lz)).trans (pif_pos hg24_17_338)) (lz.trans (pif_pos hg24_17_338)) rfl) ?_
          refine ztg _ rfl (ls rfl (ls rfl (ls rfl (ls rfl (ls rfl (ls rfl (ls rfl (ls rfl (ls rfl (ls rfl (ls rfl (ls rfl (ls rfl (ls rfl (ls rfl lz))))))))))))))) (fun hg24_18_339 => opD_neq ((ls rfl (ls rfl (ls rfl (ls rfl (ls rfl (ls rfl (ls rfl (ls rfl (ls rfl lz))))))))).trans (pif_pos hg24_18_339)) (lz.trans (pif_pos hg24_18_339))) ?_
          refine zts _ rfl (opD_or (ls rfl (ls rfl (ls rfl (ls rfl (ls rfl (ls rfl (ls rfl (ls rfl (ls rfl (ls rfl (ls rfl (ls rfl (ls rfl (ls rfl (ls rfl (ls rfl lz)))))))))))))))) lz) ?_
          refine .nil ?_
          refine aw_keep [(5, _), (15, _), (17, _), (193, _)] ⟨lg (ls rfl (ls rfl (ls rfl (ls rfl (ls rfl (ls rfl (ls rfl (ls rfl (ls rfl (ls rfl (ls rfl (ls rfl (ls rfl (ls rfl (ls rfl (ls rfl (ls rfl (ls rfl (ls rfl (ls rfl (os rfl oz))))))))))))))))))))), lg (ls rfl (ls rfl (ls rfl (ls rfl (ls rfl (ls rfl (ls rfl (ls rfl (ls rfl (ls rfl (ls rfl (ls rfl (ls rfl (ls rfl (ls rfl (ls rfl (ls rfl (ls rfl (ls rfl (ls rfl (os rfl (os rfl oz)))))))))))))))))))))), lg (ls rfl (ls rfl (ls rfl (ls rfl (ls rfl (ls rfl (ls rfl (ls rfl (ls rfl (ls rfl (ls rfl (ls rfl (ls rfl (ls rfl (ls rfl (ls rfl (ls rfl (ls rfl (ls rfl (ls rfl (os rfl (os rfl (os rfl (os rfl oz)))))))))))))))))))))))), lg lz, trivial⟩ ?_
          refine aw_cond _ (os rfl (os rfl (os rfl oz))) (fun hc => ?_) (fun hc => ?_)
          · skip
            replace h0 := ifb_t h0 hc
            clear hc
            refine aw_seq ?_
            refine aw_region (by decide) ?_
            refine rts _ rfl (opD_assign (ev_const _ _)) ?_
            refine .nil ?_
            refine aw_keep [(4, _)] ⟨lg lz, trivial⟩ ?_
            refine aw_ret ?_
            obtain rfl := some_of h0
            exact done_ext (.inr rfl) ((res_one rfl (it_tmp oz)).le zLr) zPb
          · skip
            replace h0 := ifb_f h0 hc
            clear hc
            refine aw_skip ?_
            refine aw_keep [(5, _), (15, _), (17, _)] ⟨lg oz, lg (os rfl oz), lg (os rfl (os rfl oz)), trivial⟩ ?_
            refine aw_seq ?_
            refine aw_seq ?_
            refine aw_flat mixed_W7 (by decide +kernel) ?_
            refine zts _ rfl (opD_move (os rfl oz)) ?_
            refine zts _ rfl (opD_fieldAddr fo86_3_W7 (ls rfl (os rfl (os rfl oz)))) ?_
            replace h0 := grd_some h0
            obtain ⟨hg_342, h0⟩ := h0
            refine zts _ rfl (opD_indexAddr_arr (i := x_20.1.toNat) Tryd.underlying82 sz81_W7 lz (ls rfl lz) hg_342.eq hg_342.2) ?_
            refine zts _ rfl (opD_fieldAddr fo81_2_W7 lz) ?_
            refine zts _ rfl (opD_load_one ag79_W7 lz (loc_getN rfl rfl) ((kDir_e_L _ (j := 2) hg_342.2 (by decide)).trans rfl)) ?_
            refine zts _ rfl (opD_len_sl Tryd.underlying79 lz) ?_
            refine zts _ rfl (opD_move (ls rfl (ls rfl (ls rfl (ls rfl (ls rfl (ls rfl (os rfl oz)))))))) ?_
            refine zts _ rfl (opD_fieldAddr fo86_3_W7 (ls rfl (ls rfl (ls rfl (ls rfl (ls rfl (ls rfl (ls rfl oz)))))))) ?_
            replace h0 := grd_some h0
            obtain ⟨hg_343, h0⟩ := h0
            refine zts _ rfl (opD_indexAddr_arr (i := x_20.1.toNat) Tryd.underlying82 sz81_W7 lz (ls rfl lz) hg_343.eq hg_343.2) ?_
            refine zts _ rfl (opD_fieldAddr fo81_2_W7 lz) ?_
            refine zts _ rfl (opD_load_one ag79_W7 lz (loc_getN rfl rfl) ((kDir_e_L _ (j := 2) hg_343.2 (by decide)).trans rfl)) ?_
            refine zts _ rfl (opD_len_sl Tryd.underlying79 lz) ?_
            refine zts _ rfl (opD_lss (ls rfl (ls rfl (ls rfl (ls rfl (ls rfl (ls rfl lz)))))) lz) ?_
            refine .nil ?_
            refine aw_keep [(5, _), (15, _), (17, _), (206, _)] ⟨lg (ls rfl (ls rfl (ls rfl (ls rfl (ls rfl (ls rfl (ls rfl (ls rfl (ls rfl (ls rfl (ls rfl (ls rfl (ls rfl oz))))))))))))), lg (ls rfl (ls rfl (ls rfl (ls rfl (ls rfl (ls rfl (ls rfl (ls rfl (ls rfl (ls rfl (ls rfl (ls rfl (ls rfl (os rfl oz)))))))))))))), lg (ls rfl (ls rfl (ls rfl (ls rfl (ls rfl (ls rfl (ls rfl (ls rfl (ls rfl (ls rfl (ls rfl (ls rfl (ls rfl (os rfl (os rfl oz))))))))))))))), lg lz, trivial⟩ ?_
            refine aw_cond _ (os rfl (os rfl (os rfl oz))) (fun hc => ?_) (fun hc => ?_)
            · skip
              replace h0 := ifb_t h0 hc
              clear hc
              refine aw_seq ?_
              refine aw_region (by decide) ?_
              refine rts _ rfl (opD_assign (ev_const _ _)) ?_
              refine .nil ?_
              refine aw_keep [(4, _)] ⟨lg lz, trivial⟩ ?_
              refine aw_ret ?_
              obtain rfl := some_of h0
              exact done_ext (.inr rfl) ((res_one rfl (it_tmp oz)).le zLr) zPb
            · skip
              replace h0 := ifb_f h0 hc
              clear hc
              refine aw_skip ?_
              refine aw_keep [(5, _), (15, _), (17, _)] ⟨lg oz, lg (os rfl oz), lg (os rfl (os rfl oz)), trivial⟩ ?_
              refine aw_seq ?_
              refine aw_seq ?_
              refine aw_region (by decide) ?_
              refine rts _ rfl (opD_assign (ev_const _ _)) ?_
              refine .nil ?_
              refine aw_keep [(5, _), (15, _), (17, _), (19, _)] ⟨lg (ls rfl oz), lg (ls rfl (os rfl oz)), lg (ls rfl (os rfl (os rfl oz))), lg lz, trivial⟩ ?_
              replace h0 := bnd_some h0
              obtain ⟨z_25, hz_25, h0⟩ := h0
              refine aw_mid (fun e st => ∃ v : Unit, Holds e [] ∧ st = s.ext [⟨106, (kDirr.cs p0)⟩, ⟨108, [pl (.int .u64 p1.A), pl (.int .u64 p1.B), pl (.int .i64 p1.Pages), pl (.bool p1.See)]⟩, ⟨86, (kDir.cs x_1)⟩, ⟨86, (kDir.cs x_7.1)⟩, ⟨86, (kDir.cs x_21.1)⟩] [] ∧ (.inr v) = z_25) ?_ ?_
              · skip
                refine aw_wkN rfl 5 0 rfl rfl ?_
                refine aw_block ?_
                refine aw_loop (fun n e st => ∃ v : Int, Holds e [(5, ptr (s.boxes.length + 2) 0), (15, pl (.int .i64 x_20.1)), (17, ptr (s.boxes.length + 4) 0), (19, pl (.int .i64 v))] ∧ st = s.ext [⟨106, (kDirr.cs p0)⟩, ⟨108, [pl (.int .u64 p1.A), pl (.int .u64 p1.B), pl (.int .i64 p1.Pages), pl (.bool p1.See)]⟩, ⟨86, (kDir.cs x_1)⟩, ⟨86, (kDir.cs x_7.1)⟩, ⟨86, (kDir.cs x_21.1)⟩] [] ∧ lp (F_l32DirBack_b1 x_1 x_20 x_21) n v = some z_25) fl ⟨0, ⟨le_of_eq (eg oz), le_of_eq (eg (os rfl oz)), le_of_eq (eg (os rfl (os rfl oz))), le_of_eq (eg (os rfl (os rfl (os rfl oz)))), trivial⟩, rfl, hz_25⟩ ?_
                rintro n e st ⟨t_26, hH, rfl, hz_25⟩
                replace hz_25 := lp_some hz_25
                obtain ⟨m_z_27, z_27, rfl, hz_27, hz_25⟩ := hz_25
                unfold F_l32DirBack_b1 at hz_27
                refine aw_keep _ hH ?_
                refine aw_wkN rfl 5 0 rfl rfl ?_
                refine aw_seq ?_
                refine aw_seq ?_
                refine aw_region (by decide) ?_
                refine rts _ rfl (opD_move (os rfl (os rfl (os rfl oz)))) ?_
                refine rts _ rfl (opD_move (ls rfl (os rfl oz))) ?_
                refine rts _ rfl (opD_fieldAddr fo86_3_W7 (ls rfl (ls rfl oz))) ?_
                replace hz_27 := grd_some hz_27
                obtain ⟨hg_359, hz_27⟩ := hz_27
                refine rts _ rfl (opD_indexAddr_arr (i := x_20.1.toNat) Tryd.underlying82 sz81_W7 lz (ls rfl lz) hg_359.eq hg_359.2) ?_
                refine rts _ rfl (opD_fieldAddr fo81_2_W7 lz) ?_
                refine rts _ rfl (opD_load_one ag79_W7 lz (loc_getN rfl rfl) ((kDir_e_L _ (j := 2) hg_359.2 (by decide)).trans rfl)) ?_
                refine rts _ rfl (opD_len_sl Tryd.underlying79 lz) ?_
                refine rts _ rfl (opD_lss (ls rfl (ls rfl (ls rfl (ls rfl (ls rfl (ls rfl lz)))))) lz) ?_
                refine .nil ?_
                refine aw_keep [(5, _), (15, _), (17, _), (19, _), (214, _)] ⟨lg (ls rfl (ls rfl (ls rfl (ls rfl (ls rfl (ls rfl (ls rfl (ls rfl oz)))))))), lg (ls rfl (ls rfl (ls rfl (ls rfl (ls rfl (ls rfl (ls rfl (ls rfl (os rfl oz))))))))), lg (ls rfl (ls rfl (ls rfl (ls rfl (ls rfl (ls rfl (ls rfl (ls rfl (os rfl (os rfl oz)))))))))), lg (ls rfl (ls rfl (ls rfl (ls rfl (ls rfl (ls rfl (ls rfl (ls rfl (os rfl (os rfl (os rfl oz))))))))))), lg lz, trivial⟩ ?_
                refine aw_cond _ (os rfl (os rfl (os rfl (os rfl oz)))) (fun hc => ?_) (fun hc => ?_)
                · skip
                  replace hz_27 := ifb_t hz_27 hc
                  clear hc
                  refine aw_skip ?_
                  refine aw_keep [(5, _), (15, _), (17, _), (19, _)] ⟨lg oz, lg (os rfl oz), lg (os rfl (os rfl oz)), lg (os rfl (os rfl (os rfl oz))), trivial⟩ ?_
                  refine aw_seq ?_
                  refine aw_block ?_
                  refine aw_seq ?_
                  refine aw_flat mixed_W7 (by decide +kernel) ?_
                  refine zts _ rfl (opD_move (os rfl oz)) ?_
                  refine zts _ rfl (opD_fieldAddr fo86_3_W7 (ls rfl (os rfl (os rfl oz)))) ?_
                  replace hz_27 := grd_some hz_27
                  obtain ⟨hg_362, hz_27⟩ := hz_27
                  refine zts _ rfl (opD_indexAddr_arr (i := x_20.1.toNat) Tryd.underlying82 sz81_W7 lz (ls rfl lz) hg_362.eq hg_362.2) ?_
                  refine zts _ rfl (opD_fieldAddr fo81_2_W7 lz) ?_
                  refine zts _ rfl (opD_load_one ag79_W7 lz (loc_getN rfl rfl) ((kDir_e_L _ (j := 2) hg_362.2 (by decide)).trans rfl)) ?_
                  refine zts _ rfl (opD_move (ls rfl (ls rfl (ls rfl (ls rfl (ls rfl (os rfl (os rfl (os rfl oz))))))))) ?_
                  replace hz_27 := ixb_some hz_27
                  obtain ⟨x_28, hx_28, hbx_28, hz_27⟩ := hz_27
                  refine zts _ rfl (opD_indexAddr_sl (i := t_26.toNat) Tryd.underlying79 sz114_W7 (ls rfl lz) lz hbx_28.2.2 hbx_28.2.1) ?_
                  refine zts _ rfl (opD_load_el_aggX (qs := [_, _]) ag114_W7 sz114_W7 lz hx_28 (zNb rfl) rfl) ?_
                  refine zts _ rfl (opD_move (ls rfl (ls rfl (ls rfl (ls rfl (ls rfl (ls rfl (ls rfl (ls rfl (os rfl oz)))))))))) ?_
                  refine zts _ rfl (opD_fieldAddr fo86_3_W7 (ls rfl (ls rfl (ls rfl (ls rfl (ls rfl (ls rfl (ls rfl (ls rfl (ls rfl oz)))))))))) ?_
                  replace hz_27 := grd_some hz_27
                  obtain ⟨hg_363, hz_27⟩ := hz_27
                  refine zts _ rfl (opD_indexAddr_arr (i := x_20.1.toNat) Tryd.underlying82 sz81_W7 lz (ls rfl lz) hg_363.eq hg_363.2) ?_
                  refine zts _ rfl (opD_fieldAddr fo81_2_W7 lz) ?_
                  refine zts _ rfl (opD_load_one ag79_W7 lz (loc_getN rfl rfl) ((kDir_e_L _ (j := 2) hg_363.2 (by decide)).trans rfl)) ?_
                  refine zts _ rfl (opD_move (ls rfl (ls rfl (ls rfl (ls rfl (ls rfl (ls rfl (ls rfl (ls rfl (ls rfl (ls rfl (ls rfl (ls rfl (ls rfl (os rfl (os rfl (os rfl oz))))))))))))))))) ?_
                  replace hz_27 := ixb_some hz_27
                  obtain ⟨x_29, hx_29, hbx_29, hz_27⟩ := hz_27
                  refine zts _ rfl (opD_indexAddr_sl (i := t_26.toNat) Tryd.underlying79 sz114_W7 (ls rfl lz) lz hbx_29.2.2 hbx_29.2.1) ?_
                  refine zts _ rfl (opD_load_el_aggX (qs := [_, _]) ag114_W7 sz114_W7 lz hx_29 (zNb rfl) rfl) ?_
                  refine zts _ rfl (opD_binA [.int .i64 x_28.From, .int .i64 x_28.Many] [.int .i64 x_29.From, .int .i64 x_29.Many] (ls rfl (ls rfl (ls rfl (ls rfl (ls rfl (ls rfl (ls rfl (ls rfl lz)))))))) lz (fun w => (eq_Stx_g _ _ _ _ _ w)) (fun w => (eq_Stx _ _ _ _ w).2)) ?_
                  refine .nil ?_
                  refine aw_keep [(5, _), (15, _), (17, _), (19, _), (233, _)] ⟨lg (ls rfl (ls rfl (ls rfl (ls rfl (ls rfl (ls rfl (ls rfl (ls rfl (ls rfl (ls rfl (ls rfl (ls rfl (ls rfl (ls rfl (ls rfl (ls rfl (ls rfl oz))))))))))))))))), lg (ls rfl (ls rfl (ls rfl (ls rfl (ls rfl (ls rfl (ls rfl (ls rfl (ls rfl (ls rfl (ls rfl (ls rfl (ls rfl (ls rfl (ls rfl (ls rfl (ls rfl (os rfl oz)))))))))))))))))), lg (ls rfl (ls rfl (ls rfl (ls rfl (ls rfl (ls rfl (ls rfl (ls rfl (ls rfl (ls rfl (ls rfl (ls rfl (ls rfl (ls rfl (ls rfl (ls rfl (ls rfl (os rfl (os rfl oz))))))))))))))))))), lg (ls rfl (ls rfl (ls rfl (ls rfl (ls rfl (ls rfl (ls rfl (ls rfl (ls rfl (ls rfl (ls rfl (ls rfl (ls rfl (ls rfl (ls rfl (ls rfl (ls rfl (os rfl (os rfl (os rfl oz)))))))))))))))))))), lg lz, trivial⟩ ?_
                  refine aw_cond _ (os rfl (os rfl (os rfl (os rfl oz)))) (fun hc => ?_) (fun hc => ?_)
                  · skip
                    replace hz_27 := ifb_t hz_27 hc
                    clear hc
                    refine aw_seq ?_
                    refine aw_region (by decide) ?_
                    refine rts _ rfl (opD_assign (ev_const _ _)) ?_
                    refine .nil ?_
                    refine aw_keep [(4, _)] ⟨lg lz, trivial⟩ ?_
                    refine aw_ret ?_
                    obtain rfl := some_of hz_27
                    replace hz_25 := ocs_r hz_25
                    obtain rfl := some_of hz_25
                    replace h0 := ocs_l h0
                    refine wk_no ?_
                    refine wk_no ?_
                    obtain rfl := some_of h0
                    exact done_ext (.inr rfl) ((res_one rfl (it_tmp oz)).le zLr) zPb
                  · skip
                    replace hz_27 := ifb_f hz_27 hc
                    clear hc
                    refine aw_skip ?_
                    refine aw_keep [(5, _), (15, _), (17, _), (19, _)] ⟨lg oz, lg (os rfl oz), lg (os rfl (os rfl oz)), lg (os rfl (os rfl (os rfl oz))), trivial⟩ ?_
                    refine aw_region (by decide) ?_
                    refine rts _ rfl (opD_move (os rfl (os rfl (os rfl oz)))) ?_
                    refine rts _ rfl (opD_add lz (ev_const _ _) rfl) ?_
                    refine rts _ rfl (opD_assign lz) ?_
                    refine .nil ?_
                    obtain rfl := some_of hz_27
                    replace hz_25 := ocs_l hz_25
                    refine wk_yesN rfl (l := [(5, ptr (s.boxes.length + 2) 0), (15, pl (.int .i64 x_20.1)), (17, ptr (s.boxes.length + 4) 0), (19, pl (.int .i64 (IntKind.i64.wrap (t_26 + 1))))]) (bs' := [⟨106, (kDirr.cs p0)⟩, ⟨108, [pl (.int .u64 p1.A), pl (.int .u64 p1.B), pl (.int .i64 p1.Pages), pl (.bool p1.See)]⟩, ⟨86, (kDir.cs x_1)⟩, ⟨86, (kDir.cs x_7.1)⟩, ⟨86, (kDir.cs x_21.1)⟩]) ⟨le_of_eq (eg (ls rfl (ls rfl (ls rfl oz)))), le_of_eq (eg (ls rfl (ls rfl (ls rfl (os rfl oz))))), le_of_eq (eg (ls rfl (ls rfl (ls rfl (os rfl (os rfl oz)))))), le_of_eq (eg lz), trivial⟩ (zbc (ptr_bnd _ (by first | omega | (simp only [List.length_append, List.length_cons, List.length_nil]; omega))) (zbc zPb (zbc (ptr_bnd _ (by first | omega | (simp only [List.length_append, List.length_cons, List.length_nil]; omega))) (zbc zPb bnd_nil)))) (zNb rfl) (by simp only [znz] <;> rfl) (bxle_same (bxle_same (bxle_same (bxle_same (bxle_same bxle_nil))))) rfl (by simp only [znz] <;> rfl) (bl_cons (kb_Dirr _ _ _) (bl_cons (zbc zPb (zbc zPb (zbc zPb (zbc zPb bnd_nil)))) (bl_cons (kb_Dir _ _ _) (bl_cons (kb_Dir _ _ _) (bl_cons (kb_Dir _ _ _) bl_nil))))) ?_
                    exact ⟨m_z_27, Nat.lt_succ_self _, IntKind.i64.wrap (t_26 + 1), ⟨le_of_eq (eg oz), le_of_eq (eg (os rfl oz)), le_of_eq (eg (os rfl (os rfl oz))), le_of_eq (eg (os rfl (os rfl (os rfl oz)))), trivial⟩, rfl, hz_25⟩
                · skip
                  replace hz_27 := ifb_f hz_27 hc
                  clear hc
                  refine aw_exit ?_
                  obtain rfl := some_of hz_27
                  replace hz_25 := ocs_r hz_25
                  refine wk_no ?_
                  refine wk_yesN rfl (l := []) (bs' := [⟨106, (kDirr.cs p0)⟩, ⟨108, [pl (.int .u64 p1.A), pl (.int .u64 p1.B), pl (.int .i64 p1.Pages), pl (.bool p1.See)]⟩, ⟨86, (kDir.cs x_1)⟩, ⟨86, (kDir.cs x_7.1)⟩, ⟨86, (kDir.cs x_21.1)⟩]) trivial bnd_nil (zNb rfl) (by simp only [znz] <;> rfl) (bxle_same (bxle_same (bxle_same (bxle_same (bxle_same bxle_nil))))) rfl (by simp only [znz] <;> rfl) (bl_cons (kb_Dirr _ _ _) (bl_cons (zbc zPb (zbc zPb (zbc zPb (zbc zPb bnd_nil)))) (bl_cons (kb_Dir _ _ _) (bl_cons (kb_Dir _ _ _) (bl_cons (kb_Dir _ _ _) bl_nil))))) ?_
                  exact ⟨(), trivial, rfl, some_of hz_25⟩
              · rintro e st ⟨vz_25, hH, rfl, rfl⟩
                refine aw_keep _ hH ?_
                replace h0 := ocs_r h0
                refine aw_keep [] trivial ?_
                refine aw_seq ?_
                refine aw_region (by decide) ?_
                replace h0 := bnd_some h0
                obtain ⟨x_30, hx_30, h0⟩ := h0
                refine rts _ rfl (opD_call ht51_W7 (c_l32sure hx_30 hst) trivial) ?_
                refine rts _ rfl (opD_assign lz) ?_
                refine .nil ?_
                refine aw_keep [(4, _)] ⟨lg lz, trivial⟩ ?_
                refine aw_ret ?_
                obtain rfl := some_of h0
                exact done_ext (.inr rfl) ((res_one rfl (it_tmp oz)).le zLr) zPb
end Go.Proofs.YtokcgacehdgkcaaDoor.Eng.A
