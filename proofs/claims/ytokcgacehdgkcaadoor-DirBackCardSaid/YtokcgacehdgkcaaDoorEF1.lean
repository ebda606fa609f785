/- EF1: what functions do, walked; used by the laws of this seat. -/
import Derived.Test.YtokcgacehdgkcaaDoorEE1
import Derived.Test.YtokcgacehdgkcaaDoorEXB
import Derived.Test.YtokcgacehdgkcaaDoorEngX4
namespace Go.Proofs.YtokcgacehdgkcaaDoor.Eng.A
set_option linter.unusedVariables false
set_option linter.unusedSimpArgs false
open Go.RowKit Go.Proofs.YtokcgacehdgkcaaDoor.Plain Go.Proofs.YtokcgacehdgkcaaDoor.Eng Go.Proofs.YtokcgacehdgkcaaDoor.Eng.Pk Go.Proofs.YtokcgacehdgkcaaDoor.Eng.Rd
abbrev zl1 : List Pd := [pl (.int .u64 0), pl (.int .u64 0), pl (.int .i64 0), pl (.int .u64 0), pl (.int .u64 0), pl (.slice none 0 0), pl (.int .u64 0), pl (.int .u64 0), pl (.slice none 0 0), pl (.int .u64 0), pl (.int .u64 0), pl (.slice none 0 0), pl (.int .u64 0), pl (.int .u64 0), pl (.slice none 0 0), pl (.int .u64 0), pl (.int .u64 0), pl (.slice none 0 0), pl (.int .u64 0), pl (.int .u64 0), pl (.slice none 0 0), pl (.int .u64 0), pl (.int .u64 0), pl (.slice none 0 0), pl (.int .u64 0), pl (.int .u64 0), pl (.slice none 0 0), pl (.int .u64 0), pl (.int .u64 0), pl (.slice none 0 0), pl (.int .u64 0), pl (.int .u64 0), pl (.slice none 0 0), pl (.int .u64 0), pl (.int .u64 0), pl (.slice none 0 0), pl (.int .u64 0), pl (.int .u64 0), pl (.slice none 0 0), pl (.int .u64 0), pl (.int .u64 0), pl (.slice none 0 0), pl (.int .u64 0), pl (.int .u64 0), pl (.slice none 0 0), pl (.int .u64 0), pl (.int .u64 0), pl (.slice none 0 0), pl (.int .u64 0), pl (.int .u64 0), pl (.slice none 0 0), pl (.int .u16 0), pl (.int .u16 0), pl (.int .u16 0), pl (.int .u16 0), pl (.int .u16 0), pl (.int .u16 0), pl (.int .u16 0), pl (.int .u16 0), pl (.int .u16 0), pl (.int .u16 0), pl (.int .u16 0), pl (.int .u16 0), pl (.int .u16 0), pl (.int .u16 0), pl (.int .u16 0), pl (.int .u16 0)]

theorem fo81_0_W6 : fieldOff Tryd.prog 81 0 = some 0 := by kernel_rfl
theorem ag56_W6 : aggT Tryd.prog 56 = some false := by kernel_rfl
theorem fo81_1_W6 : fieldOff Tryd.prog 81 1 = some 1 := by kernel_rfl
theorem fo81_2_W6 : fieldOff Tryd.prog 81 2 = some 2 := by kernel_rfl
theorem ag79_W6 : aggT Tryd.prog 79 = some false := by kernel_rfl
theorem pt114_W6 : placesT Tryd.prog 114 2 = some [(0, 1), (1, 1)] := by kernel_rfl
theorem zt114_W6 : zeroT Tryd.prog 114 = some [.int .i64 0, .int .i64 0] := by kernel_rfl
theorem sz114_W6 : sizeT Tryd.prog 114 = some 2 := by kernel_rfl
theorem fo86_3_W6 : fieldOff Tryd.prog 86 3 = some 3 := by kernel_rfl
theorem ag82_W6 : aggT Tryd.prog 82 = some true := by kernel_rfl
theorem sz82_W6 : sizeT Tryd.prog 82 = some 48 := by kernel_rfl
theorem ag81_W6 : aggT Tryd.prog 81 = some true := by kernel_rfl
theorem sz81_W6 : sizeT Tryd.prog 81 = some 3 := by kernel_rfl
theorem zt81_W6 : zeroT Tryd.prog 81 = some [.int .u64 0, .int .u64 0, .slice none 0 0] := by kernel_rfl
theorem el114_W6 : elT Tryd.prog 114 = some (2, 16) := by kernel_rfl
theorem zt86_W6 : zeroT Tryd.prog 86 = some [.int .u64 0, .int .u64 0, .int .i64 0, .int .u64 0, .int .u64 0, .slice none 0 0, .int .u64 0, .int .u64 0, .slice none 0 0, .int .u64 0, .int .u64 0, .slice none 0 0, .int .u64 0, .int .u64 0, .slice none 0 0, .int .u64 0, .int .u64 0, .slice none 0 0, .int .u64 0, .int .u64 0, .slice none 0 0, .int .u64 0, .int .u64 0, .slice none 0 0, .int .u64 0, .int .u64 0, .slice none 0 0, .int .u64 0, .int .u64 0, .slice none 0 0, .int .u64 0, .int .u64 0, .slice none 0 0, .int .u64 0, .int .u64 0, .slice none 0 0, .int .u64 0, .int .u64 0, .slice none 0 0, .int .u64 0, .int .u64 0, .slice none 0 0, .int .u64 0, .int .u64 0, .slice none 0 0, .int .u64 0, .int .u64 0, .slice none 0 0, .int .u64 0, .int .u64 0, .slice none 0 0, .int .u16 0, .int .u16 0, .int .u16 0, .int .u16 0, .int .u16 0, .int .u16 0, .int .u16 0, .int .u16 0, .int .u16 0, .int .u16 0, .int .u16 0, .int .u16 0, .int .u16 0, .int .u16 0, .int .u16 0, .int .u16 0] := by kernel_rfl
theorem ht171_W6 : hasText Tryd.prog 171 = true := by kernel_rfl
theorem sz79_W6 : sizeT Tryd.prog 79 = some 1 := by kernel_rfl
theorem ag86_W6 : aggT Tryd.prog 86 = some true := by kernel_rfl
theorem sz86_W6 : sizeT Tryd.prog 86 = some 67 := by kernel_rfl
theorem sz77_W6 : sizeT Tryd.prog 77 = some 1 := by kernel_rfl
theorem ag77_W6 : aggT Tryd.prog 77 = some false := by kernel_rfl
theorem ht134_W6 : hasText Tryd.prog 134 = true := by kernel_rfl
theorem mixed_W6 : Tryd.prog.follows .mixedOrders = true := by kernel_rfl
theorem cc145_W6 : Tryd.prog.concrete 145 = true := by kernel_rfl
theorem ag84_W6 : aggT Tryd.prog 84 = some true := by kernel_rfl
theorem sz84_W6 : sizeT Tryd.prog 84 = some 16 := by kernel_rfl
theorem ht99_W6 : hasText Tryd.prog 99 = true := by kernel_rfl
theorem ht133_W6 : hasText Tryd.prog 133 = true := by kernel_rfl
theorem ht135_W6 : hasText Tryd.prog 135 = true := by kernel_rfl
theorem zt84_W6 : zeroT Tryd.prog 84 = some [.int .u16 0, .int .u16 0, .int .u16 0, .int .u16 0, .int .u16 0, .int .u16 0, .int .u16 0, .int .u16 0, .int .u16 0, .int .u16 0, .int .u16 0, .int .u16 0, .int .u16 0, .int .u16 0, .int .u16 0, .int .u16 0] := by kernel_rfl
theorem ht94_W6 : hasText Tryd.prog 94 = true := by kernel_rfl
theorem ht91_W6 : hasText Tryd.prog 91 = true := by kernel_rfl
theorem fo86_0_W6 : fieldOff Tryd.prog 86 0 = some 0 := by kernel_rfl
theorem pt86_W6 : placesT Tryd.prog 86 5 = some [(0, 1), (1, 1), (2, 1), (3, 48), (51, 16)] := by kernel_rfl
theorem ht132_W6 : hasText Tryd.prog 132 = true := by kernel_rfl
theorem sz56_W6 : sizeT Tryd.prog 56 = some 1 := by kernel_rfl

open Go.Proofs.YtokcgacehdgkcaaDoor.Eng.Er Go.Proofs.YtokcgacehdgkcaaDoor.Eng.Er2 Go.Proofs.YtokcgacehdgkcaaDoor.Eng.Ha

structure Tenant where
  ID : Int
  Gen : Int
  Ext : (List Stx)
  deriving DecidableEq
instance : Inhabited Tenant := ⟨⟨0, 0, []⟩⟩
def kTenant : Kn Tenant := ⟨3, fun x => [pl (.int .u64 x.ID), pl (.int .u64 x.Gen), sl kStx none none x.Ext], fun _ => rfl, fun x p hp => by
  have h : ∀ p ∈ [pl (.int .u64 x.ID), pl (.int .u64 x.Gen), sl kStx none none x.Ext], Pd.One p := (ones_cons (one_pl rfl) (ones_cons (one_pl rfl) (ones_cons (one_sl _ _ _ _) ones_nil)))
  exact h p hp⟩
theorem kb_Tenant : KB kTenant := fun x n m p hp => ((zbc zPb (zbc zPb (zbc (sl_b kb_Stx) bnd_nil))) : ∀ p ∈ [pl (.int .u64 x.ID), pl (.int .u64 x.Gen), sl kStx none none x.Ext], p.Bnd n m) p hp

structure Dir where
  Seq : Int
  Gen : Int
  Pages : Int
  L : (List Tenant)
  M : (List Int)
instance : Inhabited Dir := ⟨⟨0, 0, 0, [], []⟩⟩
def kDir : Kn Dir := ⟨67, fun x => [pl (.int .u64 x.Seq), pl (.int .u64 x.Gen), pl (.int .i64 x.Pages)] ++ (arrC 16 kTenant (default : Tenant) x.L ++ (arrC 16 (kI .u16) (0 : Int) x.M ++ (([] : List Pd)))), fun x => by simp only [List.length_append, List.length_cons, List.length_nil, arrC_len] <;> rfl, fun x => (ones_app (ones_cons (one_pl rfl) (ones_cons (one_pl rfl) (ones_cons (one_pl rfl) ones_nil))) (ones_app ones_arr (ones_app ones_arr ones_nil)))⟩
theorem kb_Dir : KB kDir := fun x n m => (bnd_app (zbc zPb (zbc zPb (zbc zPb bnd_nil))) (bnd_app (bnd_arr kb_Tenant) (bnd_app (bnd_arr (kb_I _)) bnd_nil)))
theorem kDir_len (x : Dir) : (kDir.cs x).length = 67 := kDir.len x
theorem kDir_full (x : Dir) : ((kDir.cs x).drop 0).take 67 = kDir.cs x := by rw [List.drop_zero, List.take_of_length_le]; rw [kDir_len]; exact Nat.le_refl _
theorem kDir_put (x y : Dir) : (kDir.cs x).take 0 ++ kDir.cs y ++ (kDir.cs x).drop (0 + 67) = kDir.cs y := by
  rw [List.take_zero, List.nil_append, List.drop_of_length_le (by rw [kDir_len]; exact Nat.le_refl _), List.append_nil]
set_option maxRecDepth 100000 in
theorem kDir_zero : LeL zl1 (kDir.cs (default : Dir)) := ⟨Pd.le_refl _, Pd.le_refl _, Pd.le_refl _, Pd.le_refl _, Pd.le_refl _, le_nil rfl, Pd.le_refl _, Pd.le_refl _, le_nil rfl, Pd.le_refl _, Pd.le_refl _, le_nil rfl, Pd.le_refl _, Pd.le_refl _, le_nil rfl, Pd.le_refl _, Pd.le_refl _, le_nil rfl, Pd.le_refl _, Pd.le_refl _, le_nil rfl, Pd.le_refl _, Pd.le_refl _, le_nil rfl, Pd.le_refl _, Pd.le_refl _, le_nil rfl, Pd.le_refl _, Pd.le_refl _, le_nil rfl, Pd.le_refl _, Pd.le_refl _, le_nil rfl, Pd.le_refl _, Pd.le_refl _, le_nil rfl, Pd.le_refl _, Pd.le_refl _, le_nil rfl, Pd.le_refl _, Pd.le_refl _, le_nil rfl, Pd.le_refl _, Pd.le_refl _, le_nil rfl, Pd.le_refl _, Pd.le_refl _, le_nil rfl, Pd.le_refl _, Pd.le_refl _, le_nil rfl, Pd.le_refl _, Pd.le_refl _, Pd.le_refl _, Pd.le_refl _, Pd.le_refl _, Pd.le_refl _, Pd.le_refl _, Pd.le_refl _, Pd.le_refl _, Pd.le_refl _, Pd.le_refl _, Pd.le_refl _, Pd.le_refl _, Pd.le_refl _, Pd.le_refl _, Pd.le_refl _, trivial⟩
theorem kDir_a_L (x : Dir) : kDir.cs x = ([pl (.int .u64 x.Seq), pl (.int .u64 x.Gen), pl (.int .i64 x.Pages)]) ++ (arrC 16 kTenant (default : Tenant) x.L ++ (arrC 16 (kI .u16) (0 : Int) x.M ++ (([] : List Pd)))) := rfl
theorem kDir_e_L (x : Dir) {i j : Nat} (hi : i < 16) (hj : j < 3) : (kDir.cs x)[3 + i * 3 + j]? = (Kn.cs kTenant (x.L.getD i (default : Tenant)))[j]? := by
  rw [kDir_a_L]; exact seg_at (k := kTenant) (show List.length _ = 3 by simp only [List.length_append, List.length_cons, List.length_nil, arrC_len] <;> rfl) hi hj
theorem kDir_w_L (x : Dir) : ((kDir.cs x).drop 3).take 48 = flat kTenant (nrm 16 (default : Tenant) x.L) := by
  rw [kDir_a_L]; exact seg_all (A := [pl (.int .u64 x.Seq), pl (.int .u64 x.Gen), pl (.int .i64 x.Pages)]) (a := 3) (n := 16) (k := kTenant) (show List.length _ = 3 by simp only [List.length_append, List.length_cons, List.length_nil, arrC_len] <;> rfl)
theorem kDir_s_L (x : Dir) {y : Tenant} {p : Pd} {i j : Nat} (hi : i < 16) (hj : j < 3) (hp : (Kn.cs kTenant (x.L.getD i (default : Tenant))).set j p = Kn.cs kTenant y) : (kDir.cs x).set (3 + i * 3 + j) p = kDir.cs { x with L := aset 16 (default : Tenant) x.L i y } := by
  rw [kDir_a_L]; rw [kDir_a_L]; exact seg_set (k := kTenant) (show List.length _ = 3 by simp only [List.length_append, List.length_cons, List.length_nil, arrC_len] <;> rfl) hi hj hp
theorem kDir_u_L (x : Dir) {y : Tenant} {i : Nat} (hi : i < 16) : (kDir.cs x).take (3 + i * 3) ++ Kn.cs kTenant y ++ (kDir.cs x).drop (3 + i * 3 + 3) = kDir.cs { x with L := aset 16 (default : Tenant) x.L i y } := by
  rw [kDir_a_L]; rw [kDir_a_L]; exact seg_put (k := kTenant) (show List.length _ = 3 by simp only [List.length_append, List.length_cons, List.length_nil, arrC_len] <;> rfl) hi
theorem kDir_a_M (x : Dir) : kDir.cs x = ([pl (.int .u64 x.Seq), pl (.int .u64 x.Gen), pl (.int .i64 x.Pages)] ++ arrC 16 kTenant (default : Tenant) x.L) ++ (arrC 16 (kI .u16) (0 : Int) x.M ++ (([] : List Pd))) := by simp only [List.append_assoc]; rfl
theorem kDir_e_M (x : Dir) {i j : Nat} (hi : i < 16) (hj : j < 1) : (kDir.cs x)[51 + i * 1 + j]? = (Kn.cs (kI .u16) (x.M.getD i (0 : Int)))[j]? := by
  rw [kDir_a_M]; exact seg_at (k := kI .u16) (show List.length _ = 51 by simp only [List.length_append, List.length_cons, List.length_nil, arrC_len] <;> rfl) hi hj
theorem kDir_w_M (x : Dir) : ((kDir.cs x).drop 51).take 16 = flat (kI .u16) (nrm 16 (0 : Int) x.M) := by
  rw [kDir_a_M]; exact seg_all (A := [pl (.int .u64 x.Seq), pl (.int .u64 x.Gen), pl (.int .i64 x.Pages)] ++ arrC 16 kTenant (default : Tenant) x.L) (a := 51) (n := 16) (k := kI .u16) (show List.length _ = 51 by simp only [List.length_append, List.length_cons, List.length_nil, arrC_len] <;> rfl)
theorem kDir_m_M (x : Dir) {m : List Int} (hm : m.length = 16) : (kDir.cs x).take 51 ++ flat (kI .u16) m ++ (kDir.cs x).drop (51 + 16) = kDir.cs { x with M := m } := by
  rw [kDir_a_M]; rw [kDir_a_M]; exact seg_putA (A := [pl (.int .u64 x.Seq), pl (.int .u64 x.Gen), pl (.int .i64 x.Pages)] ++ arrC 16 kTenant (default : Tenant) x.L) (a := 51) (n := 16) (k := kI .u16) (show List.length _ = 51 by simp only [List.length_append, List.length_cons, List.length_nil, arrC_len] <;> rfl) hm

def F_tnone (p0 : Tenant) : Option (Bool) :=
  some (((decide (p0.ID = 0)) && (decide (p0.Gen = 0))) && (decide ((p0.Ext.length : Int) = 0)))
set_option maxRecDepth 100000 in
set_option maxHeartbeats 2000000 in
theorem c_tnone {p0 : Tenant} {R : Bool} (h0 : F_tnone p0 = some R) : Pure Tryd.prog 91 [agg [pl (.int .u64 p0.ID), pl (.int .u64 p0.Gen), sl kStx none none p0.Ext]] (pl (.bool R)) := by
  intro s
  unfold F_tnone at h0
  refine ac_of_aw s.boxes.length s.fr.length Tryd.func91 rfl (by simp [Tryd.ntmps91]) ?_
  refine aw_ext0 ?_
  refine aw_keep [(0, _)] ⟨lg ez, trivial⟩ ?_
  refine aw_seq ?_
  refine aw_region (by decide) ?_
  refine rts _ rfl (boxAN (n := 0) rfl oz (zbc zPb (zbc zPb (zbc (sl_b kb_Stx) bnd_nil))) (by first | exact List.length_nil | (simp only [List.length_cons, List.length_nil, Nat.zero_add, Nat.reduceAdd] <;> rfl)) (by simp only [znz] <;> rfl)) ?_
  refine rts _ rfl (opD_assign (ev_const _ _)) ?_
  refine .nil ?_
  refine aw_keep [(1, _)] ⟨lg (ls rfl lz), trivial⟩ ?_
  refine aw_seq ?_
  refine aw_region (by decide) ?_
  refine rts _ rfl (opD_fieldAddr fo81_0_W6 oz) ?_
  refine rts _ rfl (opD_load_one ag56_W6 lz (loc_getN rfl rfl) rfl) ?_
  refine rts _ rfl (opD_eql lz (ev_const _ _)) ?_
  refine rts _ rfl (opD_move lz) ?_
  refine rtg _ rfl lz (fun hg1_4_1 => opD_fieldAddr fo81_1_W6 (ls rfl (ls rfl (ls rfl (ls rfl oz))))) ?_
  refine rtg _ rfl (ls rfl lz) (fun hg1_5_2 => opD_load_one ag56_W6 (lz.trans (pif_pos hg1_5_2)) (loc_getN rfl rfl) rfl) ?_
  refine rtg _ rfl (ls rfl (ls rfl lz)) (fun hg1_6_3 => opD_eql (lz.trans (pif_pos hg1_6_3)) (ev_const _ _)) ?_
  refine rts _ rfl (opD_and (ls rfl (ls rfl (ls rfl lz))) lz) ?_
  refine rts _ rfl (opD_move lz) ?_
  refine rtg _ rfl lz (fun hg1_9_4 => opD_fieldAddr fo81_2_W6 (ls rfl (ls rfl (ls rfl (ls rfl (ls rfl (ls rfl (ls rfl (ls rfl (ls rfl oz)))))))))) ?_
  refine rtg _ rfl (ls rfl lz) (fun hg1_10_5 => opD_load_one ag79_W6 (lz.trans (pif_pos hg1_10_5)) (loc_getN rfl rfl) rfl) ?_
  refine rtg _ rfl (ls rfl (ls rfl lz)) (fun hg1_11_6 => opD_len_sl Tryd.underlying79 (lz.trans (pif_pos hg1_11_6))) ?_
  refine rtg _ rfl (ls rfl (ls rfl (ls rfl lz))) (fun hg1_12_7 => opD_eql (lz.trans (pif_pos hg1_12_7)) (ev_const _ _)) ?_
  refine rts _ rfl (opD_and (ls rfl (ls rfl (ls rfl (ls rfl lz)))) lz) ?_
  refine rts _ rfl (opD_assign lz) ?_
  refine .nil ?_
  refine aw_keep [(2, _)] ⟨lg lz, trivial⟩ ?_
  refine aw_ret ?_
  obtain rfl := some_of h0
  exact done_ext (.inr rfl) ((res_one rfl (it_tmp oz)).le zLr) zPb

def F_dtaken_b0 (p0 : Dir) (t_2 : (List Stx) × Int) : Option (((List Stx) × Int) ⊕ (((List Stx)))) :=
  ifb (decide (t_2.2 < 16)) (grd (Below t_2.2 16) <| ixb (nrm 16 (default : Tenant) p0.L) t_2.2 fun x_4 => grd (Fits 16 (t_2.1.length + x_4.Ext.length)) <| some (.inl ((t_2.1 ++ x_4.Ext), IntKind.i64.wrap (t_2.2 + 1)))) (some (.inr t_2.1))
def F_dtaken (fl : Nat) (p0 : Dir) : Option ((List Stx)) :=
  bnd (lp (F_dtaken_b0 p0) fl (([(⟨0, 4⟩ : Stx)] : (List Stx)), 0)) fun z_1 => some z_1
set_option maxRecDepth 100000 in
set_option maxHeartbeats 2000000 in
theorem c_dtaken {fl : Nat} {p0 : Dir} {R : (List Stx)} (h0 : F_dtaken fl p0 = some R) : Own1 Tryd.prog 101 [agg (kDir.cs p0)] (kStx) 114 none R := by
  intro s
  unfold F_dtaken at h0
  refine ac_of_aw s.boxes.length (s.fr.length + 1) Tryd.func101 rfl (by simp [Tryd.ntmps101]) ?_
  refine aw_ext0 ?_
  refine aw_keep [(0, _)] ⟨lg ez, trivial⟩ ?_
  refine aw_seq ?_
  refine aw_region (by decide) ?_
  refine rts _ rfl (boxAN (n := 0) rfl oz (kb_Dir _ _ _) (by first | exact List.length_nil | (simp only [List.length_cons, List.length_nil, Nat.zero_add, Nat.reduceAdd] <;> rfl)) (by simp only [znz] <;> rfl)) ?_
  refine rts _ rfl (opD_assign (ev_const _ _)) ?_
  refine .nil ?_
  refine aw_keep [(1, _)] ⟨lg (ls rfl lz), trivial⟩ ?_
  refine aw_seq ?_
  refine aw_region (by decide) ?_
  refine rts _ rfl (opD_build_struct (rs := [_, _]) Tryd.underlying114 pt114_W6 zt114_W6 (parts_cons (cells1 (ev_const _ _) (one_pl rfl)) (parts_cons (cells1 (ev_const _ _) (one_pl rfl)) parts_nil)) rfl) ?_
  refine rts _ rfl (opD_buildOwn (k := kStx) ([(⟨0, 4⟩ : Stx)] : (List Stx)) Tryd.underlying79 sz114_W6 zt114_W6 (by decide) rfl (parts_cons (cellsA lz) parts_nil) rfl rfl (by first | exact List.length_nil | (simp only [List.length_cons, List.length_nil, Nat.zero_add, Nat.reduceAdd] <;> rfl)) (by simp only [znz] <;> rfl)) ?_
  refine rts _ rfl (opD_assign lz) ?_
  refine .nil ?_
  refine aw_keep [(1, _), (3, _)] ⟨lg (ls rfl (ls rfl (ls rfl oz))), lg lz, trivial⟩ ?_
  refine aw_seq ?_
  refine aw_seq ?_
  refine aw_region (by decide) ?_
  refine rts _ rfl (opD_fieldAddr fo86_3_W6 oz) ?_
  refine rts _ rfl (opD_load_aggX ag82_W6 sz82_W6 lz (loc_getN rfl rfl) (by rw [kDir_len]; decide) (kDir_w_L _)) ?_
  refine rts _ rfl (opD_move (ev_const _ _)) ?_
  refine .nil ?_
  refine aw_keep [(3, _), (9, _), (10, _)] ⟨lg (ls rfl (ls rfl (ls rfl (os rfl oz)))), lg (ls rfl lz), lg lz, trivial⟩ ?_
  replace h0 := bnd_some h0
  obtain ⟨z_1, hz_1, h0⟩ := h0
  refine aw_mid (fun e st => ∃ v : (List Stx), Holds e [(3, sl kStx (some (s.fr.length + 0)) none v)] ∧ st = s.ext [⟨86, (kDir.cs p0)⟩] [⟨114, 2, v.length⟩] ∧ v = z_1) ?_ ?_
  · skip
    refine aw_wkN rfl 1 1 rfl rfl ?_
    refine aw_block ?_
    refine aw_loop (fun n e st => ∃ v : (List Stx) × Int, Holds e [(3, sl kStx (some (s.fr.length + 0)) none v.1), (9, agg (flat kTenant (nrm 16 (default : Tenant) p0.L))), (10, pl (.int .i64 v.2))] ∧ st = s.ext [⟨86, (kDir.cs p0)⟩] [⟨114, 2, v.1.length⟩] ∧ lp (F_dtaken_b0 p0) n v = some z_1) fl ⟨(([(⟨0, 4⟩ : Stx)] : (List Stx)), 0), ⟨le_of_eq (eg oz), le_of_eq (eg (os rfl oz)), le_of_eq (eg (os rfl (os rfl oz))), trivial⟩, rfl, hz_1⟩ ?_
    rintro n e st ⟨t_2, hH, rfl, hz_1⟩
    replace hz_1 := lp_some hz_1
    obtain ⟨m_z_3, z_3, rfl, hz_3, hz_1⟩ := hz_1
    unfold F_dtaken_b0 at hz_3
    refine aw_keep _ hH ?_
    refine aw_wkN rfl 1 1 rfl rfl ?_
    refine aw_seq ?_
    refine aw_region (by decide) ?_
    refine rts _ rfl (opD_lss (os rfl (os rfl oz)) (ev_const _ _)) ?_
    refine .nil ?_
    refine aw_keep [(3, _), (9, _), (10, _), (11, _)] ⟨lg (ls rfl oz), lg (ls rfl (os rfl oz)), lg (ls rfl (os rfl (os rfl oz))), lg lz, trivial⟩ ?_
    refine aw_seq ?_
    refine aw_cond _ (os rfl (os rfl (os rfl oz))) (fun hc => ?_) (fun hc => ?_)
    · skip
      replace hz_3 := ifb_t hz_3 hc
      clear hc
      refine aw_skip ?_
      refine aw_keep [(3, _), (9, _), (10, _)] ⟨lg oz, lg (os rfl oz), lg (os rfl (os rfl oz)), trivial⟩ ?_
      refine aw_seq ?_
      refine aw_block ?_
      refine aw_seq ?_
      refine aw_region (by decide) ?_
      replace hz_3 := grd_some hz_3
      obtain ⟨hg_7, hz_3⟩ := hz_3
      replace hz_3 := ixb_some hz_3
      obtain ⟨x_4, hx_4, _, hz_3⟩ := hz_3
      refine rts _ rfl (opD_index_arrA (k := kTenant) (i := t_2.2.toNat) (y := x_4) Tryd.underlying82 ag81_W6 sz81_W6 (os rfl oz) (os rfl (os rfl oz)) hg_7.eq hg_7.2 hx_4) ?_
      refine rts _ rfl (allocN rfl zt81_W6 (by first | exact List.length_nil | (simp only [List.length_cons, List.length_nil, Nat.zero_add, Nat.reduceAdd] <;> rfl)) (by simp only [znz] <;> rfl)) ?_
      refine rts _ rfl (storeAN rfl sz81_W6 lz (ls rfl lz) (ones_cons (one_pl rfl) (ones_cons (one_pl rfl) (ones_cons (one_sl _ _ _ _) ones_nil))) rfl rfl (zNb rfl) (List.cons_ne_nil _ _) (zbc zPb (zbc zPb (zbc (sl_b kb_Stx) bnd_nil))) (by simp only [znz] <;> rfl) (by simp only [znz] <;> rfl)) ?_
      refine .nil ?_
      refine aw_keep [(3, _), (5, _), (9, _), (10, _)] ⟨lg (lx (ls rfl (ls rfl oz))), lg (lx lz), lg (lx (ls rfl (ls rfl (os rfl oz)))), lg (lx (ls rfl (ls rfl (os rfl (os rfl oz))))), trivial⟩ ?_
      refine aw_region (by decide) ?_
      refine rts _ rfl (opD_move oz) ?_
      refine rts _ rfl (opD_fieldAddr fo81_2_W6 (ls rfl (os rfl oz))) ?_
      refine rts _ rfl (opD_load_one ag79_W6 lz (loc_getN rfl rfl) rfl) ?_
      replace hz_3 := grd_some hz_3
      obtain ⟨hg_8, hz_3⟩ := hz_3
      refine rts _ rfl (opD_appendX Tryd.underlying79 el114_W6 (ls rfl (ls rfl lz)) lz rfl hg_8.1 hg_8.2 rfl (by simp only [znz] <;> rfl)) ?_
      refine rts _ rfl (opD_assign lz) ?_
      refine .nil ?_
      refine aw_keep [(3, _), (9, _), (10, _)] ⟨lg lz, lg (ls rfl (ls rfl (ls rfl (ls rfl (ls rfl (os rfl (os rfl oz))))))), lg (ls rfl (ls rfl (ls rfl (ls rfl (ls rfl (os rfl (os rfl (os rfl oz)))))))), trivial⟩ ?_
      refine aw_region (by decide) ?_
      refine rts _ rfl (opD_add (os rfl (os rfl oz)) (ev_const _ _) rfl) ?_
      refine rts _ rfl (opD_move lz) ?_
      refine .nil ?_
      obtain rfl := some_of hz_3
      replace hz_1 := ocs_l hz_1
      refine wk_yesN rfl (l := [(3, sl kStx (some (s.fr.length + 0)) none (t_2.1 ++ x_4.Ext)), (9, agg (flat kTenant (nrm 16 (default : Tenant) p0.L))), (10, pl (.int .i64 (IntKind.i64.wrap (t_2.2 + 1))))]) (bs' := [⟨86, (kDir.cs p0)⟩]) ⟨le_of_eq (eg (ls rfl (ls rfl oz))), le_of_eq (eg (ls rfl (ls rfl (os rfl oz)))), le_of_eq (eg lz), trivial⟩ (zbc (sl_ob kb_Stx (by first | omega | (simp only [List.length_append, List.length_cons, List.length_nil, ext_fr_length, upd_fr_length]; omega))) (zbc (agg_bnd (flatKB kb_Tenant)) (zbc zPb bnd_nil))) (zNb rfl) (by simp only [znz] <;> rfl) (bxle_same bxle_nil) rfl (by simp only [znz] <;> rfl) (bl_cons (kb_Dir _ _ _) bl_nil) ?_
      exact ⟨m_z_3, Nat.lt_succ_self _, ((t_2.1 ++ x_4.Ext), IntKind.i64.wrap (t_2.2 + 1)), ⟨le_of_eq (eg oz), le_of_eq (eg (os rfl oz)), le_of_eq (eg (os rfl (os rfl oz))), trivial⟩, rfl, hz_1⟩
    · skip
      replace hz_3 := ifb_f hz_3 hc
      clear hc
      refine aw_exit ?_
      obtain rfl := some_of hz_3
      replace hz_1 := ocs_r hz_1
      refine wk_no ?_
      refine wk_yesN rfl (l := [(3, sl kStx (some (s.fr.length + 0)) none t_2.1)]) (bs' := [⟨86, (kDir.cs p0)⟩]) ⟨le_of_eq (eg oz), trivial⟩ (zbc (sl_ob kb_Stx (by first | omega | (simp only [List.length_append, List.length_cons, List.length_nil, ext_fr_length, upd_fr_length]; omega))) bnd_nil) (zNb rfl) (by simp only [znz] <;> rfl) (bxle_same bxle_nil) rfl (by simp only [znz] <;> rfl) (bl_cons (kb_Dir _ _ _) bl_nil) ?_
      exact ⟨t_2.1, ⟨le_of_eq (eg oz), trivial⟩, rfl, some_of hz_1⟩
  · rintro e st ⟨vz_1, hH, rfl, rfl⟩
    refine aw_keep _ hH ?_
    refine aw_keep [(3, _)] ⟨lg oz, trivial⟩ ?_
    refine aw_seq ?_
    refine aw_region (by decide) ?_
    refine rts _ rfl (opD_move oz) ?_
    refine rts _ rfl (opD_assign lz) ?_
    refine .nil ?_
    refine aw_keep [(2, _)] ⟨lg lz, trivial⟩ ?_
    refine aw_ret ?_
    obtain rfl := some_of h0
    exact done_own (.inr rfl) ((res_one rfl (it_tmp oz)).le zLr) rfl (kbl kb_Stx _ _ _)

def F_dcopied_b0 (t_2 : Int × Dir) : Option ((Int × Dir) ⊕ ((Dir))) :=
  ifb (decide (t_2.1 < 16)) (grd (Below t_2.1 16) <| bnd (oCloneX 16 ((t_2.2.L.getD t_2.1.toNat (default : Tenant)).Ext)) fun x_4 => grd (Below t_2.1 16) <| some (.inl (IntKind.i64.wrap (t_2.1 + 1), ({ t_2.2 with L := aset 16 (default : Tenant) t_2.2.L t_2.1.toNat (⟨(t_2.2.L.getD t_2.1.toNat (default : Tenant)).ID, (t_2.2.L.getD t_2.1.toNat (default : Tenant)).Gen, x_4⟩ : Tenant) } : Dir)))) (some (.inr t_2.2))
def F_dcopied (fl : Nat) (p0 : Dir) : Option (Dir) :=
  bnd (lp (F_dcopied_b0) fl (0, p0)) fun z_1 => some z_1
set_option maxRecDepth 100000 in
set_option maxHeartbeats 2000000 in
theorem c_dcopied {fl : Nat} {p0 : Dir} {R : Dir} (h0 : F_dcopied fl p0 = some R) : Pure Tryd.prog 132 [agg (kDir.cs p0)] (agg (kDir.cs R)) := by
  intro s
  unfold F_dcopied at h0
  refine ac_of_aw s.boxes.length s.fr.length Tryd.func132 rfl (by simp [Tryd.ntmps132]) ?_
  refine aw_ext0 ?_
  refine aw_keep [(0, _)] ⟨lg ez, trivial⟩ ?_
  refine aw_seq ?_
  refine aw_region (by decide) ?_
  refine rts _ rfl (boxAN (n := 0) rfl oz (kb_Dir _ _ _) (by first | exact List.length_nil | (simp only [List.length_cons, List.length_nil, Nat.zero_add, Nat.reduceAdd] <;> rfl)) (by simp only [znz] <;> rfl)) ?_
  refine rts _ rfl (opD_wkN rfl (allocN (bs' := [⟨86, (kDir.cs p0)⟩, ⟨86, zl1⟩]) rfl zt86_W6 (by first | exact List.length_nil | (simp only [List.length_cons, List.length_nil, Nat.zero_add, Nat.reduceAdd] <;> rfl)) (by simp only [znz] <;> rfl)) (bxle_same (bxle_cons (B := ⟨86, zl1⟩) (C := ⟨86, kDir.cs (default : Dir)⟩) (@Eq.refl TypeId 86) kDir_zero bxle_nil)) (bl_cons (kb_Dir _ _ _) (bl_cons (kb_Dir _ _ _) bl_nil))) ?_
  refine .nil ?_
  refine aw_keep [(1, _), (2, _)] ⟨lg (ls rfl lz), lg lz, trivial⟩ ?_
  refine aw_seq ?_
  refine aw_seq ?_
  refine aw_region (by decide) ?_
  refine rts _ rfl (opD_move (ev_const _ _)) ?_
  refine .nil ?_
  refine aw_keep [(1, _), (2, _), (4, _)] ⟨lg (ls rfl oz), lg (ls rfl (os rfl oz)), lg lz, trivial⟩ ?_
  replace h0 := bnd_some h0
  obtain ⟨z_1, hz_1, h0⟩ := h0
  refine aw_mid (fun e st => ∃ v : Dir, Holds e [(1, ptr (s.boxes.length + 0) 0), (2, ptr (s.boxes.length + 1) 0)] ∧ st = s.ext [⟨86, (kDir.cs v)⟩, ⟨86, (kDir.cs (default : Dir))⟩] [] ∧ v = z_1) ?_ ?_
  · skip
    refine aw_wkN rfl 2 0 rfl rfl ?_
    refine aw_block ?_
    refine aw_loop (fun n e st => ∃ v : Int × Dir, Holds e [(1, ptr (s.boxes.length + 0) 0), (2, ptr (s.boxes.length + 1) 0), (4, pl (.int .i64 v.1))] ∧ st = s.ext [⟨86, (kDir.cs v.2)⟩, ⟨86, (kDir.cs (default : Dir))⟩] [] ∧ lp (F_dcopied_b0) n v = some z_1) fl ⟨(0, p0), ⟨le_of_eq (eg oz), le_of_eq (eg (os rfl oz)), le_of_eq (eg (os rfl (os rfl oz))), trivial⟩, rfl, hz_1⟩ ?_
    rintro n e st ⟨t_2, hH, rfl, hz_1⟩
    replace hz_1 := lp_some hz_1
    obtain ⟨m_z_3, z_3, rfl, hz_3, hz_1⟩ := hz_1
    unfold F_dcopied_b0 at hz_3
    refine aw_keep _ hH ?_
    refine aw_wkN rfl 2 0 rfl rfl ?_
    refine aw_seq ?_
    refine aw_region (by decide) ?_
    refine rts _ rfl (opD_lss (os rfl (os rfl oz)) (ev_const _ _)) ?_
    refine .nil ?_
    refine aw_keep [(1, _), (2, _), (4, _), (5, _)] ⟨lg (ls rfl oz), lg (ls rfl (os rfl oz)), lg (ls rfl (os rfl (os rfl oz))), lg lz, trivial⟩ ?_
    refine aw_seq ?_
    refine aw_cond _ (os rfl (os rfl (os rfl oz))) (fun hc => ?_) (fun hc => ?_)
    · skip
      replace hz_3 := ifb_t hz_3 hc
      clear hc
      refine aw_skip ?_
      refine aw_keep [(1, _), (2, _), (4, _)] ⟨lg oz, lg (os rfl oz), lg (os rfl (os rfl oz)), trivial⟩ ?_
      refine aw_seq ?_
      refine aw_block ?_
      refine aw_seq ?_
      refine aw_region (by decide) ?_
      refine rts _ rfl (opD_move (os rfl (os rfl oz))) ?_
      refine rts _ rfl (opD_assign lz) ?_
      refine .nil ?_
      refine aw_keep [(1, _), (2, _), (3, _), (4, _)] ⟨lg (ls rfl (ls rfl oz)), lg (ls rfl (ls rfl (os rfl oz))), lg lz, lg (ls rfl (ls rfl (os rfl (os rfl oz)))), trivial⟩ ?_
      refine aw_region (by decide) ?_
      refine rts _ rfl (opD_move (os rfl (os rfl oz))) ?_
      refine rts _ rfl (opD_move (ls rfl (os rfl (os rfl oz)))) ?_
      refine rts _ rfl (opD_fieldAddr fo86_3_W6 (ls rfl (ls rfl oz))) ?_
      replace hz_3 := grd_some hz_3
      obtain ⟨hg_7, hz_3⟩ := hz_3
      refine rts _ rfl (opD_indexAddr_arr (i := t_2.1.toNat) Tryd.underlying82 sz81_W6 lz (ls rfl lz) hg_7.eq hg_7.2) ?_
      refine rts _ rfl (opD_fieldAddr fo81_2_W6 lz) ?_
      refine rts _ rfl (opD_load_one ag79_W6 lz (loc_getN rfl rfl) ((kDir_e_L _ (j := 2) hg_7.2 (by decide)).trans rfl)) ?_
      replace hz_3 := bnd_some hz_3
      obtain ⟨x_4, hx_4, hz_3⟩ := hz_3
      refine rts _ rfl (opD_own1 ht171_W6 (c_oCloneX hx_4) ⟨le_of_eq lz, trivial⟩ (by first | exact List.length_nil | (simp only [List.length_cons, List.length_nil, Nat.zero_add, Nat.reduceAdd] <;> rfl)) (by simp only [znz] <;> rfl)) ?_
      refine rts _ rfl (opD_fieldAddr fo86_3_W6 (ls rfl (ls rfl (ls rfl (ls rfl (ls rfl (ls rfl (ls rfl oz)))))))) ?_
      replace hz_3 := grd_some hz_3
      obtain ⟨hg_8, hz_3⟩ := hz_3
      refine rts _ rfl (opD_indexAddr_arr (i := t_2.1.toNat) Tryd.underlying82 sz81_W6 lz (ls rfl (ls rfl (ls rfl (ls rfl (ls rfl (ls rfl (ls rfl lz))))))) hg_8.eq hg_8.2) ?_
      refine rts _ rfl (opD_fieldAddr fo81_2_W6 lz) ?_
      refine rts _ rfl (storeON (cs' := kDir.cs ({ t_2.2 with L := aset 16 (default : Tenant) t_2.2.L t_2.1.toNat (⟨(t_2.2.L.getD t_2.1.toNat (default : Tenant)).ID, (t_2.2.L.getD t_2.1.toNat (default : Tenant)).Gen, x_4⟩ : Tenant) } : Dir)) rfl sz79_W6 lz ((le_of_eq (ls rfl (ls rfl (ls rfl lz)))).trans (sl_any _ _ _ _)) (one_sl _ _ _ _) rfl (by have h_ := hg_8.2; show _ < (kDir.cs _).length; rw [kDir_len]; omega) (sl_b kb_Stx) (kDir_s_L _ (y := (⟨(t_2.2.L.getD t_2.1.toNat (default : Tenant)).ID, (t_2.2.L.getD t_2.1.toNat (default : Tenant)).Gen, x_4⟩ : Tenant)) (j := 2) hg_8.2 (by decide) rfl) (by simp only [znz] <;> rfl)) ?_
      refine .nil ?_
      refine aw_keep [(1, _), (2, _), (4, _)] ⟨lg (lx (ls rfl (ls rfl (ls rfl (ls rfl (ls rfl (ls rfl (ls rfl (ls rfl (ls rfl (ls rfl oz))))))))))), lg (lx (ls rfl (ls rfl (ls rfl (ls rfl (ls rfl (ls rfl (ls rfl (ls rfl (ls rfl (ls rfl (os rfl oz)))))))))))), lg (lx (ls rfl (ls rfl (ls rfl (ls rfl (ls rfl (ls rfl (ls rfl (ls rfl (ls rfl (ls rfl (os rfl (os rfl (os rfl oz)))))))))))))), trivial⟩ ?_
      refine aw_region (by decide) ?_
      refine rts _ rfl (opD_add (os rfl (os rfl oz)) (ev_const _ _) rfl) ?_
      refine rts _ rfl (opD_move lz) ?_
      refine .nil ?_
      obtain rfl := some_of hz_3
      replace hz_1 := ocs_l hz_1
      refine wk_yesN rfl (l := [(1, ptr (s.boxes.length + 0) 0), (2, ptr (s.boxes.length + 1) 0), (4, pl (.int .i64 (IntKind.i64.wrap (t_2.1 + 1))))]) (bs' := [⟨86, (kDir.cs ({ t_2.2 with L := aset 16 (default : Tenant) t_2.2.L t_2.1.toNat (⟨(t_2.2.L.getD t_2.1.toNat (default : Tenant)).ID, (t_2.2.L.getD t_2.1.toNat (default : Tenant)).Gen, x_4⟩ : Tenant) } : Dir))⟩, ⟨86, (kDir.cs (default : Dir))⟩]) ⟨le_of_eq (eg (ls rfl (ls rfl oz))), le_of_eq (eg (ls rfl (ls rfl (os rfl oz)))), le_of_eq (eg lz), trivial⟩ (zbc (ptr_bnd _ (by first | omega | (simp only [List.length_append, List.length_cons, List.length_nil]; omega))) (zbc (ptr_bnd _ (by first | omega | (simp only [List.length_append, List.length_cons, List.length_nil]; omega))) (zbc zPb bnd_nil))) (zNb rfl) (by simp only [znz] <;> rfl) (bxle_same (bxle_same bxle_nil)) rfl (by simp only [znz] <;> rfl) (bl_cons (kb_Dir _ _ _) (bl_cons (kb_Dir _ _ _) bl_nil)) ?_
      exact ⟨m_z_3, Nat.lt_succ_self _, (IntKind.i64.wrap (t_2.1 + 1), ({ t_2.2 with L := aset 16 (default : Tenant) t_2.2.L t_2.1.toNat (⟨(t_2.2.L.getD t_2.1.toNat (default : Tenant)).ID, (t_2.2.L.getD t_2.1.toNat (default : Tenant)).Gen, x_4⟩ : Tenant) } : Dir)), ⟨le_of_eq (eg oz), le_of_eq (eg (os rfl oz)), le_of_eq (eg (os rfl (os rfl oz))), trivial⟩, rfl, hz_1⟩
    · skip
      replace hz_3 := ifb_f hz_3 hc
      clear hc
      refine aw_exit ?_
      obtain rfl := some_of hz_3
      replace hz_1 := ocs_r hz_1
      refine wk_no ?_
      refine wk_yesN rfl (l := [(1, ptr (s.boxes.length + 0) 0), (2, ptr (s.boxes.length + 1) 0)]) (bs' := [⟨86, (kDir.cs t_2.2)⟩, ⟨86, (kDir.cs (default : Dir))⟩]) ⟨le_of_eq (eg oz), le_of_eq (eg (os rfl oz)), trivial⟩ (zbc (ptr_bnd _ (by first | omega | (simp only [List.length_append, List.length_cons, List.length_nil]; omega))) (zbc (ptr_bnd _ (by first | omega | (simp only [List.length_append, List.length_cons, List.length_nil]; omega))) bnd_nil)) (zNb rfl) (by simp only [znz] <;> rfl) (bxle_same (bxle_same bxle_nil)) rfl (by simp only [znz] <;> rfl) (bl_cons (kb_Dir _ _ _) (bl_cons (kb_Dir _ _ _) bl_nil)) ?_
      exact ⟨t_2.2, ⟨le_of_eq (eg oz), le_of_eq (eg (os rfl oz)), trivial⟩, rfl, some_of hz_1⟩
  · rintro e st ⟨vz_1, hH, rfl, rfl⟩
    refine aw_keep _ hH ?_
    refine aw_keep [(1, _), (2, _)] ⟨lg oz, lg (os rfl oz), trivial⟩ ?_
    refine aw_seq ?_
    refine aw_region (by decide) ?_
    refine rts _ rfl (opD_load_aggX ag86_W6 sz86_W6 oz (loc_getN rfl rfl) (by rw [kDir_len]; exact Nat.le_refl _) (kDir_full _)) ?_
    refine rts _ rfl (storeAN (cs' := kDir.cs vz_1) rfl sz86_W6 (ls rfl (os rfl oz)) lz (fun p_ h_ => kDir.one _ p_ h_) rfl (kDir_len _) (by rw [kDir_len]; exact Nat.le_refl _) (by intro h_; have := congrArg List.length h_; rw [kDir_len] at this; cases this) (kb_Dir _ _ _) (kDir_put _ _) (by simp only [znz] <;> rfl)) ?_
    refine .nil ?_
    refine aw_keep [(2, _)] ⟨lg (lx (ls rfl (os rfl oz))), trivial⟩ ?_
    refine aw_ret ?_
    obtain rfl := some_of h0
    exact done_ext (.inr rfl) ((res_one rfl (it_cellA (B := ⟨86, kDir.cs vz_1⟩) ag86_W6 sz86_W6 oz (loc_getN rfl rfl) (kDir_len _))).le zLr) (agg_bnd (kb_Dir _ _ _))

def F_mplace (p0 : Int) : Option (Bool) :=
  some ((decide (0 ≤ p0)) && (decide (p0 < 16)))
set_option maxRecDepth 100000 in
set_option maxHeartbeats 2000000 in
theorem c_mplace {p0 : Int} {R : Bool} (h0 : F_mplace p0 = some R) : Pure Tryd.prog 133 [pl (.int .i64 p0)] (pl (.bool R)) := by
  intro s
  unfold F_mplace at h0
  refine ac_of_aw s.boxes.length s.fr.length Tryd.func133 rfl (by simp [Tryd.ntmps133]) ?_
  refine aw_ext0 ?_
  refine aw_keep [(0, _)] ⟨lg ez, trivial⟩ ?_
  refine aw_seq ?_
  refine aw_region (by decide) ?_
  refine rts _ rfl (opD_assign (ev_const _ _)) ?_
  refine .nil ?_
  refine aw_keep [(0, _)] ⟨lg (ls rfl oz), trivial⟩ ?_
  refine aw_seq ?_
  refine aw_region (by decide) ?_
  refine rts _ rfl (opD_move oz) ?_
  refine rts _ rfl (opD_geq lz (ev_const _ _)) ?_
  refine rts _ rfl (opD_move lz) ?_
  refine rtg _ rfl lz (fun hg1_3_1 => opD_move (ls rfl (ls rfl (ls rfl oz)))) ?_
  refine rtg _ rfl (ls rfl lz) (fun hg1_4_2 => opD_lss (lz.trans (pif_pos hg1_4_2)) (ev_const _ _)) ?_
  refine rts _ rfl (opD_and (ls rfl (ls rfl lz)) lz) ?_
  refine rts _ rfl (opD_assign lz) ?_
  refine .nil ?_
  refine aw_keep [(2, _)] ⟨lg lz, trivial⟩ ?_
  refine aw_ret ?_
  obtain rfl := some_of h0
  exact done_ext (.inr rfl) ((res_one rfl (it_tmp oz)).le zLr) zPb

def F_mbit (p0 : Int) : Option (Int) :=
  grd (UpTo (IntKind.u64.wrap (p0)) 16) <| some (IntKind.u16.wrap (1 * 2 ^ (IntKind.u64.wrap (p0)).toNat))
set_option maxRecDepth 100000 in
set_option maxHeartbeats 2000000 in
theorem c_mbit {p0 : Int} {R : Int} (h0 : F_mbit p0 = some R) : Pure Tryd.prog 134 [pl (.int .i64 p0)] (pl (.int .u16 R)) := by
  intro s
  unfold F_mbit at h0
  refine ac_of_aw s.boxes.length s.fr.length Tryd.func134 rfl (by simp [Tryd.ntmps134]) ?_
  refine aw_ext0 ?_
  refine aw_keep [(0, _)] ⟨lg ez, trivial⟩ ?_
  refine aw_seq ?_
  refine aw_region (by decide) ?_
  refine rts _ rfl (opD_assign (ev_const _ _)) ?_
  refine .nil ?_
  refine aw_keep [(0, _)] ⟨lg (ls rfl oz), trivial⟩ ?_
  refine aw_seq ?_
  refine aw_region (by decide) ?_
  refine rts _ rfl (opD_move oz) ?_
  refine rts _ rfl (opD_conv_int Tryd.underlying3 Tryd.underlying211 lz rfl) ?_
  replace h0 := grd_some h0
  obtain ⟨hg_1, h0⟩ := h0
  refine rts _ rfl (opD_shl (ev_const _ _) lz hg_1.1 (by have := hg_1.1; have := hg_1.2; simp only [IntKind.bits]; omega) rfl) ?_
  refine rts _ rfl (opD_assign lz) ?_
  refine .nil ?_
  refine aw_keep [(2, _)] ⟨lg lz, trivial⟩ ?_
  refine aw_ret ?_
  obtain rfl := some_of h0
  exact done_ext (.inr rfl) ((res_one rfl (it_tmp oz)).le zLr) zPb

def F_mCheck_b1 (p0 : (List Int)) (t_2 : Int) (t_5 : Int) : Option ((Int) ⊕ (((Option Int)) ⊕ (Unit))) :=
  ifb (decide (t_5 < 16)) (grd (Below t_2 16) <| ixb p0 ((t_2.toNat : Nat) : Int) fun x_7 => bnd (F_mbit t_5) fun x_8 => grd (Below t_5 16) <| ixb p0 ((t_5.toNat : Nat) : Int) fun x_9 => bnd (F_mbit t_2) fun x_10 => grd (((((decide ((bits BinOp.and .u16 x_7 x_8) ≠ 0)) != (decide ((bits BinOp.and .u16 x_9 x_10) ≠ 0))) == false) && ((decide (t_2 = t_5)) == true)) = true → Below t_2 16) <| grd (((((decide ((bits BinOp.and .u16 x_7 x_8) ≠ 0)) != (decide ((bits BinOp.and .u16 x_9 x_10) ≠ 0))) == false) && ((decide (t_2 = t_5)) == true)) = true → Below ((t_2.toNat : Nat) : Int) p0.length) <| bnd (gif ((((decide ((bits BinOp.and .u16 x_7 x_8) ≠ 0)) != (decide ((bits BinOp.and .u16 x_9 x_10) ≠ 0))) == false) && ((decide (t_2 = t_5)) == true)) (F_mbit t_2)) fun x_12 => ifb (((decide ((bits BinOp.and .u16 x_7 x_8) ≠ 0)) != (decide ((bits BinOp.and .u16 x_9 x_10) ≠ 0))) || ((decide (t_2 = t_5)) && (decide ((bits BinOp.and .u16 (p0.getD t_2.toNat default) x_12) ≠ 0)))) (some (.inr (.inl (some 1)))) (some (.inl (IntKind.i64.wrap (t_5 + 1))))) (some (.inr (.inr ())))
def F_mCheck_b0 (fl : Nat) (p0 : (List Int)) (t_2 : Int) : Option ((Int) ⊕ (((Option Int)) ⊕ (Unit))) :=
  ifb (decide (t_2 < 16)) (bnd (lp (F_mCheck_b1 p0 t_2) fl 0) fun z_4 => ocs z_4 (fun qz_4_0 => some (.inr (.inl qz_4_0))) fun z_4_0 => some (.inl (IntKind.i64.wrap (t_2 + 1)))) (some (.inr (.inr ())))
def F_mCheck (fl : Nat) (p0 : (List Int)) : Option ((Option Int)) :=
  bnd (lp (F_mCheck_b0 fl p0) fl 0) fun z_1 => ocs z_1 (fun qz_1_0 => some qz_1_0) fun z_1_0 => some none
set_option maxRecDepth 100000 in
set_option maxHeartbeats 2000000 in
theorem c_mCheck {fl : Nat} {p0 : (List Int)} {R : (Option Int)} (h0 : F_mCheck fl p0 = some R) : Pure Tryd.prog 99 [agg (flat (kI .u16) p0)] (pl (errV R)) := by
  intro s
  unfold F_mCheck at h0
  refine ac_of_aw s.boxes.length s.fr.length Tryd.func99 rfl (by simp [Tryd.ntmps99]) ?_
  refine aw_ext0 ?_
  refine aw_keep [(0, _)] ⟨lg ez, trivial⟩ ?_
  refine aw_seq ?_
  refine aw_region (by decide) ?_
  refine rts _ rfl (boxFN (k := kI .u16) (l := p0) rfl oz rfl (kb_I _) (by first | exact List.length_nil | (simp only [List.length_cons, List.length_nil, Nat.zero_add, Nat.reduceAdd] <;> rfl)) (by simp only [znz] <;> rfl)) ?_
  refine rts _ rfl (opD_assign (ev_const _ _)) ?_
  refine .nil ?_
  refine aw_keep [(1, _)] ⟨lg (ls rfl lz), trivial⟩ ?_
  refine aw_seq ?_
  refine aw_seq ?_
  refine aw_region (by decide) ?_
  refine rts _ rfl (opD_move (ev_const _ _)) ?_
  refine .nil ?_
  refine aw_keep [(1, _), (5, _)] ⟨lg (ls rfl oz), lg lz, trivial⟩ ?_
  replace h0 := bnd_some h0
  obtain ⟨z_1, hz_1, h0⟩ := h0
  refine aw_mid (fun e st => ∃ v : Unit, Holds e [] ∧ st = s.ext [⟨84, (flat (kI .u16) p0)⟩] [] ∧ (.inr v) = z_1) ?_ ?_
  · skip
    refine aw_wkN rfl 1 0 rfl rfl ?_
    refine aw_block ?_
    refine aw_loop (fun n e st => ∃ v : Int, Holds e [(1, ptr (s.boxes.length + 0) 0), (5, pl (.int .i64 v))] ∧ st = s.ext [⟨84, (flat (kI .u16) p0)⟩] [] ∧ lp (F_mCheck_b0 fl p0) n v = some z_1) fl ⟨0, ⟨le_of_eq (eg oz), le_of_eq (eg (os rfl oz)), trivial⟩, rfl, hz_1⟩ ?_
    rintro n e st ⟨t_2, hH, rfl, hz_1⟩
    replace hz_1 := lp_some hz_1
    obtain ⟨m_z_3, z_3, rfl, hz_3, hz_1⟩ := hz_1
    unfold F_mCheck_b0 at hz_3
    refine aw_keep _ hH ?_
    refine aw_wkN rfl 1 0 rfl rfl ?_
    refine aw_seq ?_
    refine aw_region (by decide) ?_
    refine rts _ rfl (opD_lss (os rfl oz) (ev_const _ _)) ?_
    refine .nil ?_
    refine aw_keep [(1, _), (5, _), (6, _)] ⟨lg (ls rfl oz), lg (ls rfl (os rfl oz)), lg lz, trivial⟩ ?_
    refine aw_seq ?_
    refine aw_cond _ (os rfl (os rfl oz)) (fun hc => ?_) (fun hc => ?_)
    · skip
      replace hz_3 := ifb_t hz_3 hc
      clear hc
      refine aw_skip ?_
      refine aw_keep [(1, _), (5, _)] ⟨lg oz, lg (os rfl oz), trivial⟩ ?_
      refine aw_seq ?_
      replace hz_3 := bnd_some hz_3
      obtain ⟨z_4, hz_4, hz_3⟩ := hz_3
      refine aw_mid (fun e st => ∃ v : Unit, Holds e [(1, ptr (s.boxes.length + 0) 0), (5, pl (.int .i64 t_2))] ∧ st = s.ext [⟨84, (flat (kI .u16) p0)⟩] [] ∧ (.inr v) = z_4) ?_ ?_
      · skip
        refine aw_wkN rfl 1 0 rfl rfl ?_
        refine aw_block ?_
        refine aw_seq ?_
        refine aw_region (by decide) ?_
        refine rts _ rfl (opD_move (os rfl oz)) ?_
        refine rts _ rfl (opD_assign lz) ?_
        refine .nil ?_
        refine aw_keep [(1, _), (3, _), (5, _)] ⟨lg (ls rfl (ls rfl oz)), lg lz, lg (ls rfl (ls rfl (os rfl oz))), trivial⟩ ?_
        refine aw_seq ?_
        refine aw_region (by decide) ?_
        refine rts _ rfl (opD_move (ev_const _ _)) ?_
        refine .nil ?_
        refine aw_keep [(1, _), (3, _), (5, _), (8, _)] ⟨lg (ls rfl oz), lg (ls rfl (os rfl oz)), lg (ls rfl (os rfl (os rfl oz))), lg lz, trivial⟩ ?_
        refine aw_block ?_
        refine aw_loop (fun n e st => ∃ v : Int, Holds e [(1, ptr (s.boxes.length + 0) 0), (3, pl (.int .i64 t_2)), (5, pl (.int .i64 t_2)), (8, pl (.int .i64 v))] ∧ st = s.ext [⟨84, (flat (kI .u16) p0)⟩] [] ∧ lp (F_mCheck_b1 p0 t_2) n v = some z_4) fl ⟨0, ⟨le_of_eq (eg oz), le_of_eq (eg (os rfl oz)), le_of_eq (eg (os rfl (os rfl oz))), le_of_eq (eg (os rfl (os rfl (os rfl oz)))), trivial⟩, rfl, hz_4⟩ ?_
        rintro n e st ⟨t_5, hH, rfl, hz_4⟩
        replace hz_4 := lp_some hz_4
        obtain ⟨m_z_6, z_6, rfl, hz_6, hz_4⟩ := hz_4
        unfold F_mCheck_b1 at hz_6
        refine aw_keep _ hH ?_
        refine aw_wkN rfl 1 0 rfl rfl ?_
        refine aw_seq ?_
        refine aw_region (by decide) ?_
        refine rts _ rfl (opD_lss (os rfl (os rfl (os rfl oz))) (ev_const _ _)) ?_
        refine .nil ?_
        refine aw_keep [(1, _), (3, _), (5, _), (8, _), (9, _)] ⟨lg (ls rfl oz), lg (ls rfl (os rfl oz)), lg (ls rfl (os rfl (os rfl oz))), lg (ls rfl (os rfl (os rfl (os rfl oz)))), lg lz, trivial⟩ ?_
        refine aw_seq ?_
        refine aw_cond _ (os rfl (os rfl (os rfl (os rfl oz)))) (fun hc => ?_) (fun hc => ?_)
        · skip
          replace hz_6 := ifb_t hz_6 hc
          clear hc
          refine aw_skip ?_
          refine aw_keep [(1, _), (3, _), (5, _), (8, _)] ⟨lg oz, lg (os rfl oz), lg (os rfl (os rfl oz)), lg (os rfl (os rfl (os rfl oz))), trivial⟩ ?_
          refine aw_seq ?_
          refine aw_block ?_
          refine aw_seq ?_
          refine aw_region (by decide) ?_
          refine rts _ rfl (opD_move (os rfl (os rfl (os rfl oz)))) ?_
          refine rts _ rfl (opD_assign lz) ?_
          refine .nil ?_
          refine aw_keep [(1, _), (3, _), (4, _), (5, _), (8, _)] ⟨lg (ls rfl (ls rfl oz)), lg (ls rfl (ls rfl (os rfl oz))), lg lz, lg (ls rfl (ls rfl (os rfl (os rfl oz)))), lg (ls rfl (ls rfl (os rfl (os rfl (os rfl oz))))), trivial⟩ ?_
          refine aw_seq ?_
          refine aw_flat mixed_W6 (by decide +kernel) ?_
          refine zts _ rfl (opD_move (os rfl oz)) ?_
          replace hz_6 := grd_some hz_6
          obtain ⟨hg_497, hz_6⟩ := hz_6
          refine zts _ rfl (opD_indexAddr_arr (i := t_2.toNat) Tryd.underlying84 sz77_W6 (ls rfl oz) lz hg_497.eq hg_497.2) ?_
          replace hz_6 := ixb_some hz_6
          obtain ⟨x_7, hx_7, hbx_7, hz_6⟩ := hz_6
          refine zts _ rfl (opD_load_one ag77_W6 lz (loc_getN rfl rfl) (flat_at0 rfl (nat_ix hx_7) rfl)) ?_
          refine zts _ rfl (opD_move (ls rfl (ls rfl (ls rfl (os rfl (os rfl oz)))))) ?_
          replace hz_6 := bnd_some hz_6
          obtain ⟨x_8, hx_8, hz_6⟩ := hz_6
          refine zts _ rfl (opD_pure ht134_W6 (c_mbit hx_8) ⟨le_of_eq lz, trivial⟩) ?_
          refine zts _ rfl (opD_bits (.inl rfl) (ls rfl (ls rfl lz)) lz rfl) ?_
          refine zts _ rfl (opD_neq lz (ev_const _ _)) ?_
          refine zts _ rfl (opD_move (ls rfl (ls rfl (ls rfl (ls rfl (ls rfl (ls rfl (ls rfl (os rfl (os rfl oz)))))))))) ?_
          replace hz_6 := grd_some hz_6
          obtain ⟨hg_498, hz_6⟩ := hz_6
          refine zts _ rfl (opD_indexAddr_arr (i := t_5.toNat) Tryd.underlying84 sz77_W6 (ls rfl (ls rfl (ls rfl (ls rfl (ls rfl (ls rfl (ls rfl (ls rfl oz)))))))) lz hg_498.eq hg_498.2) ?_
          replace hz_6 := ixb_some hz_6
          obtain ⟨x_9, hx_9, hbx_9, hz_6⟩ := hz_6
          refine zts _ rfl (opD_load_one ag77_W6 lz (loc_getN rfl rfl) (flat_at0 rfl (nat_ix hx_9) rfl)) ?_
          refine zts _ rfl (opD_move (ls rfl (ls rfl (ls rfl (ls rfl (ls rfl (ls rfl (ls rfl (ls rfl (ls rfl (ls rfl (os rfl oz)))))))))))) ?_
          replace hz_6 := bnd_some hz_6
          obtain ⟨x_10, hx_10, hz_6⟩ := hz_6
          refine zts _ rfl (opD_pure ht134_W6 (c_mbit hx_10) ⟨le_of_eq lz, trivial⟩) ?_
          refine zts _ rfl (opD_bits (.inl rfl) (ls rfl (ls rfl lz)) lz rfl) ?_
          refine zts _ rfl (opD_neq lz (ev_const _ _)) ?_
          refine zts _ rfl (opD_bneq Tryd.underlying4 (ls rfl (ls rfl (ls rfl (ls rfl (ls rfl (ls rfl (ls rfl lz))))))) lz) ?_
          refine zts _ rfl (opD_move lz) ?_
          refine ztg _ rfl lz (fun hg7_16_499 => opD_move (ls rfl (ls rfl (ls rfl (ls rfl (ls rfl (ls rfl (ls rfl (ls rfl (ls rfl (ls rfl (ls rfl (ls rfl (ls rfl (ls rfl (ls rfl (ls rfl (os rfl oz)))))))))))))))))) ?_
          refine ztg _ rfl (ls rfl lz) (fun hg7_17_500 => opD_move (ls rfl (ls rfl (ls rfl (ls rfl (ls rfl (ls rfl (ls rfl (ls rfl (ls rfl (ls rfl (ls rfl (ls rfl (ls rfl (ls rfl (ls rfl (ls rfl (ls rfl (os rfl (os rfl oz)))))))))))))))))))) ?_
          refine ztg _ rfl (ls rfl (ls rfl lz)) (fun hg7_18_501 => opD_eql ((ls rfl lz).trans (pif_pos hg7_18_501)) (lz.trans (pif_pos hg7_18_501))) ?_
          refine ztg _ rfl (ls rfl (ls rfl (ls rfl lz))) (fun hg7_19_502 => opD_move (lz.trans (pif_pos hg7_19_502))) ?_
          refine ztg2 _ rfl lz (fun hg7_20_503 => opD_move (ls rfl (ls rfl (ls rfl (ls rfl (ls rfl (ls rfl (ls rfl (ls rfl (ls rfl (ls rfl (ls rfl (ls rfl (ls rfl (ls rfl (ls rfl (ls rfl (ls rfl (ls rfl (ls rfl (ls rfl (os rfl oz)))))))))))))))))))))) ?_
          replace hz_6 := grd_some hz_6
          obtain ⟨hg_505, hz_6⟩ := hz_6
          refine ztg2 _ rfl (ls rfl lz) (fun hg7_21_504 => opD_indexAddr_arr (i := t_2.toNat) Tryd.underlying84 sz77_W6 (ls rfl (ls rfl (ls rfl (ls rfl (ls rfl (ls rfl (ls rfl (ls rfl (ls rfl (ls rfl (ls rfl (ls rfl (ls rfl (ls rfl (ls rfl (ls rfl (ls rfl (ls rfl (ls rfl (ls rfl (ls rfl oz))))))))))))))))))))) (lz.trans (pif_pos hg7_21_504)) (hg_505 hg7_21_504).eq (hg_505 hg7_21_504).2) ?_
          replace hz_6 := grd_some hz_6
          obtain ⟨hg_507, hz_6⟩ := hz_6
          refine ztg2 _ rfl (ls rfl (ls rfl lz)) (fun hg7_22_506 => opD_load_one ag77_W6 (lz.trans (pif_pos hg7_22_506)) (loc_getN rfl rfl) (flat_at0 rfl (at_getD default (nat_lt (hg_507 hg7_22_506))) rfl)) ?_
          refine ztg2 _ rfl (ls rfl (ls rfl (ls rfl lz))) (fun hg7_23_508 => opD_move (ls rfl (ls rfl (ls rfl (ls rfl (ls rfl (ls rfl (ls rfl (ls rfl (ls rfl (ls rfl (ls rfl (ls rfl (ls rfl (ls rfl (ls rfl (ls rfl (ls rfl (ls rfl (ls rfl (ls rfl (ls rfl (ls rfl (ls rfl (os rfl oz))))))))))))))))))))))))) ?_
          replace hz_6 := bnd_some hz_6
          obtain ⟨x_12, hx_12, hz_6⟩ := hz_6
          refine ztg2 _ rfl (ls rfl (ls rfl (ls rfl (ls rfl lz)))) (fun hg7_24_509 => opD_pure ht134_W6 (c_mbit (gif_some hx_12 hg7_24_509)) ⟨le_of_eq (lz.trans (pif_pos hg7_24_509)), trivial⟩) ?_
          refine ztg2 _ rfl (ls rfl (ls rfl (ls rfl (ls rfl (ls rfl lz))))) (fun hg7_25_510 => opD_bits (.inl rfl) ((ls rfl (ls rfl lz)).trans (pif_pos hg7_25_510)) (lz.trans (pif_pos hg7_25_510)) rfl) ?_
          refine ztg2 _ rfl (ls rfl (ls rfl (ls rfl (ls rfl (ls rfl (ls rfl lz)))))) (fun hg7_26_511 => opD_neq (lz.trans (pif_pos hg7_26_511)) (ev_const _ _)) ?_
          refine ztg _ rfl (ls rfl (ls rfl (ls rfl (ls rfl (ls rfl (ls rfl (ls rfl (ls rfl (ls rfl (ls rfl (ls rfl lz))))))))))) (fun hg7_27_512 => opD_and ((ls rfl (ls rfl (ls rfl (ls rfl (ls rfl (ls rfl (ls rfl lz))))))).trans (pif_pos hg7_27_512)) (lz.trans (pif_and hg7_27_512))) ?_
          refine zts _ rfl (opD_or (ls rfl (ls rfl (ls rfl (ls rfl (ls rfl (ls rfl (ls rfl (ls rfl (ls rfl (ls rfl (ls rfl (ls rfl lz)))))))))))) lz) ?_
          refine .nil ?_
          refine aw_keep [(1, _), (3, _), (5, _), (8, _), (39, _)] ⟨lg (ls rfl (ls rfl (ls rfl (ls rfl (ls rfl (ls rfl (ls rfl (ls rfl (ls rfl (ls rfl (ls rfl (ls rfl (ls rfl (ls rfl (ls rfl (ls rfl (ls rfl (ls rfl (ls rfl (ls rfl (ls rfl (ls rfl (ls rfl (ls rfl (ls rfl (ls rfl (ls rfl (ls rfl (ls rfl oz))))))))))))))))))))))))))))), lg (ls rfl (ls rfl (ls rfl (ls rfl (ls rfl (ls rfl (ls rfl (ls rfl (ls rfl (ls rfl (ls rfl (ls rfl (ls rfl (ls rfl (ls rfl (ls rfl (ls rfl (ls rfl (ls rfl (ls rfl (ls rfl (ls rfl (ls rfl (ls rfl (ls rfl (ls rfl (ls rfl (ls rfl (ls rfl (os rfl oz)))))))))))))))))))))))))))))), lg (ls rfl (ls rfl (ls rfl (ls rfl (ls rfl (ls rfl (ls rfl (ls rfl (ls rfl (ls rfl (ls rfl (ls rfl (ls rfl (ls rfl (ls rfl (ls rfl (ls rfl (ls rfl (ls rfl (ls rfl (ls rfl (ls rfl (ls rfl (ls rfl (ls rfl (ls rfl (ls rfl (ls rfl (ls rfl (os rfl (os rfl (os rfl oz)))))))))))))))))))))))))))))))), lg (ls rfl (ls rfl (ls rfl (ls rfl (ls rfl (ls rfl (ls rfl (ls rfl (ls rfl (ls rfl (ls rfl (ls rfl (ls rfl (ls rfl (ls rfl (ls rfl (ls rfl (ls rfl (ls rfl (ls rfl (ls rfl (ls rfl (ls rfl (ls rfl (ls rfl (ls rfl (ls rfl (ls rfl (ls rfl (os rfl (os rfl (os rfl (os rfl oz))))))))))))))))))))))))))))))))), lg lz, trivial⟩ ?_
          refine aw_cond _ (os rfl (os rfl (os rfl (os rfl oz)))) (fun hc => ?_) (fun hc => ?_)
          · skip
            replace hz_6 := ifb_t hz_6 hc
            clear hc
            refine aw_seq ?_
            refine aw_region (by decide) ?_
            refine rts _ rfl (opD_ple (q := pl (errV (some 1))) rfl (opD_makeInterface_pl cc145_W6 (ev_const _ _))) ?_
            refine rts _ rfl (opD_assign lz) ?_
            refine .nil ?_
            refine aw_keep [(2, _)] ⟨lg lz, trivial⟩ ?_
            refine aw_ret ?_
            obtain rfl := some_of hz_6
            replace hz_4 := ocs_r hz_4
            obtain rfl := some_of hz_4
            replace hz_3 := ocs_l hz_3
            obtain rfl := some_of hz_3
            replace hz_1 := ocs_r hz_1
            obtain rfl := some_of hz_1
            replace h0 := ocs_l h0
            refine wk_no ?_
            refine wk_no ?_
            refine wk_no ?_
            refine wk_no ?_
            obtain rfl := some_of h0
            exact done_ext (.inr rfl) ((res_one rfl (it_tmp oz)).le zLr) zPb
          · skip
            replace hz_6 := ifb_f hz_6 hc
            clear hc
            refine aw_skip ?_
            refine aw_keep [(1, _), (3, _), (5, _), (8, _)] ⟨lg oz, lg (os rfl oz), lg (os rfl (os rfl oz)), lg (os rfl (os rfl (os rfl oz))), trivial⟩ ?_
            refine aw_region (by decide) ?_
            refine rts _ rfl (opD_add (os rfl (os rfl (os rfl oz))) (ev_const _ _) rfl) ?_
            refine rts _ rfl (opD_move lz) ?_
            refine .nil ?_
            obtain rfl := some_of hz_6
            replace hz_4 := ocs_l hz_4
            refine wk_yesN rfl (l := [(1, ptr (s.boxes.length + 0) 0), (3, pl (.int .i64 t_2)), (5, pl (.int .i64 t_2)), (8, pl (.int .i64 (IntKind.i64.wrap (t_5 + 1))))]) (bs' := [⟨84, (flat (kI .u16) p0)⟩]) ⟨le_of_eq (eg (ls rfl (ls rfl oz))), le_of_eq (eg (ls rfl (ls rfl (os rfl oz)))), le_of_eq (eg (ls rfl (ls rfl (os rfl (os rfl oz))))), le_of_eq (eg lz), trivial⟩ (zbc (ptr_bnd _ (by first | omega | (simp only [List.length_append, List.length_cons, List.length_nil]; omega))) (zbc zPb (zbc zPb (zbc zPb bnd_nil)))) (zNb rfl) (by simp only [znz] <;> rfl) (bxle_same bxle_nil) rfl (by simp only [znz] <;> rfl) (bl_cons (flatKB (kb_I _)) bl_nil) ?_
            exact ⟨m_z_6, Nat.lt_succ_self _, IntKind.i64.wrap (t_5 + 1), ⟨le_of_eq (eg oz), le_of_eq (eg (os rfl oz)), le_of_eq (eg (os rfl (os rfl oz))), le_of_eq (eg (os rfl (os rfl (os rfl oz)))), trivial⟩, rfl, hz_4⟩
        · skip
          replace hz_6 := ifb_f hz_6 hc
          clear hc
          refine aw_exit ?_
          obtain rfl := some_of hz_6
          replace hz_4 := ocs_r hz_4
          refine wk_no ?_
          refine wk_yesN rfl (l := [(1, ptr (s.boxes.length + 0) 0), (5, pl (.int .i64 t_2))]) (bs' := [⟨84, (flat (kI .u16) p0)⟩]) ⟨le_of_eq (eg oz), le_of_eq (eg (os rfl (os rfl oz))), trivial⟩ (zbc (ptr_bnd _ (by first | omega | (simp only [List.length_append, List.length_cons, List.length_nil]; omega))) (zbc zPb bnd_nil)) (zNb rfl) (by simp only [znz] <;> rfl) (bxle_same bxle_nil) rfl (by simp only [znz] <;> rfl) (bl_cons (flatKB (kb_I _)) bl_nil) ?_
          exact ⟨(), ⟨le_of_eq (eg oz), le_of_eq (eg (os rfl oz)), trivial⟩, rfl, some_of hz_4⟩
      · rintro e st ⟨vz_4, hH, rfl, rfl⟩
        refine aw_keep _ hH ?_
        replace hz_3 := ocs_r hz_3
        refine aw_keep [(1, _), (5, _)] ⟨lg oz, lg (os rfl oz), trivial⟩ ?_
        refine aw_region (by decide) ?_
        refine rts _ rfl (opD_add (os rfl oz) (ev_const _ _) rfl) ?_
        refine rts _ rfl (opD_move lz) ?_
        refine .nil ?_
        obtain rfl := some_of hz_3
        replace hz_1 := ocs_l hz_1
        refine wk_yesN rfl (l := [(1, ptr (s.boxes.length + 0) 0), (5, pl (.int .i64 (IntKind.i64.wrap (t_2 + 1))))]) (bs' := [⟨84, (flat (kI .u16) p0)⟩]) ⟨le_of_eq (eg (ls rfl (ls rfl oz))), le_of_eq (eg lz), trivial⟩ (zbc (ptr_bnd _ (by first | omega | (simp only [List.length_append, List.length_cons, List.length_nil]; omega))) (zbc zPb bnd_nil)) (zNb rfl) (by simp only [znz] <;> rfl) (bxle_same bxle_nil) rfl (by simp only [znz] <;> rfl) (bl_cons (flatKB (kb_I _)) bl_nil) ?_
        exact ⟨m_z_3, Nat.lt_succ_self _, IntKind.i64.wrap (t_2 + 1), ⟨le_of_eq (eg oz), le_of_eq (eg (os rfl oz)), trivial⟩, rfl, hz_1⟩
    · skip
      replace hz_3 := ifb_f hz_3 hc
      clear hc
      refine aw_exit ?_
      obtain rfl := some_of hz_3
      replace hz_1 := ocs_r hz_1
      refine wk_no ?_
      refine wk_yesN rfl (l := []) (bs' := [⟨84, (flat (kI .u16) p0)⟩]) trivial bnd_nil (zNb rfl) (by simp only [znz] <;> rfl) (bxle_same bxle_nil) rfl (by simp only [znz] <;> rfl) (bl_cons (flatKB (kb_I _)) bl_nil) ?_
      exact ⟨(), trivial, rfl, some_of hz_1⟩
  · rintro e st ⟨vz_1, hH, rfl, rfl⟩
    refine aw_keep _ hH ?_
    replace h0 := ocs_r h0
    refine aw_keep [] trivial ?_
    refine aw_seq ?_
    refine aw_region (by decide) ?_
    refine rts _ rfl (opD_assign (ev_const _ _)) ?_
    refine .nil ?_
    refine aw_keep [(2, _)] ⟨lg lz, trivial⟩ ?_
    refine aw_ret ?_
    obtain rfl := some_of h0
    exact done_ext (.inr rfl) ((res_one rfl (it_tmp oz)).le zLr) zPb

def F_mtwo (fl : Nat) (p0 : (List Int)) (p1 : Int) (p2 : Int) : Option ((Option Int)) :=
  grd (p0.length = 16) <| bnd (F_mCheck fl p0) fun x_1 => bnd (gif (x_1.isSome == false) (F_mplace p1)) fun x_2 => bnd (gif ((x_1.isSome || (!x_2)) == false) (F_mplace p2)) fun x_3 => ifb (((x_1.isSome || (!x_2)) || (!x_3)) || (decide (p1 = p2))) (some (some 1)) (some none)
set_option maxRecDepth 100000 in
set_option maxHeartbeats 2000000 in
theorem c_mtwo {fl : Nat} {p0 : (List Int)} {p1 : Int} {p2 : Int} {R : (Option Int)} (h0 : F_mtwo fl p0 p1 p2 = some R) : Pure Tryd.prog 135 [agg (flat (kI .u16) p0), pl (.int .i64 p1), pl (.int .i64 p2)] (pl (errV R)) := by
  intro s
  unfold F_mtwo at h0
  refine ac_of_aw s.boxes.length s.fr.length Tryd.func135 rfl (by simp [Tryd.ntmps135]) ?_
  refine aw_ext0 ?_
  refine aw_keep [(0, _), (1, _), (2, _)] ⟨lg ez, lg (es ez), lg (es (es ez)), trivial⟩ ?_
  refine aw_seq ?_
  refine aw_region (by decide) ?_
  refine rts _ rfl (boxFN (k := kI .u16) (l := p0) rfl oz rfl (kb_I _) (by first | exact List.length_nil | (simp only [List.length_cons, List.length_nil, Nat.zero_add, Nat.reduceAdd] <;> rfl)) (by simp only [znz] <;> rfl)) ?_
  refine rts _ rfl (opD_assign (ev_const _ _)) ?_
  refine .nil ?_
  refine aw_keep [(1, _), (2, _), (3, _)] ⟨lg (ls rfl (ls rfl (os rfl oz))), lg (ls rfl (ls rfl (os rfl (os rfl oz)))), lg (ls rfl lz), trivial⟩ ?_
  refine aw_seq ?_
  refine aw_seq ?_
  refine aw_region (by decide) ?_
  replace h0 := grd_some h0
  obtain ⟨hg_1, h0⟩ := h0
  refine rts _ rfl (loadFN ag84_W6 sz84_W6 (os rfl (os rfl oz)) (loc_getN rfl rfl) rfl hg_1) ?_
  replace h0 := bnd_some h0
  obtain ⟨x_1, hx_1, h0⟩ := h0
  refine rts _ rfl (opD_pure ht99_W6 (c_mCheck hx_1) ⟨le_of_eq lz, trivial⟩) ?_
  refine rts _ rfl (opD_bin lz (ev_const _ _) (fun w => errV_guard _ w _) (fun w => errV_beq _ w)) ?_
  refine rts _ rfl (opD_move lz) ?_
  refine rtg _ rfl lz (fun hg1_4_2 => opD_move (ls rfl (ls rfl (ls rfl (ls rfl oz))))) ?_
  replace h0 := bnd_some h0
  obtain ⟨x_2, hx_2, h0⟩ := h0
  refine rtg _ rfl (ls rfl lz) (fun hg1_5_3 => opD_pure ht133_W6 (c_mplace (gif_some hx_2 hg1_5_3)) ⟨le_of_eq (lz.trans (pif_pos hg1_5_3)), trivial⟩) ?_
  refine rtg _ rfl (ls rfl (ls rfl lz)) (fun hg1_6_4 => opD_not (lz.trans (pif_pos hg1_6_4))) ?_
  refine rts _ rfl (opD_or (ls rfl (ls rfl (ls rfl lz))) lz) ?_
  refine rts _ rfl (opD_move lz) ?_
  refine rtg _ rfl lz (fun hg1_9_5 => opD_move (ls rfl (ls rfl (ls rfl (ls rfl (ls rfl (ls rfl (ls rfl (ls rfl (ls rfl (os rfl oz))))))))))) ?_
  replace h0 := bnd_some h0
  obtain ⟨x_3, hx_3, h0⟩ := h0
  refine rtg _ rfl (ls rfl lz) (fun hg1_10_6 => opD_pure ht133_W6 (c_mplace (gif_some hx_3 hg1_10_6)) ⟨le_of_eq (lz.trans (pif_pos hg1_10_6)), trivial⟩) ?_
  refine rtg _ rfl (ls rfl (ls rfl lz)) (fun hg1_11_7 => opD_not (lz.trans (pif_pos hg1_11_7))) ?_
  refine rts _ rfl (opD_or (ls rfl (ls rfl (ls rfl lz))) lz) ?_
  refine rts _ rfl (opD_move lz) ?_
  refine rtg _ rfl lz (fun hg1_14_8 => opD_move (ls rfl (ls rfl (ls rfl (ls rfl (ls rfl (ls rfl (ls rfl (ls rfl (ls rfl (ls rfl (ls rfl (ls rfl (ls rfl (ls rfl oz))))))))))))))) ?_
  refine rtg _ rfl (ls rfl lz) (fun hg1_15_9 => opD_move (ls rfl (ls rfl (ls rfl (ls rfl (ls rfl (ls rfl (ls rfl (ls rfl (ls rfl (ls rfl (ls rfl (ls rfl (ls rfl (ls rfl (ls rfl (os rfl oz))))))))))))))))) ?_
  refine rtg _ rfl (ls rfl (ls rfl lz)) (fun hg1_16_10 => opD_eql ((ls rfl lz).trans (pif_pos hg1_16_10)) (lz.trans (pif_pos hg1_16_10))) ?_
  refine rts _ rfl (opD_or (ls rfl (ls rfl (ls rfl lz))) lz) ?_
  refine .nil ?_
  refine aw_keep [(24, _)] ⟨lg lz, trivial⟩ ?_
  refine aw_cond _ oz (fun hc => ?_) (fun hc => ?_)
  · skip
    replace h0 := ifb_t h0 hc
    clear hc
    refine aw_seq ?_
    refine aw_region (by decide) ?_
    refine rts _ rfl (opD_ple (q := pl (errV (some 1))) rfl (opD_makeInterface_pl cc145_W6 (ev_const _ _))) ?_
    refine rts _ rfl (opD_assign lz) ?_
    refine .nil ?_
    refine aw_keep [(6, _)] ⟨lg lz, trivial⟩ ?_
    refine aw_ret ?_
    obtain rfl := some_of h0
    exact done_ext (.inr rfl) ((res_one rfl (it_tmp oz)).le zLr) zPb
  · skip
    replace h0 := ifb_f h0 hc
    clear hc
    refine aw_skip ?_
    refine aw_keep [] trivial ?_
    refine aw_seq ?_
    refine aw_region (by decide) ?_
    refine rts _ rfl (opD_assign (ev_const _ _)) ?_
    refine .nil ?_
    refine aw_keep [(6, _)] ⟨lg lz, trivial⟩ ?_
    refine aw_ret ?_
    obtain rfl := some_of h0
    exact done_ext (.inr rfl) ((res_one rfl (it_tmp oz)).le zLr) zPb

def F_mSees (fl : Nat) (p0 : (List Int)) (p1 : Int) (p2 : Int) : Option (Bool) :=
  grd (p0.length = 16) <| bnd (F_mCheck fl p0) fun x_1 => bnd (gif (x_1.isNone == true) (F_mplace p1)) fun x_2 => bnd (gif ((x_1.isNone && x_2) == true) (F_mplace p2)) fun x_3 => grd (((((x_1.isNone && x_2) && x_3) == true) && ((decide (p1 = p2)) == false)) = true → Below p1 16) <| grd (((((x_1.isNone && x_2) && x_3) == true) && ((decide (p1 = p2)) == false)) = true → Below ((p1.toNat : Nat) : Int) p0.length) <| bnd (gif ((((x_1.isNone && x_2) && x_3) == true) && ((decide (p1 = p2)) == false)) (F_mbit p2)) fun x_5 => some (((x_1.isNone && x_2) && x_3) && ((decide (p1 = p2)) || (decide ((bits BinOp.and .u16 (p0.getD p1.toNat default) x_5) ≠ 0))))
set_option maxRecDepth 100000 in
set_option maxHeartbeats 2000000 in
theorem c_mSees {fl : Nat} {p0 : (List Int)} {p1 : Int} {p2 : Int} {R : Bool} (h0 : F_mSees fl p0 p1 p2 = some R) : Pure Tryd.prog 95 [agg (flat (kI .u16) p0), pl (.int .i64 p1), pl (.int .i64 p2)] (pl (.bool R)) := by
  intro s
  unfold F_mSees at h0
  refine ac_of_aw s.boxes.length s.fr.length Tryd.func95 rfl (by simp [Tryd.ntmps95]) ?_
  refine aw_ext0 ?_
  refine aw_keep [(0, _), (1, _), (2, _)] ⟨lg ez, lg (es ez), lg (es (es ez)), trivial⟩ ?_
  refine aw_seq ?_
  refine aw_region (by decide) ?_
  refine rts _ rfl (boxFN (k := kI .u16) (l := p0) rfl oz rfl (kb_I _) (by first | exact List.length_nil | (simp only [List.length_cons, List.length_nil, Nat.zero_add, Nat.reduceAdd] <;> rfl)) (by simp only [znz] <;> rfl)) ?_
  refine rts _ rfl (opD_assign (ev_const _ _)) ?_
  refine .nil ?_
  refine aw_keep [(1, _), (2, _), (3, _)] ⟨lg (ls rfl (ls rfl (os rfl oz))), lg (ls rfl (ls rfl (os rfl (os rfl oz)))), lg (ls rfl lz), trivial⟩ ?_
  refine aw_seq ?_
  refine aw_flat mixed_W6 (by decide +kernel) ?_
  replace h0 := grd_some h0
  obtain ⟨hg_20, h0⟩ := h0
  refine zts _ rfl (loadFN ag84_W6 sz84_W6 (os rfl (os rfl oz)) (loc_getN rfl rfl) rfl hg_20) ?_
  replace h0 := bnd_some h0
  obtain ⟨x_1, hx_1, h0⟩ := h0
  refine zts _ rfl (opD_pure ht99_W6 (c_mCheck hx_1) ⟨le_of_eq lz, trivial⟩) ?_
  refine zts _ rfl (opD_bin lz (ev_const _ _) (fun w => errV_geql _ w _) (fun w => errV_eql _ w)) ?_
  refine zts _ rfl (opD_move lz) ?_
  refine ztg _ rfl lz (fun hg1_4_21 => opD_move (ls rfl (ls rfl (ls rfl (ls rfl oz))))) ?_
  replace h0 := bnd_some h0
  obtain ⟨x_2, hx_2, h0⟩ := h0
  refine ztg _ rfl (ls rfl lz) (fun hg1_5_22 => opD_pure ht133_W6 (c_mplace (gif_some hx_2 hg1_5_22)) ⟨le_of_eq (lz.trans (pif_pos hg1_5_22)), trivial⟩) ?_
  refine zts _ rfl (opD_and (ls rfl (ls rfl lz)) lz) ?_
  refine zts _ rfl (opD_move lz) ?_
  refine ztg _ rfl lz (fun hg1_8_23 => opD_move (ls rfl (ls rfl (ls rfl (ls rfl (ls rfl (ls rfl (ls rfl (ls rfl (os rfl oz)))))))))) ?_
  replace h0 := bnd_some h0
  obtain ⟨x_3, hx_3, h0⟩ := h0
  refine ztg _ rfl (ls rfl lz) (fun hg1_9_24 => opD_pure ht133_W6 (c_mplace (gif_some hx_3 hg1_9_24)) ⟨le_of_eq (lz.trans (pif_pos hg1_9_24)), trivial⟩) ?_
  refine zts _ rfl (opD_and (ls rfl (ls rfl lz)) lz) ?_
  refine zts _ rfl (opD_move lz) ?_
  refine ztg _ rfl lz (fun hg1_12_25 => opD_move (ls rfl (ls rfl (ls rfl (ls rfl (ls rfl (ls rfl (ls rfl (ls rfl (ls rfl (ls rfl (ls rfl (ls rfl oz))))))))))))) ?_
  refine ztg _ rfl (ls rfl lz) (fun hg1_13_26 => opD_move (ls rfl (ls rfl (ls rfl (ls rfl (ls rfl (ls rfl (ls rfl (ls rfl (ls rfl (ls rfl (ls rfl (ls rfl (ls rfl (os rfl oz))))))))))))))) ?_
  refine ztg _ rfl (ls rfl (ls rfl lz)) (fun hg1_14_27 => opD_eql ((ls rfl lz).trans (pif_pos hg1_14_27)) (lz.trans (pif_pos hg1_14_27))) ?_
  refine ztg _ rfl (ls rfl (ls rfl (ls rfl lz))) (fun hg1_15_28 => opD_move (lz.trans (pif_pos hg1_15_28))) ?_
  refine ztg2 _ rfl lz (fun hg1_16_29 => opD_move (ls rfl (ls rfl (ls rfl (ls rfl (ls rfl (ls rfl (ls rfl (ls rfl (ls rfl (ls rfl (ls rfl (ls rfl (ls rfl (ls rfl (ls rfl (ls rfl oz))))))))))))))))) ?_
  replace h0 := grd_some h0
  obtain ⟨hg_31, h0⟩ := h0
  refine ztg2 _ rfl (ls rfl lz) (fun hg1_17_30 => opD_indexAddr_arr (i := p1.toNat) Tryd.underlying84 sz77_W6 (ls rfl (ls rfl (ls rfl (ls rfl (ls rfl (ls rfl (ls rfl (ls rfl (ls rfl (ls rfl (ls rfl (ls rfl (ls rfl (ls rfl (ls rfl (ls rfl (ls rfl (os rfl (os rfl oz))))))))))))))))))) (lz.trans (pif_pos hg1_17_30)) (hg_31 hg1_17_30).eq (hg_31 hg1_17_30).2) ?_
  replace h0 := grd_some h0
  obtain ⟨hg_33, h0⟩ := h0
  refine ztg2 _ rfl (ls rfl (ls rfl lz)) (fun hg1_18_32 => opD_load_one ag77_W6 (lz.trans (pif_pos hg1_18_32)) (loc_getN rfl rfl) (flat_at0 rfl (at_getD default (nat_lt (hg_33 hg1_18_32))) rfl)) ?_
  refine ztg2 _ rfl (ls rfl (ls rfl (ls rfl lz))) (fun hg1_19_34 => opD_move (ls rfl (ls rfl (ls rfl (ls rfl (ls rfl (ls rfl (ls rfl (ls rfl (ls rfl (ls rfl (ls rfl (ls rfl (ls rfl (ls rfl (ls rfl (ls rfl (ls rfl (ls rfl (ls rfl (os rfl oz))))))))))))))))))))) ?_
  replace h0 := bnd_some h0
  obtain ⟨x_5, hx_5, h0⟩ := h0
  refine ztg2 _ rfl (ls rfl (ls rfl (ls rfl (ls rfl lz)))) (fun hg1_20_35 => opD_pure ht134_W6 (c_mbit (gif_some hx_5 hg1_20_35)) ⟨le_of_eq (lz.trans (pif_pos hg1_20_35)), trivial⟩) ?_
  refine ztg2 _ rfl (ls rfl (ls rfl (ls rfl (ls rfl (ls rfl lz))))) (fun hg1_21_36 => opD_bits (.inl rfl) ((ls rfl (ls rfl lz)).trans (pif_pos hg1_21_36)) (lz.trans (pif_pos hg1_21_36)) rfl) ?_
  refine ztg2 _ rfl (ls rfl (ls rfl (ls rfl (ls rfl (ls rfl (ls rfl lz)))))) (fun hg1_22_37 => opD_neq (lz.trans (pif_pos hg1_22_37)) (ev_const _ _)) ?_
  refine ztg _ rfl (ls rfl (ls rfl (ls rfl (ls rfl (ls rfl (ls rfl (ls rfl (ls rfl (ls rfl (ls rfl (ls rfl lz))))))))))) (fun hg1_23_38 => opD_or ((ls rfl (ls rfl (ls rfl (ls rfl (ls rfl (ls rfl (ls rfl lz))))))).trans (pif_pos hg1_23_38)) (lz.trans (pif_and hg1_23_38))) ?_
  refine zts _ rfl (opD_and (ls rfl (ls rfl (ls rfl (ls rfl (ls rfl (ls rfl (ls rfl (ls rfl (ls rfl (ls rfl (ls rfl (ls rfl lz)))))))))))) lz) ?_
  refine zts _ rfl (opD_assign lz) ?_
  refine .nil ?_
  refine aw_keep [(6, _)] ⟨lg lz, trivial⟩ ?_
  refine aw_ret ?_
  obtain rfl := some_of h0
  exact done_ext (.inr rfl) ((res_one rfl (it_tmp oz)).le zLr) zPb

def F_mOpen (fl : Nat) (p0 : (List Int)) (p1 : Int) (p2 : Int) : Option ((List Int) × (Option Int)) :=
  grd (p0.length = 16) <| bnd (F_mtwo fl p0 p1 p2) fun x_1 => ifb x_1.isSome (grd ((List.replicate 16 (0 : Int)).length = 16) <| grd ((List.replicate 16 (0 : Int)).length = 16) <| grd ((List.replicate 16 (0 : Int)).length = 16) <| some ((List.replicate 16 (0 : Int)), x_1)) (grd (Below p1 16) <| ixb p0 ((p1.toNat : Nat) : Int) fun x_2 => bnd (F_mbit p2) fun x_3 => grd (Below p1 16) <| grd (Below ((p1.toNat : Nat) : Int) p0.length) <| grd (Below p2 16) <| ixb (p0.set p1.toNat (bits BinOp.or .u16 x_2 x_3)) ((p2.toNat : Nat) : Int) fun x_4 => bnd (F_mbit p1) fun x_5 => grd (Below p2 16) <| grd (Below ((p2.toNat : Nat) : Int) (p0.set p1.toNat (bits BinOp.or .u16 x_2 x_3)).length) <| grd (((p0.set p1.toNat (bits BinOp.or .u16 x_2 x_3)).set p2.toNat (bits BinOp.or .u16 x_4 x_5)).length = 16) <| grd ((List.replicate 16 (0 : Int)).length = 16) <| grd (((p0.set p1.toNat (bits BinOp.or .u16 x_2 x_3)).set p2.toNat (bits BinOp.or .u16 x_4 x_5)).length = 16) <| grd (((p0.set p1.toNat (bits BinOp.or .u16 x_2 x_3)).set p2.toNat (bits BinOp.or .u16 x_4 x_5)).length = 16) <| some (((p0.set p1.toNat (bits BinOp.or .u16 x_2 x_3)).set p2.toNat (bits BinOp.or .u16 x_4 x_5)), none))
set_option maxRecDepth 100000 in
set_option maxHeartbeats 2000000 in
theorem c_mOpen {fl : Nat} {p0 : (List Int)} {p1 : Int} {p2 : Int} {R : (List Int) × (Option Int)} (h0 : F_mOpen fl p0 p1 p2 = some R) : Pure Tryd.prog 98 [agg (flat (kI .u16) p0), pl (.int .i64 p1), pl (.int .i64 p2)] (tup [agg (flat (kI .u16) R.1), pl (errV R.2)]) := by
  intro s
  unfold F_mOpen at h0
  refine ac_of_aw s.boxes.length s.fr.length Tryd.func98 rfl (by simp [Tryd.ntmps98]) ?_
  refine aw_ext0 ?_
  refine aw_keep [(0, _), (1, _), (2, _)] ⟨lg ez, lg (es ez), lg (es (es ez)), trivial⟩ ?_
  refine aw_seq ?_
  refine aw_region (by decide) ?_
  refine rts _ rfl (boxFN (k := kI .u16) (l := p0) rfl oz rfl (kb_I _) (by first | exact List.length_nil | (simp only [List.length_cons, List.length_nil, Nat.zero_add, Nat.reduceAdd] <;> rfl)) (by simp only [znz] <;> rfl)) ?_
  refine rts _ rfl (allocFN (k := kI .u16) (x0 := 0) (z := .int .u16 0) (m := 16) rfl (by kernel_rfl) rfl (by first | exact List.length_nil | (simp only [List.length_cons, List.length_nil, Nat.zero_add, Nat.reduceAdd] <;> rfl)) (by simp only [znz] <;> rfl)) ?_
  refine rts _ rfl (opD_assign (ev_const _ _)) ?_
  refine .nil ?_
  refine aw_keep [(1, _), (2, _), (3, _), (6, _)] ⟨lg (ls rfl (ls rfl (ls rfl (os rfl oz)))), lg (ls rfl (ls rfl (ls rfl (os rfl (os rfl oz))))), lg (ls rfl (ls rfl lz)), lg (ls rfl lz), trivial⟩ ?_
  refine aw_seq ?_
  refine aw_seq ?_
  refine aw_region (by decide) ?_
  replace h0 := grd_some h0
  obtain ⟨hg_1, h0⟩ := h0
  refine rts _ rfl (loadFN ag84_W6 sz84_W6 (os rfl (os rfl oz)) (loc_getN rfl rfl) rfl hg_1) ?_
  refine rts _ rfl (opD_move (ls rfl oz)) ?_
  refine rts _ rfl (opD_move (ls rfl (ls rfl (os rfl oz)))) ?_
  replace h0 := bnd_some h0
  obtain ⟨x_1, hx_1, h0⟩ := h0
  refine rts _ rfl (opD_pure ht135_W6 (c_mtwo hx_1) ⟨le_of_eq (ls rfl (ls rfl lz)), le_of_eq (ls rfl lz), le_of_eq lz, trivial⟩) ?_
  refine rts _ rfl (opD_assign lz) ?_
  refine .nil ?_
  refine aw_keep [(1, _), (2, _), (3, _), (6, _), (8, _)] ⟨lg (ls rfl (ls rfl (ls rfl (ls rfl (ls rfl oz))))), lg (ls rfl (ls rfl (ls rfl (ls rfl (ls rfl (os rfl oz)))))), lg (ls rfl (ls rfl (ls rfl (ls rfl (ls rfl (os rfl (os rfl oz))))))), lg (ls rfl (ls rfl (ls rfl (ls rfl (ls rfl (os rfl (os rfl (os rfl oz)))))))), lg lz, trivial⟩ ?_
  refine aw_seq ?_
  refine aw_region (by decide) ?_
  refine rts _ rfl (opD_move (os rfl (os rfl (os rfl (os rfl oz))))) ?_
  refine rts _ rfl (opD_bin lz (ev_const _ _) (fun w => errV_guard _ w _) (fun w => errV_beq _ w)) ?_
  refine .nil ?_
  refine aw_keep [(1, _), (2, _), (3, _), (6, _), (8, _), (14, _)] ⟨lg (ls rfl (ls rfl oz)), lg (ls rfl (ls rfl (os rfl oz))), lg (ls rfl (ls rfl (os rfl (os rfl oz)))), lg (ls rfl (ls rfl (os rfl (os rfl (os rfl oz))))), lg (ls rfl (ls rfl (os rfl (os rfl (os rfl (os rfl oz)))))), lg lz, trivial⟩ ?_
  refine aw_cond _ (os rfl (os rfl (os rfl (os rfl (os rfl oz))))) (fun hc => ?_) (fun hc => ?_)
  · skip
    replace h0 := ifb_t h0 hc
    clear hc
    refine aw_seq ?_
    refine aw_region (by decide) ?_
    refine rts _ rfl (opD_ple (q := agg (flat (kI .u16) (List.replicate 16 (0 : Int)))) rfl (opD_build_array (rs := [pl (.int .u16 0), pl (.int .u16 0), pl (.int .u16 0), pl (.int .u16 0), pl (.int .u16 0), pl (.int .u16 0), pl (.int .u16 0), pl (.int .u16 0), pl (.int .u16 0), pl (.int .u16 0), pl (.int .u16 0), pl (.int .u16 0), pl (.int .u16 0), pl (.int .u16 0), pl (.int .u16 0), pl (.int .u16 0)]) Tryd.underlying84 sz77_W6 zt84_W6 parts_nil rfl)) ?_
    refine rts _ rfl (opD_move (ls rfl (os rfl (os rfl (os rfl (os rfl oz)))))) ?_
    replace h0 := grd_some h0
    obtain ⟨hg_2, h0⟩ := h0
    replace h0 := grd_some h0
    obtain ⟨hg_3, h0⟩ := h0
    refine rts _ rfl (storeWF (k := kI .u16) rfl sz84_W6 (ls rfl (ls rfl (os rfl (os rfl (os rfl oz))))) (ls rfl lz) rfl rfl hg_2 hg_3 (by decide) (kb_I _) (by simp only [znz] <;> rfl)) ?_
    refine rts _ rfl (opD_assign (lx lz)) ?_
    refine .nil ?_
    refine aw_keep [(6, _), (7, _)] ⟨lg (ls rfl (lx (ls rfl (ls rfl (os rfl (os rfl (os rfl oz))))))), lg lz, trivial⟩ ?_
    refine aw_ret ?_
    replace h0 := grd_some h0
    obtain ⟨hlen, h0⟩ := h0
    obtain rfl := some_of h0
    exact done_ext (.inr rfl) ((res_list (rs := [_, _]) (ps := [_, _]) rfl rfl ⟨it_cellA (B := ⟨84, flat (kI .u16) (List.replicate 16 (0 : Int))⟩) ag84_W6 sz84_W6 oz (loc_getN rfl rfl) (flat_len1 rfl hlen), it_tmp (os rfl oz), trivial⟩).le (tup_le ⟨zLr, zLr, trivial⟩)) (tup_bnd (zbc (agg_bnd (flatKB (kb_I _))) (zbc zPb bnd_nil)))
  · skip
    replace h0 := ifb_f h0 hc
    clear hc
    refine aw_skip ?_
    refine aw_keep [(1, _), (2, _), (3, _), (6, _)] ⟨lg oz, lg (os rfl oz), lg (os rfl (os rfl oz)), lg (os rfl (os rfl (os rfl oz))), trivial⟩ ?_
    refine aw_seq ?_
    refine aw_drawn [false, false, false, false, false, false, false, true] [[0], [0], [0], [0], [0], [0], [0], [0, 1]] mixed_W6 (by decide +kernel) ?_
    refine dtp _ rfl (fun s => opD_move oz) ?_
    replace h0 := grd_some h0
    obtain ⟨hg_7, h0⟩ := h0
    refine dtp _ rfl (fun s => opD_indexAddr_arr (i := p1.toNat) Tryd.underlying84 sz77_W6 (ls rfl (os rfl (os rfl oz))) lz hg_7.eq hg_7.2) ?_
    replace h0 := ixb_some h0
    obtain ⟨x_2, hx_2, hbx_2, h0⟩ := h0
    refine dtl _ (fun s' => s'.boxes[(s.boxes.length + 0)]? = some ⟨84, (flat (kI .u16) p0)⟩) rfl (fun s' hs' => opD_load_one ag77_W6 lz hs' (flat_at0 rfl (nat_ix hx_2) rfl)) ?_
    refine dtp _ rfl (fun s => opD_move (ls rfl (ls rfl (ls rfl (os rfl oz))))) ?_
    replace h0 := bnd_some h0
    obtain ⟨x_3, hx_3, h0⟩ := h0
    refine dtp _ rfl (fun s => opD_pure ht134_W6 (c_mbit hx_3) ⟨le_of_eq lz, trivial⟩) ?_
    refine dtp _ rfl (fun s => opD_bits (.inr (.inl rfl)) (ls rfl (ls rfl lz)) lz rfl) ?_
    replace h0 := grd_some h0
    obtain ⟨hg_8, h0⟩ := h0
    refine dtp _ rfl (fun s => opD_indexAddr_arr (i := p1.toNat) Tryd.underlying84 sz77_W6 (ls rfl (ls rfl (ls rfl (ls rfl (ls rfl (ls rfl (os rfl (os rfl oz)))))))) (ls rfl (ls rfl (ls rfl (ls rfl (ls rfl lz))))) hg_8.eq hg_8.2) ?_
    replace h0 := grd_some h0
    obtain ⟨hg_9, h0⟩ := h0
    refine dta _ rfl (storeFN (k := kI .u16) (z := (bits BinOp.or .u16 x_2 x_3)) rfl sz77_W6 lz (le_of_eq (ls rfl lz)) (one_pl rfl) rfl rfl (nat_lt hg_9) rfl (kb_I _) (by simp only [znz] <;> rfl)) ?_
    refine .nil ?_
    dsimp only [List.nil_append, List.cons_append]
    refine ⟨rfl, ⟨trivial, trivial, ⟨(by first | exact loc_getN rfl rfl | exact ⟨_, loc_getN rfl rfl⟩ ), trivial⟩, trivial, trivial, trivial, trivial, trivial, trivial⟩, ?_⟩
    refine aw_keep [(1, _), (2, _), (3, _), (6, _)] ⟨lg (lx (ls rfl (ls rfl (ls rfl (ls rfl (ls rfl (ls rfl (ls rfl oz)))))))), lg (lx (ls rfl (ls rfl (ls rfl (ls rfl (ls rfl (ls rfl (ls rfl (os rfl oz))))))))), lg (lx (ls rfl (ls rfl (ls rfl (ls rfl (ls rfl (ls rfl (ls rfl (os rfl (os rfl oz)))))))))), lg (lx (ls rfl (ls rfl (ls rfl (ls rfl (ls rfl (ls rfl (ls rfl (os rfl (os rfl (os rfl oz))))))))))), trivial⟩ ?_
    refine aw_seq ?_
    refine aw_drawn [false, false, false, false, false, false, false, true] [[0], [0], [0], [0], [0], [0], [0], [0, 1]] mixed_W6 (by decide +kernel) ?_
    refine dtp _ rfl (fun s => opD_move (os rfl oz)) ?_
    replace h0 := grd_some h0
    obtain ⟨hg_13, h0⟩ := h0
    refine dtp _ rfl (fun s => opD_indexAddr_arr (i := p2.toNat) Tryd.underlying84 sz77_W6 (ls rfl (os rfl (os rfl oz))) lz hg_13.eq hg_13.2) ?_
    replace h0 := ixb_some h0
    obtain ⟨x_4, hx_4, hbx_4, h0⟩ := h0
    refine dtl _ (fun s' => s'.boxes[(s.boxes.length + 0)]? = some ⟨84, (flat (kI .u16) (p0.set p1.toNat (bits BinOp.or .u16 x_2 x_3)))⟩) rfl (fun s' hs' => opD_load_one ag77_W6 lz hs' (flat_at0 rfl (nat_ix hx_4) rfl)) ?_
    refine dtp _ rfl (fun s => opD_move (ls rfl (ls rfl (ls rfl oz)))) ?_
    replace h0 := bnd_some h0
    obtain ⟨x_5, hx_5, h0⟩ := h0
    refine dtp _ rfl (fun s => opD_pure ht134_W6 (c_mbit hx_5) ⟨le_of_eq lz, trivial⟩) ?_
    refine dtp _ rfl (fun s => opD_bits (.inr (.inl rfl)) (ls rfl (ls rfl lz)) lz rfl) ?_
    replace h0 := grd_some h0
    obtain ⟨hg_14, h0⟩ := h0
    refine dtp _ rfl (fun s => opD_indexAddr_arr (i := p2.toNat) Tryd.underlying84 sz77_W6 (ls rfl (ls rfl (ls rfl (ls rfl (ls rfl (ls rfl (os rfl (os rfl oz)))))))) (ls rfl (ls rfl (ls rfl (ls rfl (ls rfl lz))))) hg_14.eq hg_14.2) ?_
    replace h0 := grd_some h0
    obtain ⟨hg_15, h0⟩ := h0
    refine dta _ rfl (storeFN (k := kI .u16) (z := (bits BinOp.or .u16 x_4 x_5)) rfl sz77_W6 lz (le_of_eq (ls rfl lz)) (one_pl rfl) rfl rfl (nat_lt hg_15) rfl (kb_I _) (by simp only [znz] <;> rfl)) ?_
    refine .nil ?_
    dsimp only [List.nil_append, List.cons_append]
    refine ⟨rfl, ⟨trivial, trivial, ⟨(by first | exact loc_getN rfl rfl | exact ⟨_, loc_getN rfl rfl⟩ ), trivial⟩, trivial, trivial, trivial, trivial, trivial, trivial⟩, ?_⟩
    refine aw_keep [(3, _), (6, _)] ⟨lg (lx (ls rfl (ls rfl (ls rfl (ls rfl (ls rfl (ls rfl (ls rfl (os rfl (os rfl oz)))))))))), lg (lx (ls rfl (ls rfl (ls rfl (ls rfl (ls rfl (ls rfl (ls rfl (os rfl (os rfl (os rfl oz))))))))))), trivial⟩ ?_
    refine aw_seq ?_
    refine aw_region (by decide) ?_
    replace h0 := grd_some h0
    obtain ⟨hg_16, h0⟩ := h0
    refine rts _ rfl (loadFN ag84_W6 sz84_W6 oz (loc_getN rfl rfl) rfl hg_16) ?_
    replace h0 := grd_some h0
    obtain ⟨hg_17, h0⟩ := h0
    replace h0 := grd_some h0
    obtain ⟨hg_18, h0⟩ := h0
    refine rts _ rfl (storeWF (k := kI .u16) rfl sz84_W6 (ls rfl (os rfl oz)) lz rfl rfl hg_17 hg_18 (by decide) (kb_I _) (by simp only [znz] <;> rfl)) ?_
    refine rts _ rfl (opD_assign (ev_const _ _)) ?_
    refine .nil ?_
    refine aw_keep [(6, _), (7, _)] ⟨lg (ls rfl (lx (ls rfl (os rfl oz)))), lg lz, trivial⟩ ?_
    refine aw_ret ?_
    replace h0 := grd_some h0
    obtain ⟨hlen, h0⟩ := h0
    obtain rfl := some_of h0
    exact done_ext (.inr rfl) ((res_list (rs := [_, _]) (ps := [_, _]) rfl rfl ⟨it_cellA (B := ⟨84, flat (kI .u16) ((p0.set p1.toNat (bits BinOp.or .u16 x_2 x_3)).set p2.toNat (bits BinOp.or .u16 x_4 x_5))⟩) ag84_W6 sz84_W6 oz (loc_getN rfl rfl) (flat_len1 rfl hlen), it_tmp (os rfl oz), trivial⟩).le (tup_le ⟨zLr, zLr, trivial⟩)) (tup_bnd (zbc (agg_bnd (flatKB (kb_I _))) (zbc zPb bnd_nil)))

def F_mClose (fl : Nat) (p0 : (List Int)) (p1 : Int) (p2 : Int) : Option ((List Int) × (Option Int)) :=
  grd (p0.length = 16) <| bnd (F_mtwo fl p0 p1 p2) fun x_1 => ifb x_1.isSome (grd ((List.replicate 16 (0 : Int)).length = 16) <| grd ((List.replicate 16 (0 : Int)).length = 16) <| grd ((List.replicate 16 (0 : Int)).length = 16) <| some ((List.replicate 16 (0 : Int)), x_1)) (grd (Below p1 16) <| ixb p0 ((p1.toNat : Nat) : Int) fun x_2 => bnd (F_mbit p2) fun x_3 => grd (Below p1 16) <| grd (Below ((p1.toNat : Nat) : Int) p0.length) <| grd (Below p2 16) <| ixb (p0.set p1.toNat (bits BinOp.andNot .u16 x_2 x_3)) ((p2.toNat : Nat) : Int) fun x_4 => bnd (F_mbit p1) fun x_5 => grd (Below p2 16) <| grd (Below ((p2.toNat : Nat) : Int) (p0.set p1.toNat (bits BinOp.andNot .u16 x_2 x_3)).length) <| grd (((p0.set p1.toNat (bits BinOp.andNot .u16 x_2 x_3)).set p2.toNat (bits BinOp.andNot .u16 x_4 x_5)).length = 16) <| grd ((List.replicate 16 (0 : Int)).length = 16) <| grd (((p0.set p1.toNat (bits BinOp.andNot .u16 x_2 x_3)).set p2.toNat (bits BinOp.andNot .u16 x_4 x_5)).length = 16) <| grd (((p0.set p1.toNat (bits BinOp.andNot .u16 x_2 x_3)).set p2.toNat (bits BinOp.andNot .u16 x_4 x_5)).length = 16) <| some (((p0.set p1.toNat (bits BinOp.andNot .u16 x_2 x_3)).set p2.toNat (bits BinOp.andNot .u16 x_4 x_5)), none))
set_option maxRecDepth 100000 in
set_option maxHeartbeats 2000000 in
theorem c_mClose {fl : Nat} {p0 : (List Int)} {p1 : Int} {p2 : Int} {R : (List Int) × (Option Int)} (h0 : F_mClose fl p0 p1 p2 = some R) : Pure Tryd.prog 97 [agg (flat (kI .u16) p0), pl (.int .i64 p1), pl (.int .i64 p2)] (tup [agg (flat (kI .u16) R.1), pl (errV R.2)]) := by
  intro s
  unfold F_mClose at h0
  refine ac_of_aw s.boxes.length s.fr.length Tryd.func97 rfl (by simp [Tryd.ntmps97]) ?_
  refine aw_ext0 ?_
  refine aw_keep [(0, _), (1, _), (2, _)] ⟨lg ez, lg (es ez), lg (es (es ez)), trivial⟩ ?_
  refine aw_seq ?_
  refine aw_region (by decide) ?_
  refine rts _ rfl (boxFN (k := kI .u16) (l := p0) rfl oz rfl (kb_I _) (by first | exact List.length_nil | (simp only [List.length_cons, List.length_nil, Nat.zero_add, Nat.reduceAdd] <;> rfl)) (by simp only [znz] <;> rfl)) ?_
  refine rts _ rfl (allocFN (k := kI .u16) (x0 := 0) (z := .int .u16 0) (m := 16) rfl (by kernel_rfl) rfl (by first | exact List.length_nil | (simp only [List.length_cons, List.length_nil, Nat.zero_add, Nat.reduceAdd] <;> rfl)) (by simp only [znz] <;> rfl)) ?_
  refine rts _ rfl (opD_assign (ev_const _ _)) ?_
  refine .nil ?_
  refine aw_keep [(1, _), (2, _), (3, _), (6, _)] ⟨lg (ls rfl (ls rfl (ls rfl (os rfl oz)))), lg (ls rfl (ls rfl (ls rfl (os rfl (os rfl oz))))), lg (ls rfl (ls rfl lz)), lg (ls rfl lz), trivial⟩ ?_
  refine aw_seq ?_
  refine aw_seq ?_
  refine aw_region (by decide) ?_
  replace h0 := grd_some h0
  obtain ⟨hg_1, h0⟩ := h0
  refine rts _ rfl (loadFN ag84_W6 sz84_W6 (os rfl (os rfl oz)) (loc_getN rfl rfl) rfl hg_1) ?_
  refine rts _ rfl (opD_move (ls rfl oz)) ?_
  refine rts _ rfl (opD_move (ls rfl (ls rfl (os rfl oz)))) ?_
  replace h0 := bnd_some h0
  obtain ⟨x_1, hx_1, h0⟩ := h0
  refine rts _ rfl (opD_pure ht135_W6 (c_mtwo hx_1) ⟨le_of_eq (ls rfl (ls rfl lz)), le_of_eq (ls rfl lz), le_of_eq lz, trivial⟩) ?_
  refine rts _ rfl (opD_assign lz) ?_
  refine .nil ?_
  refine aw_keep [(1, _), (2, _), (3, _), (6, _), (8, _)] ⟨lg (ls rfl (ls rfl (ls rfl (ls rfl (ls rfl oz))))), lg (ls rfl (ls rfl (ls rfl (ls rfl (ls rfl (os rfl oz)))))), lg (ls rfl (ls rfl (ls rfl (ls rfl (ls rfl (os rfl (os rfl oz))))))), lg (ls rfl (ls rfl (ls rfl (ls rfl (ls rfl (os rfl (os rfl (os rfl oz)))))))), lg lz, trivial⟩ ?_
  refine aw_seq ?_
  refine aw_region (by decide) ?_
  refine rts _ rfl (opD_move (os rfl (os rfl (os rfl (os rfl oz))))) ?_
  refine rts _ rfl (opD_bin lz (ev_const _ _) (fun w => errV_guard _ w _) (fun w => errV_beq _ w)) ?_
  refine .nil ?_
  refine aw_keep [(1, _), (2, _), (3, _), (6, _), (8, _), (14, _)] ⟨lg (ls rfl (ls rfl oz)), lg (ls rfl (ls rfl (os rfl oz))), lg (ls rfl (ls rfl (os rfl (os rfl oz)))), lg (ls rfl (ls rfl (os rfl (os rfl (os rfl oz))))), lg (ls rfl (ls rfl (os rfl (os rfl (os rfl (os rfl oz)))))), lg lz, trivial⟩ ?_
  refine aw_cond _ (os rfl (os rfl (os rfl (os rfl (os rfl oz))))) (fun hc => ?_) (fun hc => ?_)
  · skip
    replace h0 := ifb_t h0 hc
    clear hc
    refine aw_seq ?_
    refine aw_region (by decide) ?_
    refine rts _ rfl (opD_ple (q := agg (flat (kI .u16) (List.replicate 16 (0 : Int)))) rfl (opD_build_array (rs := [pl (.int .u16 0), pl (.int .u16 0), pl (.int .u16 0), pl (.int .u16 0), pl (.int .u16 0), pl (.int .u16 0), pl (.int .u16 0), pl (.int .u16 0), pl (.int .u16 0), pl (.int .u16 0), pl (.int .u16 0), pl (.int .u16 0), pl (.int .u16 0), pl (.int .u16 0), pl (.int .u16 0), pl (.int .u16 0)]) Tryd.underlying84 sz77_W6 zt84_W6 parts_nil rfl)) ?_
    refine rts _ rfl (opD_move (ls rfl (os rfl (os rfl (os rfl (os rfl oz)))))) ?_
    replace h0 := grd_some h0
    obtain ⟨hg_2, h0⟩ := h0
    replace h0 := grd_some h0
    obtain ⟨hg_3, h0⟩ := h0
    refine rts _ rfl (storeWF (k := kI .u16) rfl sz84_W6 (ls rfl (ls rfl (os rfl (os rfl (os rfl oz))))) (ls rfl lz) rfl rfl hg_2 hg_3 (by decide) (kb_I _) (by simp only [znz] <;> rfl)) ?_
    refine rts _ rfl (opD_assign (lx lz)) ?_
    refine .nil ?_
    refine aw_keep [(6, _), (7, _)] ⟨lg (ls rfl (lx (ls rfl (ls rfl (os rfl (os rfl (os rfl oz))))))), lg lz, trivial⟩ ?_
    refine aw_ret ?_
    replace h0 := grd_some h0
    obtain ⟨hlen, h0⟩ := h0
    obtain rfl := some_of h0
    exact done_ext (.inr rfl) ((res_list (rs := [_, _]) (ps := [_, _]) rfl rfl ⟨it_cellA (B := ⟨84, flat (kI .u16) (List.replicate 16 (0 : Int))⟩) ag84_W6 sz84_W6 oz (loc_getN rfl rfl) (flat_len1 rfl hlen), it_tmp (os rfl oz), trivial⟩).le (tup_le ⟨zLr, zLr, trivial⟩)) (tup_bnd (zbc (agg_bnd (flatKB (kb_I _))) (zbc zPb bnd_nil)))
  · skip
    replace h0 := ifb_f h0 hc
    clear hc
    refine aw_skip ?_
    refine aw_keep [(1, _), (2, _), (3, _), (6, _)] ⟨lg oz, lg (os rfl oz), lg (os rfl (os rfl oz)), lg (os rfl (os rfl (os rfl oz))), trivial⟩ ?_
    refine aw_seq ?_
    refine aw_drawn [false, false, false, false, false, false, false, true] [[0], [0], [0], [0], [0], [0], [0], [0, 1]] mixed_W6 (by decide +kernel) ?_
    refine dtp _ rfl (fun s => opD_move oz) ?_
    replace h0 := grd_some h0
    obtain ⟨hg_7, h0⟩ := h0
    refine dtp _ rfl (fun s => opD_indexAddr_arr (i := p1.toNat) Tryd.underlying84 sz77_W6 (ls rfl (os rfl (os rfl oz))) lz hg_7.eq hg_7.2) ?_
    replace h0 := ixb_some h0
    obtain ⟨x_2, hx_2, hbx_2, h0⟩ := h0
    refine dtl _ (fun s' => s'.boxes[(s.boxes.length + 0)]? = some ⟨84, (flat (kI .u16) p0)⟩) rfl (fun s' hs' => opD_load_one ag77_W6 lz hs' (flat_at0 rfl (nat_ix hx_2) rfl)) ?_
    refine dtp _ rfl (fun s => opD_move (ls rfl (ls rfl (ls rfl (os rfl oz))))) ?_
    replace h0 := bnd_some h0
    obtain ⟨x_3, hx_3, h0⟩ := h0
    refine dtp _ rfl (fun s => opD_pure ht134_W6 (c_mbit hx_3) ⟨le_of_eq lz, trivial⟩) ?_
    refine dtp _ rfl (fun s => opD_bits (.inr (.inr (.inr rfl))) (ls rfl (ls rfl lz)) lz rfl) ?_
    replace h0 := grd_some h0
    obtain ⟨hg_8, h0⟩ := h0
    refine dtp _ rfl (fun s => opD_indexAddr_arr (i := p1.toNat) Tryd.underlying84 sz77_W6 (ls rfl (ls rfl (ls rfl (ls rfl (ls rfl (ls rfl (os rfl (os rfl oz)))))))) (ls rfl (ls rfl (ls rfl (ls rfl (ls rfl lz))))) hg_8.eq hg_8.2) ?_
    replace h0 := grd_some h0
    obtain ⟨hg_9, h0⟩ := h0
    refine dta _ rfl (storeFN (k := kI .u16) (z := (bits BinOp.andNot .u16 x_2 x_3)) rfl sz77_W6 lz (le_of_eq (ls rfl lz)) (one_pl rfl) rfl rfl (nat_lt hg_9) rfl (kb_I _) (by simp only [znz] <;> rfl)) ?_
    refine .nil ?_
    dsimp only [List.nil_append, List.cons_append]
    refine ⟨rfl, ⟨trivial, trivial, ⟨(by first | exact loc_getN rfl rfl | exact ⟨_, loc_getN rfl rfl⟩ ), trivial⟩, trivial, trivial, trivial, trivial, trivial, trivial⟩, ?_⟩
    refine aw_keep [(1, _), (2, _), (3, _), (6, _)] ⟨lg (lx (ls rfl (ls rfl (ls rfl (ls rfl (ls rfl (ls rfl (ls rfl oz)))))))), lg (lx (ls rfl (ls rfl (ls rfl (ls rfl (ls rfl (ls rfl (ls rfl (os rfl oz))))))))), lg (lx (ls rfl (ls rfl (ls rfl (ls rfl (ls rfl (ls rfl (ls rfl (os rfl (os rfl oz)))))))))), lg (lx (ls rfl (ls rfl (ls rfl (ls rfl (ls rfl (ls rfl (ls rfl (os rfl (os rfl (os rfl oz))))))))))), trivial⟩ ?_
    refine aw_seq ?_
    refine aw_drawn [false, false, false, false, false, false, false, true] [[0], [0], [0], [0], [0], [0], [0], [0, 1]] mixed_W6 (by decide +kernel) ?_
    refine dtp _ rfl (fun s => opD_move (os rfl oz)) ?_
    replace h0 := grd_some h0
    obtain ⟨hg_13, h0⟩ := h0
    refine dtp _ rfl (fun s => opD_indexAddr_arr (i := p2.toNat) Tryd.underlying84 sz77_W6 (ls rfl (os rfl (os rfl oz))) lz hg_13.eq hg_13.2) ?_
    replace h0 := ixb_some h0
    obtain ⟨x_4, hx_4, hbx_4, h0⟩ := h0
    refine dtl _ (fun s' => s'.boxes[(s.boxes.length + 0)]? = some ⟨84, (flat (kI .u16) (p0.set p1.toNat (bits BinOp.andNot .u16 x_2 x_3)))⟩) rfl (fun s' hs' => opD_load_one ag77_W6 lz hs' (flat_at0 rfl (nat_ix hx_4) rfl)) ?_
    refine dtp _ rfl (fun s => opD_move (ls rfl (ls rfl (ls rfl oz)))) ?_
    replace h0 := bnd_some h0
    obtain ⟨x_5, hx_5, h0⟩ := h0
    refine dtp _ rfl (fun s => opD_pure ht134_W6 (c_mbit hx_5) ⟨le_of_eq lz, trivial⟩) ?_
    refine dtp _ rfl (fun s => opD_bits (.inr (.inr (.inr rfl))) (ls rfl (ls rfl lz)) lz rfl) ?_
    replace h0 := grd_some h0
    obtain ⟨hg_14, h0⟩ := h0
    refine dtp _ rfl (fun s => opD_indexAddr_arr (i := p2.toNat) Tryd.underlying84 sz77_W6 (ls rfl (ls rfl (ls rfl (ls rfl (ls rfl (ls rfl (os rfl (os rfl oz)))))))) (ls rfl (ls rfl (ls rfl (ls rfl (ls rfl lz))))) hg_14.eq hg_14.2) ?_
    replace h0 := grd_some h0
    obtain ⟨hg_15, h0⟩ := h0
    refine dta _ rfl (storeFN (k := kI .u16) (z := (bits BinOp.andNot .u16 x_4 x_5)) rfl sz77_W6 lz (le_of_eq (ls rfl lz)) (one_pl rfl) rfl rfl (nat_lt hg_15) rfl (kb_I _) (by simp only [znz] <;> rfl)) ?_
    refine .nil ?_
    dsimp only [List.nil_append, List.cons_append]
    refine ⟨rfl, ⟨trivial, trivial, ⟨(by first | exact loc_getN rfl rfl | exact ⟨_, loc_getN rfl rfl⟩ ), trivial⟩, trivial, trivial, trivial, trivial, trivial, trivial⟩, ?_⟩
    refine aw_keep [(3, _), (6, _)] ⟨lg (lx (ls rfl (ls rfl (ls rfl (ls rfl (ls rfl (ls rfl (ls rfl (os rfl (os rfl oz)))))))))), lg (lx (ls rfl (ls rfl (ls rfl (ls rfl (ls rfl (ls rfl (ls rfl (os rfl (os rfl (os rfl oz))))))))))), trivial⟩ ?_
    refine aw_seq ?_
    refine aw_region (by decide) ?_
    replace h0 := grd_some h0
    obtain ⟨hg_16, h0⟩ := h0
    refine rts _ rfl (loadFN ag84_W6 sz84_W6 oz (loc_getN rfl rfl) rfl hg_16) ?_
    replace h0 := grd_some h0
    obtain ⟨hg_17, h0⟩ := h0
    replace h0 := grd_some h0
    obtain ⟨hg_18, h0⟩ := h0
    refine rts _ rfl (storeWF (k := kI .u16) rfl sz84_W6 (ls rfl (os rfl oz)) lz rfl rfl hg_17 hg_18 (by decide) (kb_I _) (by simp only [znz] <;> rfl)) ?_
    refine rts _ rfl (opD_assign (ev_const _ _)) ?_
    refine .nil ?_
    refine aw_keep [(6, _), (7, _)] ⟨lg (ls rfl (lx (ls rfl (os rfl oz)))), lg lz, trivial⟩ ?_
    refine aw_ret ?_
    replace h0 := grd_some h0
    obtain ⟨hlen, h0⟩ := h0
    obtain rfl := some_of h0
    exact done_ext (.inr rfl) ((res_list (rs := [_, _]) (ps := [_, _]) rfl rfl ⟨it_cellA (B := ⟨84, flat (kI .u16) ((p0.set p1.toNat (bits BinOp.andNot .u16 x_2 x_3)).set p2.toNat (bits BinOp.andNot .u16 x_4 x_5))⟩) ag84_W6 sz84_W6 oz (loc_getN rfl rfl) (flat_len1 rfl hlen), it_tmp (os rfl oz), trivial⟩).le (tup_le ⟨zLr, zLr, trivial⟩)) (tup_bnd (zbc (agg_bnd (flatKB (kb_I _))) (zbc zPb bnd_nil)))

def F_mLeave_b0 (p1 : Int) (t_4 : Int × (List Int)) : Option ((Int × (List Int)) ⊕ (((List Int)))) :=
  ifb (decide (t_4.1 < 16)) (grd (Below t_4.1 16) <| ixb t_4.2 ((t_4.1.toNat : Nat) : Int) fun x_6 => bnd (F_mbit p1) fun x_7 => grd (Below t_4.1 16) <| grd (Below ((t_4.1.toNat : Nat) : Int) t_4.2.length) <| some (.inl (IntKind.i64.wrap (t_4.1 + 1), (t_4.2.set t_4.1.toNat (bits BinOp.andNot .u16 x_6 x_7))))) (some (.inr t_4.2))
def F_mLeave (fl : Nat) (p0 : (List Int)) (p1 : Int) : Option ((List Int) × (Option Int)) :=
  grd (p0.length = 16) <| bnd (F_mCheck fl p0) fun x_1 => bnd (gif (x_1.isSome == false) (F_mplace p1)) fun x_2 => ifb (x_1.isSome || (!x_2)) (grd ((List.replicate 16 (0 : Int)).length = 16) <| grd ((List.replicate 16 (0 : Int)).length = 16) <| grd ((List.replicate 16 (0 : Int)).length = 16) <| some ((List.replicate 16 (0 : Int)), some 1)) (grd (Below p1 16) <| grd (Below ((p1.toNat : Nat) : Int) p0.length) <| bnd (lp (F_mLeave_b0 p1) fl (0, (p0.set p1.toNat 0))) fun z_3 => grd (z_3.length = 16) <| grd ((List.replicate 16 (0 : Int)).length = 16) <| grd (z_3.length = 16) <| grd (z_3.length = 16) <| some (z_3, none))
set_option maxRecDepth 100000 in
set_option maxHeartbeats 2000000 in
theorem c_mLeave {fl : Nat} {p0 : (List Int)} {p1 : Int} {R : (List Int) × (Option Int)} (h0 : F_mLeave fl p0 p1 = some R) : Pure Tryd.prog 96 [agg (flat (kI .u16) p0), pl (.int .i64 p1)] (tup [agg (flat (kI .u16) R.1), pl (errV R.2)]) := by
  intro s
  unfold F_mLeave at h0
  refine ac_of_aw s.boxes.length s.fr.length Tryd.func96 rfl (by simp [Tryd.ntmps96]) ?_
  refine aw_ext0 ?_
  refine aw_keep [(0, _), (1, _)] ⟨lg ez, lg (es ez), trivial⟩ ?_
  refine aw_seq ?_
  refine aw_region (by decide) ?_
  refine rts _ rfl (boxFN (k := kI .u16) (l := p0) rfl oz rfl (kb_I _) (by first | exact List.length_nil | (simp only [List.length_cons, List.length_nil, Nat.zero_add, Nat.reduceAdd] <;> rfl)) (by simp only [znz] <;> rfl)) ?_
  refine rts _ rfl (allocFN (k := kI .u16) (x0 := 0) (z := .int .u16 0) (m := 16) rfl (by kernel_rfl) rfl (by first | exact List.length_nil | (simp only [List.length_cons, List.length_nil, Nat.zero_add, Nat.reduceAdd] <;> rfl)) (by simp only [znz] <;> rfl)) ?_
  refine rts _ rfl (opD_assign (ev_const _ _)) ?_
  refine .nil ?_
  refine aw_keep [(1, _), (2, _), (4, _)] ⟨lg (ls rfl (ls rfl (ls rfl (os rfl oz)))), lg (ls rfl (ls rfl lz)), lg (ls rfl lz), trivial⟩ ?_
  refine aw_seq ?_
  refine aw_seq ?_
  refine aw_region (by decide) ?_
  replace h0 := grd_some h0
  obtain ⟨hg_1, h0⟩ := h0
  refine rts _ rfl (loadFN ag84_W6 sz84_W6 (os rfl oz) (loc_getN rfl rfl) rfl hg_1) ?_
  replace h0 := bnd_some h0
  obtain ⟨x_1, hx_1, h0⟩ := h0
  refine rts _ rfl (opD_pure ht99_W6 (c_mCheck hx_1) ⟨le_of_eq lz, trivial⟩) ?_
  refine rts _ rfl (opD_bin lz (ev_const _ _) (fun w => errV_guard _ w _) (fun w => errV_beq _ w)) ?_
  refine rts _ rfl (opD_move lz) ?_
  refine rtg _ rfl lz (fun hg1_4_2 => opD_move (ls rfl (ls rfl (ls rfl (ls rfl oz))))) ?_
  replace h0 := bnd_some h0
  obtain ⟨x_2, hx_2, h0⟩ := h0
  refine rtg _ rfl (ls rfl lz) (fun hg1_5_3 => opD_pure ht133_W6 (c_mplace (gif_some hx_2 hg1_5_3)) ⟨le_of_eq (lz.trans (pif_pos hg1_5_3)), trivial⟩) ?_
  refine rtg _ rfl (ls rfl (ls rfl lz)) (fun hg1_6_4 => opD_not (lz.trans (pif_pos hg1_6_4))) ?_
  refine rts _ rfl (opD_or (ls rfl (ls rfl (ls rfl lz))) lz) ?_
  refine .nil ?_
  refine aw_keep [(1, _), (2, _), (4, _), (14, _)] ⟨lg (ls rfl (ls rfl (ls rfl (ls rfl (ls rfl (ls rfl (ls rfl (ls rfl oz)))))))), lg (ls rfl (ls rfl (ls rfl (ls rfl (ls rfl (ls rfl (ls rfl (ls rfl (os rfl oz))))))))), lg (ls rfl (ls rfl (ls rfl (ls rfl (ls rfl (ls rfl (ls rfl (ls rfl (os rfl (os rfl oz)))))))))), lg lz, trivial⟩ ?_
  refine aw_cond _ (os rfl (os rfl (os rfl oz))) (fun hc => ?_) (fun hc => ?_)
  · skip
    replace h0 := ifb_t h0 hc
    clear hc
    refine aw_seq ?_
    refine aw_region (by decide) ?_
    refine rts _ rfl (opD_ple (q := agg (flat (kI .u16) (List.replicate 16 (0 : Int)))) rfl (opD_build_array (rs := [pl (.int .u16 0), pl (.int .u16 0), pl (.int .u16 0), pl (.int .u16 0), pl (.int .u16 0), pl (.int .u16 0), pl (.int .u16 0), pl (.int .u16 0), pl (.int .u16 0), pl (.int .u16 0), pl (.int .u16 0), pl (.int .u16 0), pl (.int .u16 0), pl (.int .u16 0), pl (.int .u16 0), pl (.int .u16 0)]) Tryd.underlying84 sz77_W6 zt84_W6 parts_nil rfl)) ?_
    refine rts _ rfl (opD_ple (q := pl (errV (some 1))) rfl (opD_makeInterface_pl cc145_W6 (ev_const _ _))) ?_
    replace h0 := grd_some h0
    obtain ⟨hg_5, h0⟩ := h0
    replace h0 := grd_some h0
    obtain ⟨hg_6, h0⟩ := h0
    refine rts _ rfl (storeWF (k := kI .u16) rfl sz84_W6 (ls rfl (ls rfl (os rfl (os rfl oz)))) (ls rfl lz) rfl rfl hg_5 hg_6 (by decide) (kb_I _) (by simp only [znz] <;> rfl)) ?_
    refine rts _ rfl (opD_assign (lx lz)) ?_
    refine .nil ?_
    refine aw_keep [(4, _), (5, _)] ⟨lg (ls rfl (lx (ls rfl (ls rfl (os rfl (os rfl oz)))))), lg lz, trivial⟩ ?_
    refine aw_ret ?_
    replace h0 := grd_some h0
    obtain ⟨hlen, h0⟩ := h0
    obtain rfl := some_of h0
    exact done_ext (.inr rfl) ((res_list (rs := [_, _]) (ps := [_, _]) rfl rfl ⟨it_cellA (B := ⟨84, flat (kI .u16) (List.replicate 16 (0 : Int))⟩) ag84_W6 sz84_W6 oz (loc_getN rfl rfl) (flat_len1 rfl hlen), it_tmp (os rfl oz), trivial⟩).le (tup_le ⟨zLr, zLr, trivial⟩)) (tup_bnd (zbc (agg_bnd (flatKB (kb_I _))) (zbc zPb bnd_nil)))
  · skip
    replace h0 := ifb_f h0 hc
    clear hc
    refine aw_skip ?_
    refine aw_keep [(1, _), (2, _), (4, _)] ⟨lg oz, lg (os rfl oz), lg (os rfl (os rfl oz)), trivial⟩ ?_
    refine aw_seq ?_
    refine aw_region (by decide) ?_
    refine rts _ rfl (opD_move oz) ?_
    replace h0 := grd_some h0
    obtain ⟨hg_7, h0⟩ := h0
    refine rts _ rfl (opD_indexAddr_arr (i := p1.toNat) Tryd.underlying84 sz77_W6 (ls rfl (os rfl oz)) lz hg_7.eq hg_7.2) ?_
    replace h0 := grd_some h0
    obtain ⟨hg_8, h0⟩ := h0
    refine rts _ rfl (storeFN (k := kI .u16) (z := 0) rfl sz77_W6 lz (le_of_eq (ev_const _ _)) (one_pl rfl) rfl rfl (nat_lt hg_8) rfl (kb_I _) (by simp only [znz] <;> rfl)) ?_
    refine .nil ?_
    refine aw_keep [(1, _), (2, _), (4, _)] ⟨lg (lx (ls rfl (ls rfl oz))), lg (lx (ls rfl (ls rfl (os rfl oz)))), lg (lx (ls rfl (ls rfl (os rfl (os rfl oz))))), trivial⟩ ?_
    refine aw_seq ?_
    refine aw_seq ?_
    refine aw_region (by decide) ?_
    refine rts _ rfl (opD_move (ev_const _ _)) ?_
    refine .nil ?_
    refine aw_keep [(1, _), (2, _), (4, _), (19, _)] ⟨lg (ls rfl oz), lg (ls rfl (os rfl oz)), lg (ls rfl (os rfl (os rfl oz))), lg lz, trivial⟩ ?_
    replace h0 := bnd_some h0
    obtain ⟨z_3, hz_3, h0⟩ := h0
    refine aw_mid (fun e st => ∃ v : (List Int), Holds e [(2, ptr (s.boxes.length + 0) 0), (4, ptr (s.boxes.length + 1) 0)] ∧ st = s.ext [⟨84, (flat (kI .u16) v)⟩, ⟨84, (flat (kI .u16) (List.replicate 16 (0 : Int)))⟩] [] ∧ v = z_3) ?_ ?_
    · skip
      refine aw_wkN rfl 2 0 rfl rfl ?_
      refine aw_block ?_
      refine aw_loop (fun n e st => ∃ v : Int × (List Int), Holds e [(1, pl (.int .i64 p1)), (2, ptr (s.boxes.length + 0) 0), (4, ptr (s.boxes.length + 1) 0), (19, pl (.int .i64 v.1))] ∧ st = s.ext [⟨84, (flat (kI .u16) v.2)⟩, ⟨84, (flat (kI .u16) (List.replicate 16 (0 : Int)))⟩] [] ∧ lp (F_mLeave_b0 p1) n v = some z_3) fl ⟨(0, (p0.set p1.toNat 0)), ⟨le_of_eq (eg oz), le_of_eq (eg (os rfl oz)), le_of_eq (eg (os rfl (os rfl oz))), le_of_eq (eg (os rfl (os rfl (os rfl oz)))), trivial⟩, rfl, hz_3⟩ ?_
      rintro n e st ⟨t_4, hH, rfl, hz_3⟩
      replace hz_3 := lp_some hz_3
      obtain ⟨m_z_5, z_5, rfl, hz_5, hz_3⟩ := hz_3
      unfold F_mLeave_b0 at hz_5
      refine aw_keep _ hH ?_
      refine aw_wkN rfl 2 0 rfl rfl ?_
      refine aw_seq ?_
      refine aw_region (by decide) ?_
      refine rts _ rfl (opD_lss (os rfl (os rfl (os rfl oz))) (ev_const _ _)) ?_
      refine .nil ?_
      refine aw_keep [(1, _), (2, _), (4, _), (19, _), (20, _)] ⟨lg (ls rfl oz), lg (ls rfl (os rfl oz)), lg (ls rfl (os rfl (os rfl oz))), lg (ls rfl (os rfl (os rfl (os rfl oz)))), lg lz, trivial⟩ ?_
      refine aw_seq ?_
      refine aw_cond _ (os rfl (os rfl (os rfl (os rfl oz)))) (fun hc => ?_) (fun hc => ?_)
      · skip
        replace hz_5 := ifb_t hz_5 hc
        clear hc
        refine aw_skip ?_
        refine aw_keep [(1, _), (2, _), (4, _), (19, _)] ⟨lg oz, lg (os rfl oz), lg (os rfl (os rfl oz)), lg (os rfl (os rfl (os rfl oz))), trivial⟩ ?_
        refine aw_seq ?_
        refine aw_block ?_
        refine aw_seq ?_
        refine aw_region (by decide) ?_
        refine rts _ rfl (opD_move (os rfl (os rfl (os rfl oz)))) ?_
        refine rts _ rfl (opD_assign lz) ?_
        refine .nil ?_
        refine aw_keep [(1, _), (2, _), (4, _), (6, _), (19, _)] ⟨lg (ls rfl (ls rfl oz)), lg (ls rfl (ls rfl (os rfl oz))), lg (ls rfl (ls rfl (os rfl (os rfl oz)))), lg lz, lg (ls rfl (ls rfl (os rfl (os rfl (os rfl oz))))), trivial⟩ ?_
        refine aw_drawn [false, false, false, false, false, false, false, true] [[0], [0], [0], [0], [0], [0], [0], [0, 1]] mixed_W6 (by decide +kernel) ?_
        refine dtp _ rfl (fun s => opD_move (os rfl (os rfl (os rfl oz)))) ?_
        replace hz_5 := grd_some hz_5
        obtain ⟨hg_30, hz_5⟩ := hz_5
        refine dtp _ rfl (fun s => opD_indexAddr_arr (i := t_4.1.toNat) Tryd.underlying84 sz77_W6 (ls rfl (os rfl oz)) lz hg_30.eq hg_30.2) ?_
        replace hz_5 := ixb_some hz_5
        obtain ⟨x_6, hx_6, hbx_6, hz_5⟩ := hz_5
        refine dtl _ (fun s' => s'.boxes[(s.boxes.length + 0)]? = some ⟨84, (flat (kI .u16) t_4.2)⟩) rfl (fun s' hs' => opD_load_one ag77_W6 lz hs' (flat_at0 rfl (nat_ix hx_6) rfl)) ?_
        refine dtp _ rfl (fun s => opD_move (ls rfl (ls rfl (ls rfl oz)))) ?_
        replace hz_5 := bnd_some hz_5
        obtain ⟨x_7, hx_7, hz_5⟩ := hz_5
        refine dtp _ rfl (fun s => opD_pure ht134_W6 (c_mbit hx_7) ⟨le_of_eq lz, trivial⟩) ?_
        refine dtp _ rfl (fun s => opD_bits (.inr (.inr (.inr rfl))) (ls rfl (ls rfl lz)) lz rfl) ?_
        replace hz_5 := grd_some hz_5
        obtain ⟨hg_31, hz_5⟩ := hz_5
        refine dtp _ rfl (fun s => opD_indexAddr_arr (i := t_4.1.toNat) Tryd.underlying84 sz77_W6 (ls rfl (ls rfl (ls rfl (ls rfl (ls rfl (ls rfl (os rfl oz))))))) (ls rfl (ls rfl (ls rfl (ls rfl (ls rfl lz))))) hg_31.eq hg_31.2) ?_
        replace hz_5 := grd_some hz_5
        obtain ⟨hg_32, hz_5⟩ := hz_5
        refine dta _ rfl (storeFN (k := kI .u16) (z := (bits BinOp.andNot .u16 x_6 x_7)) rfl sz77_W6 lz (le_of_eq (ls rfl lz)) (one_pl rfl) rfl rfl (nat_lt hg_32) rfl (kb_I _) (by simp only [znz] <;> rfl)) ?_
        refine .nil ?_
        dsimp only [List.nil_append, List.cons_append]
        refine ⟨rfl, ⟨trivial, trivial, ⟨(by first | exact loc_getN rfl rfl | exact ⟨_, loc_getN rfl rfl⟩ ), trivial⟩, trivial, trivial, trivial, trivial, trivial, trivial⟩, ?_⟩
        refine aw_keep [(1, _), (2, _), (4, _), (19, _)] ⟨lg (lx (ls rfl (ls rfl (ls rfl (ls rfl (ls rfl (ls rfl (ls rfl oz)))))))), lg (lx (ls rfl (ls rfl (ls rfl (ls rfl (ls rfl (ls rfl (ls rfl (os rfl oz))))))))), lg (lx (ls rfl (ls rfl (ls rfl (ls rfl (ls rfl (ls rfl (ls rfl (os rfl (os rfl oz)))))))))), lg (lx (ls rfl (ls rfl (ls rfl (ls rfl (ls rfl (ls rfl (ls rfl (os rfl (os rfl (os rfl (os rfl oz)))))))))))), trivial⟩ ?_
        refine aw_region (by decide) ?_
        refine rts _ rfl (opD_add (os rfl (os rfl (os rfl oz))) (ev_const _ _) rfl) ?_
        refine rts _ rfl (opD_move lz) ?_
        refine .nil ?_
        obtain rfl := some_of hz_5
        replace hz_3 := ocs_l hz_3
        refine wk_yesN rfl (l := [(1, pl (.int .i64 p1)), (2, ptr (s.boxes.length + 0) 0), (4, ptr (s.boxes.length + 1) 0), (19, pl (.int .i64 (IntKind.i64.wrap (t_4.1 + 1))))]) (bs' := [⟨84, (flat (kI .u16) (t_4.2.set t_4.1.toNat (bits BinOp.andNot .u16 x_6 x_7)))⟩, ⟨84, (flat (kI .u16) (List.replicate 16 (0 : Int)))⟩]) ⟨le_of_eq (eg (ls rfl (ls rfl oz))), le_of_eq (eg (ls rfl (ls rfl (os rfl oz)))), le_of_eq (eg (ls rfl (ls rfl (os rfl (os rfl oz))))), le_of_eq (eg lz), trivial⟩ (zbc zPb (zbc (ptr_bnd _ (by first | omega | (simp only [List.length_append, List.length_cons, List.length_nil]; omega))) (zbc (ptr_bnd _ (by first | omega | (simp only [List.length_append, List.length_cons, List.length_nil]; omega))) (zbc zPb bnd_nil)))) (zNb rfl) (by simp only [znz] <;> rfl) (bxle_same (bxle_same bxle_nil)) rfl (by simp only [znz] <;> rfl) (bl_cons (flatKB (kb_I _)) (bl_cons (flatKB (kb_I _)) bl_nil)) ?_
        exact ⟨m_z_5, Nat.lt_succ_self _, (IntKind.i64.wrap (t_4.1 + 1), (t_4.2.set t_4.1.toNat (bits BinOp.andNot .u16 x_6 x_7))), ⟨le_of_eq (eg oz), le_of_eq (eg (os rfl oz)), le_of_eq (eg (os rfl (os rfl oz))), le_of_eq (eg (os rfl (os rfl (os rfl oz)))), trivial⟩, rfl, hz_3⟩
      · skip
        replace hz_5 := ifb_f hz_5 hc
        clear hc
        refine aw_exit ?_
        obtain rfl := some_of hz_5
        replace hz_3 := ocs_r hz_3
        refine wk_no ?_
        refine wk_yesN rfl (l := [(2, ptr (s.boxes.length + 0) 0), (4, ptr (s.boxes.length + 1) 0)]) (bs' := [⟨84, (flat (kI .u16) t_4.2)⟩, ⟨84, (flat (kI .u16) (List.replicate 16 (0 : Int)))⟩]) ⟨le_of_eq (eg (os rfl oz)), le_of_eq (eg (os rfl (os rfl oz))), trivial⟩ (zbc (ptr_bnd _ (by first | omega | (simp only [List.length_append, List.length_cons, List.length_nil]; omega))) (zbc (ptr_bnd _ (by first | omega | (simp only [List.length_append, List.length_cons, List.length_nil]; omega))) bnd_nil)) (zNb rfl) (by simp only [znz] <;> rfl) (bxle_same (bxle_same bxle_nil)) rfl (by simp only [znz] <;> rfl) (bl_cons (flatKB (kb_I _)) (bl_cons (flatKB (kb_I _)) bl_nil)) ?_
        exact ⟨t_4.2, ⟨le_of_eq (eg oz), le_of_eq (eg (os rfl oz)), trivial⟩, rfl, some_of hz_3⟩
    · rintro e st ⟨vz_3, hH, rfl, rfl⟩
      refine aw_keep _ hH ?_
      refine aw_keep [(2, _), (4, _)] ⟨lg oz, lg (os rfl oz), trivial⟩ ?_
      refine aw_seq ?_
      refine aw_region (by decide) ?_
      replace h0 := grd_some h0
      obtain ⟨hg_33, h0⟩ := h0
      refine rts _ rfl (loadFN ag84_W6 sz84_W6 oz (loc_getN rfl rfl) rfl hg_33) ?_
      replace h0 := grd_some h0
      obtain ⟨hg_34, h0⟩ := h0
      replace h0 := grd_some h0
      obtain ⟨hg_35, h0⟩ := h0
      refine rts _ rfl (storeWF (k := kI .u16) rfl sz84_W6 (ls rfl (os rfl oz)) lz rfl rfl hg_34 hg_35 (by decide) (kb_I _) (by simp only [znz] <;> rfl)) ?_
      refine rts _ rfl (opD_assign (ev_const _ _)) ?_
      refine .nil ?_
      refine aw_keep [(4, _), (5, _)] ⟨lg (ls rfl (lx (ls rfl (os rfl oz)))), lg lz, trivial⟩ ?_
      refine aw_ret ?_
      replace h0 := grd_some h0
      obtain ⟨hlen, h0⟩ := h0
      obtain rfl := some_of h0
      exact done_ext (.inr rfl) ((res_list (rs := [_, _]) (ps := [_, _]) rfl rfl ⟨it_cellA (B := ⟨84, flat (kI .u16) vz_3⟩) ag84_W6 sz84_W6 oz (loc_getN rfl rfl) (flat_len1 rfl hlen), it_tmp (os rfl oz), trivial⟩).le (tup_le ⟨zLr, zLr, trivial⟩)) (tup_bnd (zbc (agg_bnd (flatKB (kb_I _))) (zbc zPb bnd_nil)))

def F_place1 (p0 : Tenant) (c1 : Int) : Option (Bool) :=
  some (decide (p0.ID = c1))
set_option maxRecDepth 100000 in
set_option maxHeartbeats 2000000 in
theorem c_place1 {p0 : Tenant} {c1 : Int} {R : Bool} (h0 : F_place1 p0 c1 = some R) : Pure Tryd.prog 94 [agg [pl (.int .u64 p0.ID), pl (.int .u64 p0.Gen), sl kStx none none p0.Ext], el (kI .u64) [c1] 0 0] (pl (.bool R)) := by
  intro s
  unfold F_place1 at h0
  refine ac_of_aw s.boxes.length s.fr.length Tryd.func94 rfl (by simp [Tryd.ntmps94]) ?_
  refine aw_ext0 ?_
  refine aw_keep [(0, _), (1, _)] ⟨lg ez, lg (es ez), trivial⟩ ?_
  refine aw_seq ?_
  refine aw_region (by decide) ?_
  refine rts _ rfl (boxAN (n := 0) rfl oz (zbc zPb (zbc zPb (zbc (sl_b kb_Stx) bnd_nil))) (by first | exact List.length_nil | (simp only [List.length_cons, List.length_nil, Nat.zero_add, Nat.reduceAdd] <;> rfl)) (by simp only [znz] <;> rfl)) ?_
  refine rts _ rfl (opD_assign (ev_const _ _)) ?_
  refine .nil ?_
  refine aw_keep [(1, _), (2, _)] ⟨lg (ls rfl (ls rfl (os rfl oz))), lg (ls rfl lz), trivial⟩ ?_
  refine aw_seq ?_
  refine aw_region (by decide) ?_
  refine rts _ rfl (opD_fieldAddr fo81_0_W6 (os rfl oz)) ?_
  refine rts _ rfl (opD_load_one ag56_W6 lz (loc_getN rfl rfl) rfl) ?_
  refine rts _ rfl (opD_load_el_one ag56_W6 (ls rfl (ls rfl oz)) rfl rfl) ?_
  refine rts _ rfl (opD_eql (ls rfl lz) lz) ?_
  refine rts _ rfl (opD_assign lz) ?_
  refine .nil ?_
  refine aw_keep [(3, _)] ⟨lg lz, trivial⟩ ?_
  refine aw_ret ?_
  obtain rfl := some_of h0
  exact done_ext (.inr rfl) ((res_one rfl (it_tmp oz)).le zLr) zPb

def F_ixId_b0 (p0 : (List Tenant)) (c1 : Int) (t_2 : Int) : Option ((Int) ⊕ ((Int) ⊕ (Unit))) :=
  ifb (decide (t_2 < (p0.length : Int))) (ixb p0 t_2 fun x_4 => bnd (F_place1 x_4 c1) fun x_5 => ifb x_5 (some (.inr (.inl t_2))) (some (.inl (IntKind.i64.wrap (t_2 + 1))))) (some (.inr (.inr ())))
def F_ixId (fl : Nat) (p0 : (List Tenant)) (c1 : Int) : Option (Int) :=
  bnd (lp (F_ixId_b0 p0 c1) fl 0) fun z_1 => ocs z_1 (fun qz_1_0 => some qz_1_0) fun z_1_0 => some (-1)
set_option maxRecDepth 100000 in
set_option maxHeartbeats 2000000 in
theorem c_ixId {fl : Nat} {p0 : (List Tenant)} {c1 : Int} {R : Int} (h0 : F_ixId fl p0 c1 = some R) : Pure Tryd.prog 90 [sl kTenant none none p0, fnc 94 (el (kI .u64) [c1] 0 0)] (pl (.int .i64 R)) := by
  intro s
  unfold F_ixId at h0
  refine ac_of_aw s.boxes.length s.fr.length Tryd.func90 rfl (by simp [Tryd.ntmps90]) ?_
  refine aw_ext0 ?_
  refine aw_keep [(0, _), (1, _)] ⟨lg ez, lg (es ez), trivial⟩ ?_
  refine aw_seq ?_
  refine aw_region (by decide) ?_
  refine rts _ rfl (opD_assign (ev_const _ _)) ?_
  refine .nil ?_
  refine aw_keep [(0, _), (1, _)] ⟨lg (ls rfl oz), lg (ls rfl (os rfl oz)), trivial⟩ ?_
  refine aw_seq ?_
  refine aw_seq ?_
  refine aw_region (by decide) ?_
  refine rts _ rfl (opD_move oz) ?_
  refine rts _ rfl (opD_len_sl Tryd.underlying171 lz) ?_
  refine rts _ rfl (opD_move (ev_const _ _)) ?_
  refine .nil ?_
  refine aw_keep [(0, _), (1, _), (7, _), (8, _)] ⟨lg (ls rfl (ls rfl (ls rfl oz))), lg (ls rfl (ls rfl (ls rfl (os rfl oz)))), lg (ls rfl lz), lg lz, trivial⟩ ?_
  replace h0 := bnd_some h0
  obtain ⟨z_1, hz_1, h0⟩ := h0
  refine aw_mid (fun e st => ∃ v : Unit, Holds e [] ∧ st = s.ext [] [] ∧ (.inr v) = z_1) ?_ ?_
  · skip
    refine aw_wkN rfl 0 0 rfl rfl ?_
    refine aw_block ?_
    refine aw_loop (fun n e st => ∃ v : Int, Holds e [(0, sl kTenant none none p0), (1, fnc 94 (el (kI .u64) [c1] 0 0)), (7, pl (.int .i64 (p0.length : Int))), (8, pl (.int .i64 v))] ∧ st = s.ext [] [] ∧ lp (F_ixId_b0 p0 c1) n v = some z_1) fl ⟨0, ⟨le_of_eq (eg oz), le_of_eq (eg (os rfl oz)), le_of_eq (eg (os rfl (os rfl oz))), le_of_eq (eg (os rfl (os rfl (os rfl oz)))), trivial⟩, rfl, hz_1⟩ ?_
    rintro n e st ⟨t_2, hH, rfl, hz_1⟩
    replace hz_1 := lp_some hz_1
    obtain ⟨m_z_3, z_3, rfl, hz_3, hz_1⟩ := hz_1
    unfold F_ixId_b0 at hz_3
    refine aw_keep _ hH ?_
    refine aw_wkN rfl 0 0 rfl rfl ?_
    refine aw_seq ?_
    refine aw_region (by decide) ?_
    refine rts _ rfl (opD_lss (os rfl (os rfl (os rfl oz))) (os rfl (os rfl oz))) ?_
    refine .nil ?_
    refine aw_keep [(0, _), (1, _), (7, _), (8, _), (9, _)] ⟨lg (ls rfl oz), lg (ls rfl (os rfl oz)), lg (ls rfl (os rfl (os rfl oz))), lg (ls rfl (os rfl (os rfl (os rfl oz)))), lg lz, trivial⟩ ?_
    refine aw_seq ?_
    refine aw_cond _ (os rfl (os rfl (os rfl (os rfl oz)))) (fun hc => ?_) (fun hc => ?_)
    · skip
      replace hz_3 := ifb_t hz_3 hc
      clear hc
      refine aw_skip ?_
      refine aw_keep [(0, _), (1, _), (7, _), (8, _)] ⟨lg oz, lg (os rfl oz), lg (os rfl (os rfl oz)), lg (os rfl (os rfl (os rfl oz))), trivial⟩ ?_
      refine aw_seq ?_
      refine aw_block ?_
      refine aw_seq ?_
      refine aw_region (by decide) ?_
      refine rts _ rfl (opD_move (os rfl (os rfl (os rfl oz)))) ?_
      refine rts _ rfl (opD_assign lz) ?_
      refine .nil ?_
      refine aw_keep [(0, _), (1, _), (5, _), (7, _), (8, _)] ⟨lg (ls rfl (ls rfl oz)), lg (ls rfl (ls rfl (os rfl oz))), lg lz, lg (ls rfl (ls rfl (os rfl (os rfl oz)))), lg (ls rfl (ls rfl (os rfl (os rfl (os rfl oz))))), trivial⟩ ?_
      refine aw_seq ?_
      refine aw_region (by decide) ?_
      refine rts _ rfl (opD_move (os rfl oz)) ?_
      refine rts _ rfl (opD_move (ls rfl oz)) ?_
      refine rts _ rfl (opD_move (ls rfl (ls rfl (os rfl (os rfl oz))))) ?_
      replace hz_3 := ixb_some hz_3
      obtain ⟨x_4, hx_4, hbx_4, hz_3⟩ := hz_3
      refine rts _ rfl (opD_indexAddr_sl (i := t_2.toNat) Tryd.underlying171 sz81_W6 (ls rfl lz) lz hbx_4.2.2 hbx_4.2.1) ?_
      refine rts _ rfl (opD_load_el_aggX (qs := [_, _, _]) ag81_W6 sz81_W6 lz hx_4 (zNb rfl) rfl) ?_
      replace hz_3 := bnd_some hz_3
      obtain ⟨x_5, hx_5, hz_3⟩ := hz_3
      refine rts _ rfl (opD_callC (ps := [agg [pl (.int .u64 x_4.ID), pl (.int .u64 x_4.Gen), sl kStx none none x_4.Ext]]) (q := el (kI .u64) [c1] 0 0) (ls rfl (ls rfl (ls rfl (ls rfl lz)))) ht94_W6 (c_place1 hx_5 _) ⟨(le_of_eq lz).trans (agg_le ⟨zLr, zLr, zLr, trivial⟩), trivial⟩) ?_
      refine .nil ?_
      refine aw_keep [(0, _), (1, _), (5, _), (7, _), (8, _), (16, _)] ⟨lg (ls rfl (ls rfl (ls rfl (ls rfl (ls rfl (ls rfl oz)))))), lg (ls rfl (ls rfl (ls rfl (ls rfl (ls rfl (ls rfl (os rfl oz))))))), lg (ls rfl (ls rfl (ls rfl (ls rfl (ls rfl (ls rfl (os rfl (os rfl oz)))))))), lg (ls rfl (ls rfl (ls rfl (ls rfl (ls rfl (ls rfl (os rfl (os rfl (os rfl oz))))))))), lg (ls rfl (ls rfl (ls rfl (ls rfl (ls rfl (ls rfl (os rfl (os rfl (os rfl (os rfl oz)))))))))), lg lz, trivial⟩ ?_
      refine aw_cond _ (os rfl (os rfl (os rfl (os rfl (os rfl oz))))) (fun hc => ?_) (fun hc => ?_)
      · skip
        replace hz_3 := ifb_t hz_3 hc
        clear hc
        refine aw_seq ?_
        refine aw_region (by decide) ?_
        refine rts _ rfl (opD_move (os rfl (os rfl oz))) ?_
        refine rts _ rfl (opD_assign lz) ?_
        refine .nil ?_
        refine aw_keep [(4, _)] ⟨lg lz, trivial⟩ ?_
        refine aw_ret ?_
        obtain rfl := some_of hz_3
        replace hz_1 := ocs_r hz_1
        obtain rfl := some_of hz_1
        replace h0 := ocs_l h0
        refine wk_no ?_
        refine wk_no ?_
        obtain rfl := some_of h0
        exact done_ext (.inr rfl) ((res_one rfl (it_tmp oz)).le zLr) zPb
      · skip
        replace hz_3 := ifb_f hz_3 hc
        clear hc
        refine aw_skip ?_
        refine aw_keep [(0, _), (1, _), (7, _), (8, _)] ⟨lg oz, lg (os rfl oz), lg (os rfl (os rfl (os rfl oz))), lg (os rfl (os rfl (os rfl (os rfl oz)))), trivial⟩ ?_
        refine aw_region (by decide) ?_
        refine rts _ rfl (opD_add (os rfl (os rfl (os rfl oz))) (ev_const _ _) rfl) ?_
        refine rts _ rfl (opD_move lz) ?_
        refine .nil ?_
        obtain rfl := some_of hz_3
        replace hz_1 := ocs_l hz_1
        refine wk_yesN rfl (l := [(0, sl kTenant none none p0), (1, fnc 94 (el (kI .u64) [c1] 0 0)), (7, pl (.int .i64 (p0.length : Int))), (8, pl (.int .i64 (IntKind.i64.wrap (t_2 + 1))))]) (bs' := []) ⟨le_of_eq (eg (ls rfl (ls rfl oz))), le_of_eq (eg (ls rfl (ls rfl (os rfl oz)))), le_of_eq (eg (ls rfl (ls rfl (os rfl (os rfl oz))))), le_of_eq (eg lz), trivial⟩ (zbc (sl_b kb_Tenant) (zbc (fnc_bnd (el_bnd (kb_I _))) (zbc zPb (zbc zPb bnd_nil)))) (zNb rfl) (by simp only [znz] <;> rfl) bxle_nil rfl (by simp only [znz] <;> rfl) bl_nil ?_
        exact ⟨m_z_3, Nat.lt_succ_self _, IntKind.i64.wrap (t_2 + 1), ⟨le_of_eq (eg oz), le_of_eq (eg (os rfl oz)), le_of_eq (eg (os rfl (os rfl oz))), le_of_eq (eg (os rfl (os rfl (os rfl oz)))), trivial⟩, rfl, hz_1⟩
    · skip
      replace hz_3 := ifb_f hz_3 hc
      clear hc
      refine aw_exit ?_
      obtain rfl := some_of hz_3
      replace hz_1 := ocs_r hz_1
      refine wk_no ?_
      refine wk_yesN rfl (l := []) (bs' := []) trivial bnd_nil (zNb rfl) (by simp only [znz] <;> rfl) bxle_nil rfl (by simp only [znz] <;> rfl) bl_nil ?_
      exact ⟨(), trivial, rfl, some_of hz_1⟩
  · rintro e st ⟨vz_1, hH, rfl, rfl⟩
    refine aw_keep _ hH ?_
    replace h0 := ocs_r h0
    refine aw_keep [] trivial ?_
    refine aw_seq ?_
    refine aw_region (by decide) ?_
    refine rts _ rfl (opD_assign (ev_const _ _)) ?_
    refine .nil ?_
    refine aw_keep [(4, _)] ⟨lg lz, trivial⟩ ?_
    refine aw_ret ?_
    obtain rfl := some_of h0
    exact done_ext (.inr rfl) ((res_one rfl (it_tmp oz)).le zLr) zPb

def F_ixNone_b0 (p0 : (List Tenant)) (t_2 : Int) : Option ((Int) ⊕ ((Int) ⊕ (Unit))) :=
  ifb (decide (t_2 < (p0.length : Int))) (ixb p0 t_2 fun x_4 => bnd (F_tnone x_4) fun x_5 => ifb x_5 (some (.inr (.inl t_2))) (some (.inl (IntKind.i64.wrap (t_2 + 1))))) (some (.inr (.inr ())))
def F_ixNone (fl : Nat) (p0 : (List Tenant)) : Option (Int) :=
  bnd (lp (F_ixNone_b0 p0) fl 0) fun z_1 => ocs z_1 (fun qz_1_0 => some qz_1_0) fun z_1_0 => some (-1)
set_option maxRecDepth 100000 in
set_option maxHeartbeats 2000000 in
theorem c_ixNone {fl : Nat} {p0 : (List Tenant)} {R : Int} (h0 : F_ixNone fl p0 = some R) : Pure Tryd.prog 90 [sl kTenant none none p0, pl (.func (.func 91) #[] #[])] (pl (.int .i64 R)) := by
  intro s
  unfold F_ixNone at h0
  refine ac_of_aw s.boxes.length s.fr.length Tryd.func90 rfl (by simp [Tryd.ntmps90]) ?_
  refine aw_ext0 ?_
  refine aw_keep [(0, _), (1, _)] ⟨lg ez, lg (es ez), trivial⟩ ?_
  refine aw_seq ?_
  refine aw_region (by decide) ?_
  refine rts _ rfl (opD_assign (ev_const _ _)) ?_
  refine .nil ?_
  refine aw_keep [(0, _), (1, _)] ⟨lg (ls rfl oz), lg (ls rfl (os rfl oz)), trivial⟩ ?_
  refine aw_seq ?_
  refine aw_seq ?_
  refine aw_region (by decide) ?_
  refine rts _ rfl (opD_move oz) ?_
  refine rts _ rfl (opD_len_sl Tryd.underlying171 lz) ?_
  refine rts _ rfl (opD_move (ev_const _ _)) ?_
  refine .nil ?_
  refine aw_keep [(0, _), (1, _), (7, _), (8, _)] ⟨lg (ls rfl (ls rfl (ls rfl oz))), lg (ls rfl (ls rfl (ls rfl (os rfl oz)))), lg (ls rfl lz), lg lz, trivial⟩ ?_
  replace h0 := bnd_some h0
  obtain ⟨z_1, hz_1, h0⟩ := h0
  refine aw_mid (fun e st => ∃ v : Unit, Holds e [] ∧ st = s.ext [] [] ∧ (.inr v) = z_1) ?_ ?_
  · skip
    refine aw_wkN rfl 0 0 rfl rfl ?_
    refine aw_block ?_
    refine aw_loop (fun n e st => ∃ v : Int, Holds e [(0, sl kTenant none none p0), (1, pl (.func (.func 91) #[] #[])), (7, pl (.int .i64 (p0.length : Int))), (8, pl (.int .i64 v))] ∧ st = s.ext [] [] ∧ lp (F_ixNone_b0 p0) n v = some z_1) fl ⟨0, ⟨le_of_eq (eg oz), le_of_eq (eg (os rfl oz)), le_of_eq (eg (os rfl (os rfl oz))), le_of_eq (eg (os rfl (os rfl (os rfl oz)))), trivial⟩, rfl, hz_1⟩ ?_
    rintro n e st ⟨t_2, hH, rfl, hz_1⟩
    replace hz_1 := lp_some hz_1
    obtain ⟨m_z_3, z_3, rfl, hz_3, hz_1⟩ := hz_1
    unfold F_ixNone_b0 at hz_3
    refine aw_keep _ hH ?_
    refine aw_wkN rfl 0 0 rfl rfl ?_
    refine aw_seq ?_
    refine aw_region (by decide) ?_
    refine rts _ rfl (opD_lss (os rfl (os rfl (os rfl oz))) (os rfl (os rfl oz))) ?_
    refine .nil ?_
    refine aw_keep [(0, _), (1, _), (7, _), (8, _), (9, _)] ⟨lg (ls rfl oz), lg (ls rfl (os rfl oz)), lg (ls rfl (os rfl (os rfl oz))), lg (ls rfl (os rfl (os rfl (os rfl oz)))), lg lz, trivial⟩ ?_
    refine aw_seq ?_
    refine aw_cond _ (os rfl (os rfl (os rfl (os rfl oz)))) (fun hc => ?_) (fun hc => ?_)
    · skip
      replace hz_3 := ifb_t hz_3 hc
      clear hc
      refine aw_skip ?_
      refine aw_keep [(0, _), (1, _), (7, _), (8, _)] ⟨lg oz, lg (os rfl oz), lg (os rfl (os rfl oz)), lg (os rfl (os rfl (os rfl oz))), trivial⟩ ?_
      refine aw_seq ?_
      refine aw_block ?_
      refine aw_seq ?_
      refine aw_region (by decide) ?_
      refine rts _ rfl (opD_move (os rfl (os rfl (os rfl oz)))) ?_
      refine rts _ rfl (opD_assign lz) ?_
      refine .nil ?_
      refine aw_keep [(0, _), (1, _), (5, _), (7, _), (8, _)] ⟨lg (ls rfl (ls rfl oz)), lg (ls rfl (ls rfl (os rfl oz))), lg lz, lg (ls rfl (ls rfl (os rfl (os rfl oz)))), lg (ls rfl (ls rfl (os rfl (os rfl (os rfl oz))))), trivial⟩ ?_
      refine aw_seq ?_
      refine aw_region (by decide) ?_
      refine rts _ rfl (opD_move (os rfl oz)) ?_
      refine rts _ rfl (opD_move (ls rfl oz)) ?_
      refine rts _ rfl (opD_move (ls rfl (ls rfl (os rfl (os rfl oz))))) ?_
      replace hz_3 := ixb_some hz_3
      obtain ⟨x_4, hx_4, hbx_4, hz_3⟩ := hz_3
      refine rts _ rfl (opD_indexAddr_sl (i := t_2.toNat) Tryd.underlying171 sz81_W6 (ls rfl lz) lz hbx_4.2.2 hbx_4.2.1) ?_
      refine rts _ rfl (opD_load_el_aggX (qs := [_, _, _]) ag81_W6 sz81_W6 lz hx_4 (zNb rfl) rfl) ?_
      replace hz_3 := bnd_some hz_3
      obtain ⟨x_5, hx_5, hz_3⟩ := hz_3
      refine rts _ rfl (opD_pureD (ls rfl (ls rfl (ls rfl (ls rfl lz)))) ht91_W6 (c_tnone hx_5) ⟨(le_of_eq lz).trans (agg_le ⟨zLr, zLr, zLr, trivial⟩), trivial⟩) ?_
      refine .nil ?_
      refine aw_keep [(0, _), (1, _), (5, _), (7, _), (8, _), (16, _)] ⟨lg (ls rfl (ls rfl (ls rfl (ls rfl (ls rfl (ls rfl oz)))))), lg (ls rfl (ls rfl (ls rfl (ls rfl (ls rfl (ls rfl (os rfl oz))))))), lg (ls rfl (ls rfl (ls rfl (ls rfl (ls rfl (ls rfl (os rfl (os rfl oz)))))))), lg (ls rfl (ls rfl (ls rfl (ls rfl (ls rfl (ls rfl (os rfl (os rfl (os rfl oz))))))))), lg (ls rfl (ls rfl (ls rfl (ls rfl (ls rfl (ls rfl (os rfl (os rfl (os rfl (os rfl oz)))))))))), lg lz, trivial⟩ ?_
      refine aw_cond _ (os rfl (os rfl (os rfl (os rfl (os rfl oz))))) (fun hc => ?_) (fun hc => ?_)
      · skip
        replace hz_3 := ifb_t hz_3 hc
        clear hc
        refine aw_seq ?_
        refine aw_region (by decide) ?_
        refine rts _ rfl (opD_move (os rfl (os rfl oz))) ?_
        refine rts _ rfl (opD_assign lz) ?_
        refine .nil ?_
        refine aw_keep [(4, _)] ⟨lg lz, trivial⟩ ?_
        refine aw_ret ?_
        obtain rfl := some_of hz_3
        replace hz_1 := ocs_r hz_1
        obtain rfl := some_of hz_1
        replace h0 := ocs_l h0
        refine wk_no ?_
        refine wk_no ?_
        obtain rfl := some_of h0
        exact done_ext (.inr rfl) ((res_one rfl (it_tmp oz)).le zLr) zPb
      · skip
        replace hz_3 := ifb_f hz_3 hc
        clear hc
        refine aw_skip ?_
        refine aw_keep [(0, _), (1, _), (7, _), (8, _)] ⟨lg oz, lg (os rfl oz), lg (os rfl (os rfl (os rfl oz))), lg (os rfl (os rfl (os rfl (os rfl oz)))), trivial⟩ ?_
        refine aw_region (by decide) ?_
        refine rts _ rfl (opD_add (os rfl (os rfl (os rfl oz))) (ev_const _ _) rfl) ?_
        refine rts _ rfl (opD_move lz) ?_
        refine .nil ?_
        obtain rfl := some_of hz_3
        replace hz_1 := ocs_l hz_1
        refine wk_yesN rfl (l := [(0, sl kTenant none none p0), (1, pl (.func (.func 91) #[] #[])), (7, pl (.int .i64 (p0.length : Int))), (8, pl (.int .i64 (IntKind.i64.wrap (t_2 + 1))))]) (bs' := []) ⟨le_of_eq (eg (ls rfl (ls rfl oz))), le_of_eq (eg (ls rfl (ls rfl (os rfl oz)))), le_of_eq (eg (ls rfl (ls rfl (os rfl (os rfl oz))))), le_of_eq (eg lz), trivial⟩ (zbc (sl_b kb_Tenant) (zbc zPb (zbc zPb (zbc zPb bnd_nil)))) (zNb rfl) (by simp only [znz] <;> rfl) bxle_nil rfl (by simp only [znz] <;> rfl) bl_nil ?_
        exact ⟨m_z_3, Nat.lt_succ_self _, IntKind.i64.wrap (t_2 + 1), ⟨le_of_eq (eg oz), le_of_eq (eg (os rfl oz)), le_of_eq (eg (os rfl (os rfl oz))), le_of_eq (eg (os rfl (os rfl (os rfl oz)))), trivial⟩, rfl, hz_1⟩
    · skip
      replace hz_3 := ifb_f hz_3 hc
      clear hc
      refine aw_exit ?_
      obtain rfl := some_of hz_3
      replace hz_1 := ocs_r hz_1
      refine wk_no ?_
      refine wk_yesN rfl (l := []) (bs' := []) trivial bnd_nil (zNb rfl) (by simp only [znz] <;> rfl) bxle_nil rfl (by simp only [znz] <;> rfl) bl_nil ?_
      exact ⟨(), trivial, rfl, some_of hz_1⟩
  · rintro e st ⟨vz_1, hH, rfl, rfl⟩
    refine aw_keep _ hH ?_
    replace h0 := ocs_r h0
    refine aw_keep [] trivial ?_
    refine aw_seq ?_
    refine aw_region (by decide) ?_
    refine rts _ rfl (opD_assign (ev_const _ _)) ?_
    refine .nil ?_
    refine aw_keep [(4, _)] ⟨lg lz, trivial⟩ ?_
    refine aw_ret ?_
    obtain rfl := some_of h0
    exact done_ext (.inr rfl) ((res_one rfl (it_tmp oz)).le zLr) zPb

def F_dnext (fl : Nat) (p0 : Dir) : Option (Dir × (Option Int)) :=
  ifb (decide (4611686018427387904 ≤ p0.Seq)) (some ((default : Dir), some 2)) (bnd (F_dcopied fl p0) fun x_1 => some (({ x_1 with Seq := IntKind.u64.wrap (x_1.Seq + 1) } : Dir), none))
set_option maxRecDepth 100000 in
set_option maxHeartbeats 2000000 in
theorem c_dnext {fl : Nat} {p0 : Dir} {R : Dir × (Option Int)} (h0 : F_dnext fl p0 = some R) : Pure Tryd.prog 93 [agg (kDir.cs p0)] (tup [agg (kDir.cs R.1), pl (errV R.2)]) := by
  intro s
  unfold F_dnext at h0
  refine ac_of_aw s.boxes.length s.fr.length Tryd.func93 rfl (by simp [Tryd.ntmps93]) ?_
  refine aw_ext0 ?_
  refine aw_keep [(0, _)] ⟨lg ez, trivial⟩ ?_
  refine aw_seq ?_
  refine aw_region (by decide) ?_
  refine rts _ rfl (boxAN (n := 0) rfl oz (kb_Dir _ _ _) (by first | exact List.length_nil | (simp only [List.length_cons, List.length_nil, Nat.zero_add, Nat.reduceAdd] <;> rfl)) (by simp only [znz] <;> rfl)) ?_
  refine rts _ rfl (opD_wkN rfl (allocN (bs' := [⟨86, (kDir.cs p0)⟩, ⟨86, zl1⟩]) rfl zt86_W6 (by first | exact List.length_nil | (simp only [List.length_cons, List.length_nil, Nat.zero_add, Nat.reduceAdd] <;> rfl)) (by simp only [znz] <;> rfl)) (bxle_same (bxle_cons (B := ⟨86, zl1⟩) (C := ⟨86, kDir.cs (default : Dir)⟩) (@Eq.refl TypeId 86) kDir_zero bxle_nil)) (bl_cons (kb_Dir _ _ _) (bl_cons (kb_Dir _ _ _) bl_nil))) ?_
  refine rts _ rfl (opD_assign (ev_const _ _)) ?_
  refine .nil ?_
  refine aw_keep [(1, _), (2, _)] ⟨lg (ls rfl (ls rfl lz)), lg (ls rfl lz), trivial⟩ ?_
  refine aw_seq ?_
  refine aw_seq ?_
  refine aw_region (by decide) ?_
  refine rts _ rfl (opD_fieldAddr fo86_0_W6 oz) ?_
  refine rts _ rfl (opD_load_one ag56_W6 lz (loc_getN rfl rfl) rfl) ?_
  refine rts _ rfl (opD_geq lz (ev_const _ _)) ?_
  refine .nil ?_
  refine aw_keep [(1, _), (2, _), (7, _)] ⟨lg (ls rfl (ls rfl (ls rfl oz))), lg (ls rfl (ls rfl (ls rfl (os rfl oz)))), lg lz, trivial⟩ ?_
  refine aw_cond _ (os rfl (os rfl oz)) (fun hc => ?_) (fun hc => ?_)
  · skip
    replace h0 := ifb_t h0 hc
    clear hc
    refine aw_seq ?_
    refine aw_region (by decide) ?_
    refine rts _ rfl (opD_ple (q := agg (kDir.cs (default : Dir))) rfl (opD_le (opD_build_struct (rs := zl1) Tryd.underlying86 pt86_W6 zt86_W6 parts_nil rfl) (agg_le kDir_zero))) ?_
    refine rts _ rfl (opD_ple (q := pl (errV (some 2))) rfl (opD_makeInterface_pl cc145_W6 (ev_const _ _))) ?_
    refine rts _ rfl (storeAN (cs' := kDir.cs (default : Dir)) rfl sz86_W6 (ls rfl (ls rfl (os rfl oz))) (ls rfl lz) (fun p_ h_ => kDir.one _ p_ h_) rfl (kDir_len _) (by rw [kDir_len]; exact Nat.le_refl _) (by intro h_; have := congrArg List.length h_; rw [kDir_len] at this; cases this) (kb_Dir _ _ _) (kDir_put _ _) (by simp only [znz] <;> rfl)) ?_
    refine rts _ rfl (opD_assign (lx lz)) ?_
    refine .nil ?_
    refine aw_keep [(2, _), (3, _)] ⟨lg (ls rfl (lx (ls rfl (ls rfl (os rfl oz))))), lg lz, trivial⟩ ?_
    refine aw_ret ?_
    obtain rfl := some_of h0
    exact done_ext (.inr rfl) ((res_list (rs := [_, _]) (ps := [_, _]) rfl rfl ⟨it_cellA (B := ⟨86, kDir.cs (default : Dir)⟩) ag86_W6 sz86_W6 oz (loc_getN rfl rfl) (kDir_len _), it_tmp (os rfl oz), trivial⟩).le (tup_le ⟨zLr, zLr, trivial⟩)) (tup_bnd (zbc (agg_bnd (kb_Dir _ _ _)) (zbc zPb bnd_nil)))
  · skip
    replace h0 := ifb_f h0 hc
    clear hc
    refine aw_skip ?_
    refine aw_keep [(1, _), (2, _)] ⟨lg oz, lg (os rfl oz), trivial⟩ ?_
    refine aw_seq ?_
    refine aw_region (by decide) ?_
    refine rts _ rfl (opD_load_aggX ag86_W6 sz86_W6 oz (loc_getN rfl rfl) (by rw [kDir_len]; exact Nat.le_refl _) (kDir_full _)) ?_
    replace h0 := bnd_some h0
    obtain ⟨x_1, hx_1, h0⟩ := h0
    refine rts _ rfl (opD_pure ht132_W6 (c_dcopied hx_1) ⟨le_of_eq lz, trivial⟩) ?_
    refine rts _ rfl (opD_wkN rfl (allocN (bs' := [⟨86, (kDir.cs p0)⟩, ⟨86, (kDir.cs (default : Dir))⟩, ⟨86, zl1⟩]) rfl zt86_W6 (by first | exact List.length_nil | (simp only [List.length_cons, List.length_nil, Nat.zero_add, Nat.reduceAdd] <;> rfl)) (by simp only [znz] <;> rfl)) (bxle_same (bxle_same (bxle_cons (B := ⟨86, zl1⟩) (C := ⟨86, kDir.cs (default : Dir)⟩) (@Eq.refl TypeId 86) kDir_zero bxle_nil))) (bl_cons (kb_Dir _ _ _) (bl_cons (kb_Dir _ _ _) (bl_cons (kb_Dir _ _ _) bl_nil)))) ?_
    refine rts _ rfl (storeAN (cs' := kDir.cs x_1) rfl sz86_W6 lz (ls rfl lz) (fun p_ h_ => kDir.one _ p_ h_) rfl (kDir_len _) (by rw [kDir_len]; exact Nat.le_refl _) (by intro h_; have := congrArg List.length h_; rw [kDir_len] at this; cases this) (kb_Dir _ _ _) (kDir_put _ _) (by simp only [znz] <;> rfl)) ?_
    refine .nil ?_
    refine aw_keep [(2, _), (4, _)] ⟨lg (lx (ls rfl (ls rfl (ls rfl (os rfl oz))))), lg (lx lz), trivial⟩ ?_
    refine aw_seq ?_
    refine aw_region (by decide) ?_
    refine rts _ rfl (opD_fieldAddr fo86_0_W6 (os rfl oz)) ?_
    refine rts _ rfl (opD_load_one ag56_W6 lz (loc_getN rfl rfl) rfl) ?_
    refine rts _ rfl (opD_add lz (ev_const _ _) rfl) ?_
    refine rts _ rfl (opD_fieldAddr fo86_0_W6 (ls rfl (ls rfl (ls rfl (os rfl oz))))) ?_
    refine rts _ rfl (storeON (cs' := kDir.cs ({ x_1 with Seq := IntKind.u64.wrap (x_1.Seq + 1) } : Dir)) rfl sz56_W6 lz ((le_of_eq (ls rfl lz)).trans zLr) (one_pl rfl) rfl (by show _ < (kDir.cs _).length; rw [kDir_len]; decide) zPb rfl (by simp only [znz] <;> rfl)) ?_
    refine .nil ?_
    refine aw_keep [(2, _), (4, _)] ⟨lg (lx (ls rfl (ls rfl (ls rfl (ls rfl oz))))), lg (lx (ls rfl (ls rfl (ls rfl (ls rfl (os rfl oz)))))), trivial⟩ ?_
    refine aw_seq ?_
    refine aw_region (by decide) ?_
    refine rts _ rfl (opD_load_aggX ag86_W6 sz86_W6 (os rfl oz) (loc_getN rfl rfl) (by rw [kDir_len]; exact Nat.le_refl _) (kDir_full _)) ?_
    refine rts _ rfl (storeAN (cs' := kDir.cs ({ x_1 with Seq := IntKind.u64.wrap (x_1.Seq + 1) } : Dir)) rfl sz86_W6 (ls rfl oz) lz (fun p_ h_ => kDir.one _ p_ h_) rfl (kDir_len _) (by rw [kDir_len]; exact Nat.le_refl _) (by intro h_; have := congrArg List.length h_; rw [kDir_len] at this; cases this) (kb_Dir _ _ _) (kDir_put _ _) (by simp only [znz] <;> rfl)) ?_
    refine rts _ rfl (opD_assign (ev_const _ _)) ?_
    refine .nil ?_
    refine aw_keep [(2, _), (3, _)] ⟨lg (ls rfl (lx (ls rfl oz))), lg lz, trivial⟩ ?_
    refine aw_ret ?_
    obtain rfl := some_of h0
    exact done_ext (.inr rfl) ((res_list (rs := [_, _]) (ps := [_, _]) rfl rfl ⟨it_cellA (B := ⟨86, kDir.cs ({ x_1 with Seq := IntKind.u64.wrap (x_1.Seq + 1) } : Dir)⟩) ag86_W6 sz86_W6 oz (loc_getN rfl rfl) (kDir_len _), it_tmp (os rfl oz), trivial⟩).le (tup_le ⟨zLr, zLr, trivial⟩)) (tup_bnd (zbc (agg_bnd (kb_Dir _ _ _)) (zbc zPb bnd_nil)))
end Go.Proofs.YtokcgacehdgkcaaDoor.Eng.A

namespace Go.Proofs.YtokcgacehdgkcaaDoor.Eng.A
set_option linter.unusedVariables false
set_option linter.unusedSimpArgs false
open Go.RowKit Go.Proofs.YtokcgacehdgkcaaDoor.Plain Go.Proofs.YtokcgacehdgkcaaDoor.Eng Go.Proofs.YtokcgacehdgkcaaDoor.Eng.Pk Go.Proofs.YtokcgacehdgkcaaDoor.Eng.Rd



open Go.Proofs.YtokcgacehdgkcaaDoor.Eng.Er Go.Proofs.YtokcgacehdgkcaaDoor.Eng.Er2 Go.Proofs.YtokcgacehdgkcaaDoor.Eng.Ha


/-- A directory's cells, where one tenant's stretches are somebody's own row. -/
def kDq (o : Option Nat) (i0 : Nat) (x : Dir) : List Pd := (kDir.cs x).set (3 + i0 * 3 + 2) (sl kStx o none (x.L.getD i0 (default : Tenant)).Ext)
theorem kDq_len (o : Option Nat) (i0 : Nat) (x : Dir) : (kDq o i0 x).length = 67 := by unfold kDq; rw [List.length_set]; exact kDir_len x
theorem kDq_none {i0 : Nat} (h : i0 < 16) (x : Dir) : kDq none i0 x = kDir.cs x := by
  unfold kDq
  have e := kDir_e_L x (j := 2) h (by decide)
  have e2 : (kDir.cs x)[3 + i0 * 3 + 2]? = some (sl kStx none none (x.L.getD i0 (default : Tenant)).Ext) := e.trans rfl
  apply List.ext_getElem?
  intro q
  by_cases hq : q = 3 + i0 * 3 + 2
  · subst hq; rw [List.getElem?_set_self (by rw [kDir_len]; omega), e2]
  · rw [List.getElem?_set_ne (Ne.symm hq)]
theorem kDq_full (o : Option Nat) (i0 : Nat) (x : Dir) : ((kDq o i0 x).drop 0).take 67 = kDq o i0 x := by rw [List.drop_zero, List.take_of_length_le]; rw [kDq_len]; exact Nat.le_refl _
theorem kDq_put (A B : List Pd) (ha : A.length = 67) : A.take 0 ++ B ++ A.drop (0 + 67) = B := by
  rw [List.take_zero, List.nil_append, List.drop_of_length_le (by rw [ha]; exact Nat.le_refl _), List.append_nil]
theorem kDq_one (o : Option Nat) (i0 : Nat) (x : Dir) : ∀ p ∈ kDq o i0 x, p.One := fun p hp => by
  rcases List.mem_or_eq_of_mem_set hp with h | rfl
  · exact kDir.one x p h
  · exact one_sl _ _ _ _
theorem kDq_b {o : Option Nat} {i0 : Nat} (x : Dir) {n m : Nat} (h : ∀ i, o = some i → i < m) : ∀ p ∈ kDq o i0 x, p.Bnd n m := fun p hp => by
  rcases List.mem_or_eq_of_mem_set hp with h2 | rfl
  · exact kb_Dir x n m p h2
  · cases o with
    | none => exact sl_b kb_Stx
    | some i => exact sl_ob kb_Stx (h i rfl)
theorem kDq_e {o : Option Nat} {i0 i : Nat} (x : Dir) (hi : i < 16) (hne : i ≠ i0) : (kDq o i0 x)[3 + i * 3 + 2]? = some (sl kStx none none (x.L.getD i (default : Tenant)).Ext) := by
  unfold kDq
  rw [List.getElem?_set_ne (by omega)]
  exact (kDir_e_L x (j := 2) hi (by decide)).trans rfl
theorem kDq_e0 {o : Option Nat} {i0 : Nat} (x : Dir) (hi : i0 < 16) : (kDq o i0 x)[3 + i0 * 3 + 2]? = some (sl kStx o none (x.L.getD i0 (default : Tenant)).Ext) := by
  unfold kDq
  rw [List.getElem?_set_self (by rw [kDir_len]; omega)]
theorem aset_ne {α : Type} {n i j : Nat} {d y : α} {l : List α} (h : i ≠ j) (hj : j < n) : (aset n d l i y).getD j d = l.getD j d := by
  unfold aset
  rw [List.getD_eq_getElem?_getD, List.getElem?_set_ne h, nrm_at hj]; rfl
theorem aset_eq {α : Type} {n i : Nat} {d y : α} {l : List α} (h : i < n) : (aset n d l i y).getD i d = y := by
  unfold aset
  rw [List.getD_eq_getElem?_getD, List.getElem?_set_self (by rw [nrm_len]; exact h)]; rfl
theorem kDq_s {o : Option Nat} {i0 i : Nat} (x : Dir) {l : List Stx} (hi : i < 16) (h0 : i0 < 16) (hne : i ≠ i0) : (kDq o i0 x).set (3 + i * 3 + 2) (sl kStx none none l) = kDq o i0 { x with L := aset 16 (default : Tenant) x.L i ⟨(x.L.getD i (default : Tenant)).ID, (x.L.getD i (default : Tenant)).Gen, l⟩ } := by
  unfold kDq
  rw [List.set_comm _ _ (by omega), kDir_s_L x (y := ⟨(x.L.getD i (default : Tenant)).ID, (x.L.getD i (default : Tenant)).Gen, l⟩) (j := 2) hi (by decide) rfl]
  dsimp only
  rw [aset_ne hne h0]
theorem kDq_s0 {o o' : Option Nat} {i0 : Nat} (x : Dir) {l : List Stx} (h0 : i0 < 16) : (kDq o i0 x).set (3 + i0 * 3 + 2) (sl kStx o' none l) = kDq o' i0 { x with L := aset 16 (default : Tenant) x.L i0 ⟨(x.L.getD i0 (default : Tenant)).ID, (x.L.getD i0 (default : Tenant)).Gen, l⟩ } := by
  unfold kDq
  rw [List.set_set, ← kDir_s_L x (y := ⟨(x.L.getD i0 (default : Tenant)).ID, (x.L.getD i0 (default : Tenant)).Gen, l⟩) (p := sl kStx none none l) (j := 2) h0 (by decide) rfl, List.set_set]
  dsimp only
  rw [aset_eq h0]
theorem kDq_seq {o : Option Nat} {i0 : Nat} (x : Dir) : (kDq o i0 x)[0]? = some (pl (.int .u64 x.Seq)) := by
  unfold kDq
  rw [List.getElem?_set_ne (by omega)]; rfl
theorem kDq_sseq {o : Option Nat} {i0 : Nat} (x : Dir) (n : Int) : (kDq o i0 x).set 0 (pl (.int .u64 n)) = kDq o i0 { x with Seq := n } := by
  unfold kDq
  rw [List.set_comm _ _ (by omega)]; rfl
theorem done_row {P : Program} {e : Env} {s : St} {bs : List Bx} {fs : List Fr} {fn : Func} {p : Pd} {x : Exit} {F : Fr} (hx : x = .normal ∨ x = .ret) (hr : Res P fn e (s.ext bs (F :: fs)) p) (hbn : p.Bnd s.boxes.length (s.fr.length + 1)) :
    Done P fn s s.boxes.length (s.fr.length + 1) p (s.ext [] [F]) x e (s.ext bs (F :: fs)) := by
  refine ⟨hx, hr, ?_, Nat.le_refl _, by omega, by simp [St.ext], by simp [St.ext], rfl, hbn, fun i B hi hB => .inl ?_⟩
  · simp [St.ext, List.take_append, List.take_of_length_le]
  · rw [← take_ext_boxes s bs (F :: fs), List.getElem?_take_of_lt hi]; exact hB

theorem kDq_e0i {o : Option Nat} {i0 i : Nat} (x : Dir) (h0 : i0 < 16) (hi : i = i0) : (kDq o i0 x)[3 + i * 3 + 2]? = some (sl kStx o none (x.L.getD i (default : Tenant)).Ext) := by subst hi; exact kDq_e0 x h0
theorem kDq_s0i {o o' : Option Nat} {i0 i : Nat} (x : Dir) {l : List Stx} (h0 : i0 < 16) (hi : i = i0) : (kDq o i0 x).set (3 + i * 3 + 2) (sl kStx o' none l) = kDq o' i0 { x with L := aset 16 (default : Tenant) x.L i ⟨(x.L.getD i (default : Tenant)).ID, (x.L.getD i (default : Tenant)).Gen, l⟩ } := by subst hi; exact kDq_s0 x h0

set_option maxRecDepth 100000 in
set_option maxHeartbeats 2000000 in
theorem c_dcopiedG {fl : Nat} {p0 : Dir} {R : Dir} {i0 : Nat} (hi0 : i0 < 16) (h0 : F_dcopied fl p0 = some R) (s : St) : AC Tryd.prog 132 [agg (kDir.cs p0)] s (agg (kDq (some s.fr.length) i0 R)) (s.ext [] [⟨114, kStx.sz, (R.L.getD i0 (default : Tenant)).Ext.length⟩]) := by
  unfold F_dcopied at h0
  refine ac_of_aw s.boxes.length (s.fr.length + 1) Tryd.func132 rfl (by simp [Tryd.ntmps132]) ?_
  refine aw_ext0 ?_
  refine aw_fr ⟨114, kStx.sz, 0⟩ ?_
  refine aw_keep [(0, _)] ⟨lg ez, trivial⟩ ?_
  refine aw_seq ?_
  refine aw_region (by decide) ?_
  refine rts _ rfl (boxAN (n := 0) rfl oz (kb_Dir _ _ _) (by first | exact List.length_nil | (simp only [List.length_cons, List.length_nil, Nat.zero_add, Nat.reduceAdd] <;> rfl)) (by simp only [znz] <;> rfl)) ?_
  refine rts _ rfl (opD_wkN rfl (allocN (bs' := [⟨86, (kDir.cs p0)⟩, ⟨86, zl1⟩]) rfl zt86_W6 (by first | exact List.length_nil | (simp only [List.length_cons, List.length_nil, Nat.zero_add, Nat.reduceAdd] <;> rfl)) (by simp only [znz] <;> rfl)) (bxle_same (bxle_cons (B := ⟨86, zl1⟩) (C := ⟨86, kDir.cs (default : Dir)⟩) (@Eq.refl TypeId 86) kDir_zero bxle_nil)) (bl_cons (kb_Dir _ _ _) (bl_cons (kb_Dir _ _ _) bl_nil))) ?_
  refine .nil ?_
  refine aw_keep [(1, _), (2, _)] ⟨lg (ls rfl lz), lg lz, trivial⟩ ?_
  refine aw_seq ?_
  refine aw_seq ?_
  refine aw_region (by decide) ?_
  refine rts _ rfl (opD_move (ev_const _ _)) ?_
  refine .nil ?_
  refine aw_keep [(1, _), (2, _), (4, _)] ⟨lg (ls rfl oz), lg (ls rfl (os rfl oz)), lg lz, trivial⟩ ?_
  replace h0 := bnd_some h0
  obtain ⟨z_1, hz_1, h0⟩ := h0
  refine aw_mid (fun e st => ∃ v : Dir, Holds e [(1, ptr (s.boxes.length + 0) 0), (2, ptr (s.boxes.length + 1) 0)] ∧ st = s.ext [⟨86, kDq (some s.fr.length) i0 v⟩, ⟨86, (kDir.cs (default : Dir))⟩] [⟨114, kStx.sz, (v.L.getD i0 (default : Tenant)).Ext.length⟩] ∧ v = z_1) ?_ ?_
  · skip
    refine aw_wkN rfl 2 1 rfl rfl ?_
    refine aw_block ?_
    refine aw_loop (fun n e st => ∃ v : Int × Dir, Holds e [(1, ptr (s.boxes.length + 0) 0), (2, ptr (s.boxes.length + 1) 0), (4, pl (.int .i64 v.1))] ∧ st = s.ext [⟨86, kDq (if v.1.toNat ≤ i0 then none else some s.fr.length) i0 v.2⟩, ⟨86, (kDir.cs (default : Dir))⟩] [⟨114, kStx.sz, (if v.1.toNat ≤ i0 then 0 else (v.2.L.getD i0 (default : Tenant)).Ext.length)⟩] ∧ 0 ≤ v.1 ∧ v.1 ≤ 16 ∧ lp (F_dcopied_b0) n v = some z_1) fl ⟨(0, p0), ⟨le_of_eq (eg oz), le_of_eq (eg (os rfl oz)), le_of_eq (eg (os rfl (os rfl oz))), trivial⟩, by show _ = s.ext [⟨86, kDq (if (0 : Int).toNat ≤ i0 then none else some s.fr.length) i0 p0⟩, ⟨86, (kDir.cs (default : Dir))⟩] [⟨114, kStx.sz, (if (0 : Int).toNat ≤ i0 then 0 else (p0.L.getD i0 (default : Tenant)).Ext.length)⟩]; rw [if_pos (by simp), if_pos (by simp), kDq_none hi0]; rfl, Int.le_refl _, (by show (0 : Int) ≤ 16; omega), hz_1⟩ ?_
    rintro n e st ⟨t_2, hH, hst, hz_0, hz_16, hz_1⟩
    by_cases hkk : t_2.1.toNat = i0
    · obtain rfl : st = s.ext [⟨86, kDq none i0 t_2.2⟩, ⟨86, (kDir.cs (default : Dir))⟩] [⟨114, kStx.sz, 0⟩] := by rw [hst, if_pos (by omega), if_pos (by omega)]
      replace hz_1 := lp_some hz_1
      obtain ⟨m_z_3, z_3, rfl, hz_3, hz_1⟩ := hz_1
      unfold F_dcopied_b0 at hz_3
      refine aw_keep _ hH ?_
      refine aw_wkN rfl 2 1 rfl rfl ?_
      refine aw_seq ?_
      refine aw_region (by decide) ?_
      refine rts _ rfl (opD_lss (os rfl (os rfl oz)) (ev_const _ _)) ?_
      refine .nil ?_
      refine aw_keep [(1, _), (2, _), (4, _), (5, _)] ⟨lg (ls rfl oz), lg (ls rfl (os rfl oz)), lg (ls rfl (os rfl (os rfl oz))), lg lz, trivial⟩ ?_
      refine aw_seq ?_
      refine aw_cond _ (os rfl (os rfl (os rfl oz))) (fun hc => ?_) (fun hc => ?_)
      · skip
        replace hz_3 := ifb_t hz_3 hc
        clear hc
        refine aw_skip ?_
        refine aw_keep [(1, _), (2, _), (4, _)] ⟨lg oz, lg (os rfl oz), lg (os rfl (os rfl oz)), trivial⟩ ?_
        refine aw_seq ?_
        refine aw_block ?_
        refine aw_seq ?_
        refine aw_region (by decide) ?_
        refine rts _ rfl (opD_move (os rfl (os rfl oz))) ?_
        refine rts _ rfl (opD_assign lz) ?_
        refine .nil ?_
        refine aw_keep [(1, _), (2, _), (3, _), (4, _)] ⟨lg (ls rfl (ls rfl oz)), lg (ls rfl (ls rfl (os rfl oz))), lg lz, lg (ls rfl (ls rfl (os rfl (os rfl oz)))), trivial⟩ ?_
        refine aw_region (by decide) ?_
        refine rts _ rfl (opD_move (os rfl (os rfl oz))) ?_
        refine rts _ rfl (opD_move (ls rfl (os rfl (os rfl oz)))) ?_
        refine rts _ rfl (opD_fieldAddr fo86_3_W6 (ls rfl (ls rfl oz))) ?_
        replace hz_3 := grd_some hz_3
        obtain ⟨hg_7, hz_3⟩ := hz_3
        refine rts _ rfl (opD_indexAddr_arr (i := t_2.1.toNat) Tryd.underlying82 sz81_W6 lz (ls rfl lz) hg_7.eq hg_7.2) ?_
        refine rts _ rfl (opD_fieldAddr fo81_2_W6 lz) ?_
        refine rts _ rfl (opD_load_one ag79_W6 lz (loc_getN rfl rfl) (kDq_e0i _ hi0 hkk)) ?_
        replace hz_3 := bnd_some hz_3
        obtain ⟨x_4, hx_4, hz_3⟩ := hz_3
        refine rts _ rfl (opD_adopt (j := 0) (n0 := 0) kb_Stx (opD_own1 ht171_W6 (c_oCloneX hx_4) ⟨le_of_eq lz, trivial⟩ rfl rfl) rfl rfl (Nat.zero_le _) rfl) ?_
        refine rts _ rfl (opD_fieldAddr fo86_3_W6 (ls rfl (ls rfl (ls rfl (ls rfl (ls rfl (ls rfl (ls rfl oz)))))))) ?_
        replace hz_3 := grd_some hz_3
        obtain ⟨hg_8, hz_3⟩ := hz_3
        refine rts _ rfl (opD_indexAddr_arr (i := t_2.1.toNat) Tryd.underlying82 sz81_W6 lz (ls rfl (ls rfl (ls rfl (ls rfl (ls rfl (ls rfl (ls rfl lz))))))) hg_8.eq hg_8.2) ?_
        refine rts _ rfl (opD_fieldAddr fo81_2_W6 lz) ?_
        refine rts _ rfl (storeON (cs' := kDq (some s.fr.length) i0 ({ t_2.2 with L := aset 16 (default : Tenant) t_2.2.L t_2.1.toNat (⟨(t_2.2.L.getD t_2.1.toNat (default : Tenant)).ID, (t_2.2.L.getD t_2.1.toNat (default : Tenant)).Gen, x_4⟩ : Tenant) } : Dir)) rfl sz79_W6 lz ((le_of_eq (ls rfl (ls rfl (ls rfl lz)))).trans (sl_nl _ _ _ _)) (one_sl _ _ _ _) rfl (by have h_ := hg_8.2; show _ < (kDq _ _ _).length; rw [kDq_len]; omega) (sl_ob kb_Stx (by rw [List.length_append]; exact Nat.lt_add_of_pos_right (Nat.succ_pos _))) (kDq_s0i _ hi0 hkk) (by simp only [znz] <;> rfl)) ?_
        refine .nil ?_
        refine aw_keep [(1, _), (2, _), (4, _)] ⟨lg (lx (ls rfl (ls rfl (ls rfl (ls rfl (ls rfl (ls rfl (ls rfl (ls rfl (ls rfl (ls rfl oz))))))))))), lg (lx (ls rfl (ls rfl (ls rfl (ls rfl (ls rfl (ls rfl (ls rfl (ls rfl (ls rfl (ls rfl (os rfl oz)))))))))))), lg (lx (ls rfl (ls rfl (ls rfl (ls rfl (ls rfl (ls rfl (ls rfl (ls rfl (ls rfl (ls rfl (os rfl (os rfl (os rfl oz)))))))))))))), trivial⟩ ?_
        refine aw_region (by decide) ?_
        refine rts _ rfl (opD_add (os rfl (os rfl oz)) (ev_const _ _) rfl) ?_
        refine rts _ rfl (opD_move lz) ?_
        refine .nil ?_
        obtain rfl := some_of hz_3
        replace hz_1 := ocs_l hz_1
        refine wk_yesN rfl (l := [(1, ptr (s.boxes.length + 0) 0), (2, ptr (s.boxes.length + 1) 0), (4, pl (.int .i64 (IntKind.i64.wrap (t_2.1 + 1))))]) (bs' := [⟨86, kDq (some s.fr.length) i0 ({ t_2.2 with L := aset 16 (default : Tenant) t_2.2.L t_2.1.toNat (⟨(t_2.2.L.getD t_2.1.toNat (default : Tenant)).ID, (t_2.2.L.getD t_2.1.toNat (default : Tenant)).Gen, x_4⟩ : Tenant) } : Dir)⟩, ⟨86, (kDir.cs (default : Dir))⟩]) ⟨le_of_eq (eg (ls rfl (ls rfl oz))), le_of_eq (eg (ls rfl (ls rfl (os rfl oz)))), le_of_eq (eg lz), trivial⟩ (zbc (ptr_bnd _ (by first | omega | (simp only [List.length_append, List.length_cons, List.length_nil]; omega))) (zbc (ptr_bnd _ (by first | omega | (simp only [List.length_append, List.length_cons, List.length_nil]; omega))) (zbc zPb bnd_nil))) (zNb rfl) (by simp only [znz] <;> rfl) (bxle_same (bxle_same bxle_nil)) rfl (by simp only [znz] <;> rfl) (bl_cons (kDq_b _ (by intro i_ h_; cases h_; omega)) (bl_cons (kb_Dir _ _ _) bl_nil)) ?_
        have hw_ : IntKind.i64.wrap (t_2.1 + 1) = t_2.1 + 1 := wrap_i64 (by have := hg_7.2; omega)
        have h16_ := hg_7.2
        refine ⟨m_z_3, Nat.lt_succ_self _, (IntKind.i64.wrap (t_2.1 + 1), ({ t_2.2 with L := aset 16 (default : Tenant) t_2.2.L t_2.1.toNat (⟨(t_2.2.L.getD t_2.1.toNat (default : Tenant)).ID, (t_2.2.L.getD t_2.1.toNat (default : Tenant)).Gen, x_4⟩ : Tenant) } : Dir)), ⟨le_of_eq (eg oz), le_of_eq (eg (os rfl oz)), le_of_eq (eg (os rfl (os rfl oz))), trivial⟩, ?_, ?_, ?_, hz_1⟩
        · show _ = s.ext [⟨86, kDq (if (IntKind.i64.wrap (t_2.1 + 1)).toNat ≤ i0 then none else some s.fr.length) i0 ({ t_2.2 with L := aset 16 (default : Tenant) t_2.2.L t_2.1.toNat (⟨(t_2.2.L.getD t_2.1.toNat (default : Tenant)).ID, (t_2.2.L.getD t_2.1.toNat (default : Tenant)).Gen, x_4⟩ : Tenant) } : Dir)⟩, ⟨86, (kDir.cs (default : Dir))⟩] [⟨114, kStx.sz, (if (IntKind.i64.wrap (t_2.1 + 1)).toNat ≤ i0 then 0 else (({ t_2.2 with L := aset 16 (default : Tenant) t_2.2.L t_2.1.toNat (⟨(t_2.2.L.getD t_2.1.toNat (default : Tenant)).ID, (t_2.2.L.getD t_2.1.toNat (default : Tenant)).Gen, x_4⟩ : Tenant) } : Dir).L.getD i0 (default : Tenant)).Ext.length)⟩]
          dsimp only
          rw [hw_, if_neg (by omega), if_neg (by omega)]
          have he_ : ((({ t_2.2 with L := aset 16 (default : Tenant) t_2.2.L t_2.1.toNat (⟨(t_2.2.L.getD t_2.1.toNat (default : Tenant)).ID, (t_2.2.L.getD t_2.1.toNat (default : Tenant)).Gen, x_4⟩ : Tenant) } : Dir)).L.getD i0 (default : Tenant)) = ⟨(t_2.2.L.getD t_2.1.toNat (default : Tenant)).ID, (t_2.2.L.getD t_2.1.toNat (default : Tenant)).Gen, x_4⟩ := by rw [← hkk]; exact aset_eq hg_7.2
          rw [he_]
        · show 0 ≤ IntKind.i64.wrap (t_2.1 + 1); rw [hw_]; omega
        · show IntKind.i64.wrap (t_2.1 + 1) ≤ 16; rw [hw_]; omega
      · exfalso
        have h_ := of_decide_eq_false hc
        omega
    · obtain ⟨o_, hdo⟩ : ∃ o_, o_ = (if t_2.1.toNat ≤ i0 then none else some s.fr.length) := ⟨_, rfl⟩
      obtain ⟨n_, hdn⟩ : ∃ n_, n_ = (if t_2.1.toNat ≤ i0 then 0 else (t_2.2.L.getD i0 (default : Tenant)).Ext.length) := ⟨_, rfl⟩
      have ho_ : ∀ i, o_ = some i → i < s.fr.length + 1 := by intro i_ h_; rw [hdo] at h_; split at h_ <;> cases h_; omega
      obtain rfl : st = s.ext [⟨86, kDq o_ i0 t_2.2⟩, ⟨86, (kDir.cs (default : Dir))⟩] [⟨114, kStx.sz, n_⟩] := by rw [hst, hdo, hdn]
      replace hz_1 := lp_some hz_1
      obtain ⟨m_z_3, z_3, rfl, hz_3, hz_1⟩ := hz_1
      unfold F_dcopied_b0 at hz_3
      refine aw_keep _ hH ?_
      refine aw_wkN rfl 2 1 rfl rfl ?_
      refine aw_seq ?_
      refine aw_region (by decide) ?_
      refine rts _ rfl (opD_lss (os rfl (os rfl oz)) (ev_const _ _)) ?_
      refine .nil ?_
      refine aw_keep [(1, _), (2, _), (4, _), (5, _)] ⟨lg (ls rfl oz), lg (ls rfl (os rfl oz)), lg (ls rfl (os rfl (os rfl oz))), lg lz, trivial⟩ ?_
      refine aw_seq ?_
      refine aw_cond _ (os rfl (os rfl (os rfl oz))) (fun hc => ?_) (fun hc => ?_)
      · skip
        replace hz_3 := ifb_t hz_3 hc
        clear hc
        refine aw_skip ?_
        refine aw_keep [(1, _), (2, _), (4, _)] ⟨lg oz, lg (os rfl oz), lg (os rfl (os rfl oz)), trivial⟩ ?_
        refine aw_seq ?_
        refine aw_block ?_
        refine aw_seq ?_
        refine aw_region (by decide) ?_
        refine rts _ rfl (opD_move (os rfl (os rfl oz))) ?_
        refine rts _ rfl (opD_assign lz) ?_
        refine .nil ?_
        refine aw_keep [(1, _), (2, _), (3, _), (4, _)] ⟨lg (ls rfl (ls rfl oz)), lg (ls rfl (ls rfl (os rfl oz))), lg lz, lg (ls rfl (ls rfl (os rfl (os rfl oz)))), trivial⟩ ?_
        refine aw_region (by decide) ?_
        refine rts _ rfl (opD_move (os rfl (os rfl oz))) ?_
        refine rts _ rfl (opD_move (ls rfl (os rfl (os rfl oz)))) ?_
        refine rts _ rfl (opD_fieldAddr fo86_3_W6 (ls rfl (ls rfl oz))) ?_
        replace hz_3 := grd_some hz_3
        obtain ⟨hg_7, hz_3⟩ := hz_3
        refine rts _ rfl (opD_indexAddr_arr (i := t_2.1.toNat) Tryd.underlying82 sz81_W6 lz (ls rfl lz) hg_7.eq hg_7.2) ?_
        refine rts _ rfl (opD_fieldAddr fo81_2_W6 lz) ?_
        refine rts _ rfl (opD_load_one ag79_W6 lz (loc_getN rfl rfl) (kDq_e _ hg_7.2 hkk)) ?_
        replace hz_3 := bnd_some hz_3
        obtain ⟨x_4, hx_4, hz_3⟩ := hz_3
        refine rts _ rfl (opD_own1 ht171_W6 (c_oCloneX hx_4) ⟨le_of_eq lz, trivial⟩ (by first | exact List.length_nil | (simp only [List.length_cons, List.length_nil, Nat.zero_add, Nat.reduceAdd] <;> rfl)) (by simp only [znz] <;> rfl)) ?_
        refine rts _ rfl (opD_fieldAddr fo86_3_W6 (ls rfl (ls rfl (ls rfl (ls rfl (ls rfl (ls rfl (ls rfl oz)))))))) ?_
        replace hz_3 := grd_some hz_3
        obtain ⟨hg_8, hz_3⟩ := hz_3
        refine rts _ rfl (opD_indexAddr_arr (i := t_2.1.toNat) Tryd.underlying82 sz81_W6 lz (ls rfl (ls rfl (ls rfl (ls rfl (ls rfl (ls rfl (ls rfl lz))))))) hg_8.eq hg_8.2) ?_
        refine rts _ rfl (opD_fieldAddr fo81_2_W6 lz) ?_
        refine rts _ rfl (storeON (cs' := kDq o_ i0 ({ t_2.2 with L := aset 16 (default : Tenant) t_2.2.L t_2.1.toNat (⟨(t_2.2.L.getD t_2.1.toNat (default : Tenant)).ID, (t_2.2.L.getD t_2.1.toNat (default : Tenant)).Gen, x_4⟩ : Tenant) } : Dir)) rfl sz79_W6 lz ((le_of_eq (ls rfl (ls rfl (ls rfl lz)))).trans (sl_any _ _ _ _)) (one_sl _ _ _ _) rfl (by have h_ := hg_8.2; show _ < (kDq _ _ _).length; rw [kDq_len]; omega) (sl_b kb_Stx) (kDq_s _ hg_8.2 hi0 hkk) (by simp only [znz] <;> rfl)) ?_
        refine .nil ?_
        refine aw_keep [(1, _), (2, _), (4, _)] ⟨lg (lx (ls rfl (ls rfl (ls rfl (ls rfl (ls rfl (ls rfl (ls rfl (ls rfl (ls rfl (ls rfl oz))))))))))), lg (lx (ls rfl (ls rfl (ls rfl (ls rfl (ls rfl (ls rfl (ls rfl (ls rfl (ls rfl (ls rfl (os rfl oz)))))))))))), lg (lx (ls rfl (ls rfl (ls rfl (ls rfl (ls rfl (ls rfl (ls rfl (ls rfl (ls rfl (ls rfl (os rfl (os rfl (os rfl oz)))))))))))))), trivial⟩ ?_
        refine aw_region (by decide) ?_
        refine rts _ rfl (opD_add (os rfl (os rfl oz)) (ev_const _ _) rfl) ?_
        refine rts _ rfl (opD_move lz) ?_
        refine .nil ?_
        obtain rfl := some_of hz_3
        replace hz_1 := ocs_l hz_1
        refine wk_yesN rfl (l := [(1, ptr (s.boxes.length + 0) 0), (2, ptr (s.boxes.length + 1) 0), (4, pl (.int .i64 (IntKind.i64.wrap (t_2.1 + 1))))]) (bs' := [⟨86, kDq o_ i0 ({ t_2.2 with L := aset 16 (default : Tenant) t_2.2.L t_2.1.toNat (⟨(t_2.2.L.getD t_2.1.toNat (default : Tenant)).ID, (t_2.2.L.getD t_2.1.toNat (default : Tenant)).Gen, x_4⟩ : Tenant) } : Dir)⟩, ⟨86, (kDir.cs (default : Dir))⟩]) ⟨le_of_eq (eg (ls rfl (ls rfl oz))), le_of_eq (eg (ls rfl (ls rfl (os rfl oz)))), le_of_eq (eg lz), trivial⟩ (zbc (ptr_bnd _ (by first | omega | (simp only [List.length_append, List.length_cons, List.length_nil]; omega))) (zbc (ptr_bnd _ (by first | omega | (simp only [List.length_append, List.length_cons, List.length_nil]; omega))) (zbc zPb bnd_nil))) (zNb rfl) (by simp only [znz] <;> rfl) (bxle_same (bxle_same bxle_nil)) rfl (by simp only [znz] <;> rfl) (bl_cons (kDq_b _ ho_) (bl_cons (kb_Dir _ _ _) bl_nil)) ?_
        have hw_ : IntKind.i64.wrap (t_2.1 + 1) = t_2.1 + 1 := wrap_i64 (by have := hg_7.2; omega)
        have h16_ := hg_7.2
        refine ⟨m_z_3, Nat.lt_succ_self _, (IntKind.i64.wrap (t_2.1 + 1), ({ t_2.2 with L := aset 16 (default : Tenant) t_2.2.L t_2.1.toNat (⟨(t_2.2.L.getD t_2.1.toNat (default : Tenant)).ID, (t_2.2.L.getD t_2.1.toNat (default : Tenant)).Gen, x_4⟩ : Tenant) } : Dir)), ⟨le_of_eq (eg oz), le_of_eq (eg (os rfl oz)), le_of_eq (eg (os rfl (os rfl oz))), trivial⟩, ?_, ?_, ?_, hz_1⟩
        · show _ = s.ext [⟨86, kDq (if (IntKind.i64.wrap (t_2.1 + 1)).toNat ≤ i0 then none else some s.fr.length) i0 ({ t_2.2 with L := aset 16 (default : Tenant) t_2.2.L t_2.1.toNat (⟨(t_2.2.L.getD t_2.1.toNat (default : Tenant)).ID, (t_2.2.L.getD t_2.1.toNat (default : Tenant)).Gen, x_4⟩ : Tenant) } : Dir)⟩, ⟨86, (kDir.cs (default : Dir))⟩] [⟨114, kStx.sz, (if (IntKind.i64.wrap (t_2.1 + 1)).toNat ≤ i0 then 0 else (({ t_2.2 with L := aset 16 (default : Tenant) t_2.2.L t_2.1.toNat (⟨(t_2.2.L.getD t_2.1.toNat (default : Tenant)).ID, (t_2.2.L.getD t_2.1.toNat (default : Tenant)).Gen, x_4⟩ : Tenant) } : Dir).L.getD i0 (default : Tenant)).Ext.length)⟩]
          rw [hw_]
          have he_ : ((({ t_2.2 with L := aset 16 (default : Tenant) t_2.2.L t_2.1.toNat (⟨(t_2.2.L.getD t_2.1.toNat (default : Tenant)).ID, (t_2.2.L.getD t_2.1.toNat (default : Tenant)).Gen, x_4⟩ : Tenant) } : Dir)).L.getD i0 (default : Tenant)) = t_2.2.L.getD i0 (default : Tenant) := aset_ne hkk hi0
          rw [he_]
          by_cases hh : t_2.1.toNat ≤ i0
          · rw [hdo, hdn, if_pos hh, if_pos hh, if_pos (by omega), if_pos (by omega)]
          · rw [hdo, hdn, if_neg hh, if_neg hh, if_neg (by omega), if_neg (by omega)]
        · show 0 ≤ IntKind.i64.wrap (t_2.1 + 1); rw [hw_]; omega
        · show IntKind.i64.wrap (t_2.1 + 1) ≤ 16; rw [hw_]; omega
      · skip
        have hc_ := of_decide_eq_false hc
        replace hz_3 := ifb_f hz_3 hc
        clear hc
        obtain rfl : o_ = some s.fr.length := by rw [hdo, if_neg (by omega)]
        obtain rfl : n_ = (t_2.2.L.getD i0 (default : Tenant)).Ext.length := by rw [hdn, if_neg (by omega)]
        refine aw_exit ?_
        obtain rfl := some_of hz_3
        replace hz_1 := ocs_r hz_1
        refine wk_no ?_
        refine wk_yesN rfl (l := [(1, ptr (s.boxes.length + 0) 0), (2, ptr (s.boxes.length + 1) 0)]) (bs' := [⟨86, kDq (some s.fr.length) i0 t_2.2⟩, ⟨86, (kDir.cs (default : Dir))⟩]) ⟨le_of_eq (eg oz), le_of_eq (eg (os rfl oz)), trivial⟩ (zbc (ptr_bnd _ (by first | omega | (simp only [List.length_append, List.length_cons, List.length_nil]; omega))) (zbc (ptr_bnd _ (by first | omega | (simp only [List.length_append, List.length_cons, List.length_nil]; omega))) bnd_nil)) (zNb rfl) (by simp only [znz] <;> rfl) (bxle_same (bxle_same bxle_nil)) rfl (by simp only [znz] <;> rfl) (bl_cons (kDq_b _ (by intro i_ h_; cases h_; omega)) (bl_cons (kb_Dir _ _ _) bl_nil)) ?_
        exact ⟨t_2.2, ⟨le_of_eq (eg oz), le_of_eq (eg (os rfl oz)), trivial⟩, rfl, some_of hz_1⟩
  · rintro e st ⟨vz_1, hH, rfl, rfl⟩
    refine aw_keep _ hH ?_
    refine aw_keep [(1, _), (2, _)] ⟨lg oz, lg (os rfl oz), trivial⟩ ?_
    refine aw_seq ?_
    refine aw_region (by decide) ?_
    refine rts _ rfl (opD_load_aggX ag86_W6 sz86_W6 oz (loc_getN rfl rfl) (by rw [kDq_len]; exact Nat.le_refl _) (kDq_full _ _ _)) ?_
    refine rts _ rfl (storeAN (cs' := kDq (some s.fr.length) i0 vz_1) rfl sz86_W6 (ls rfl (os rfl oz)) lz (kDq_one _ _ _) rfl (kDq_len _ _ _) (by rw [kDir_len]; exact Nat.le_refl _) (by intro h_; have := congrArg List.length h_; rw [kDir_len] at this; cases this) (kDq_b _ (by intro i_ h_; cases h_; simp only [List.length_append, List.length_cons, List.length_nil]; omega)) (kDq_put _ _ (kDir_len _)) (by simp only [znz] <;> rfl)) ?_
    refine .nil ?_
    refine aw_keep [(2, _)] ⟨lg (lx (ls rfl (os rfl oz))), trivial⟩ ?_
    refine aw_ret ?_
    obtain rfl := some_of h0
    exact done_row (.inr rfl) ((res_one rfl (it_cellA (B := ⟨86, kDq (some s.fr.length) i0 vz_1⟩) ag86_W6 sz86_W6 oz (loc_getN rfl rfl) (kDq_len _ _ _))).le zLr) (agg_bnd (kDq_b _ (by intro i_ h_; cases h_; omega)))


theorem lel_set : ∀ {A B : List Pd} {n : Nat} {a q : Pd}, LeL A B → A[n]? = some a → a.le q → LeL A (B.set n q)
  | [], [], _, _, _, _, h, _ => by simp at h
  | [], _ :: _, _, _, _, h, _, _ => h.elim
  | _ :: _, [], _, _, _, h, _, _ => h.elim
  | _ :: _, _ :: _, 0, _, _, h, h1, h2 => ⟨by simp at h1; rw [h1]; exact h2, h.2⟩
  | _ :: _, _ :: _, n + 1, _, _, h, h1, h2 => ⟨h.1, lel_set h.2 (by simpa using h1) h2⟩
set_option maxRecDepth 100000 in
theorem kDq_zero {o : Option Nat} {i0 : Nat} (h : i0 < 16) : LeL zl1 (kDq o i0 (default : Dir)) := by
  refine lel_set (a := pl (.slice none 0 0)) kDir_zero ?_ ?_
  · rcases i0 with _ | _ | _ | _ | _ | _ | _ | _ | _ | _ | _ | _ | _ | _ | _ | _ | i0 <;> first | rfl | omega
  · exact (fun g w v h => by rw [show v = _ from h]; exact sl_nl _ _ _ _ _ _ _ (sl_nil kStx o g w))
theorem opD_callG {P : Program} {e : Env} {s : St} {bs : List Bx} {dst : Option Tmp} {ty : TypeId} {pos : String} {after : Array Edge} {guard : Option (Nat × Bool)} {f : FuncId} {xs : List Operand} {ats : Array TypeId} {ps : List Pd} {p : Nat → Pd} {F : Fr} (hf : hasText P f = true) (hc : ∀ s_ : St, AC P f ps s_ (p s_.fr.length) (s_.ext [] [F])) (hx : Args e xs ps) :
    OpD P ⟨dst, .call { callee := .value (.func f), args := xs.toArray, argTypes := ats }, ty, pos, after, guard⟩ e (s.ext bs []) (p s.fr.length) (s.ext bs [F]) := by
  have := opD_call (P := P) (dst := dst) (ty := ty) (pos := pos) (after := after) (guard := guard) (ats := ats) hf (hc (s.ext bs [])) hx
  rw [ext_fr_length, ext_ext, List.append_nil] at this
  exact this

set_option maxRecDepth 100000 in
set_option maxHeartbeats 2000000 in
theorem c_dnextG {fl : Nat} {p0 : Dir} {R : Dir × (Option Int)} {i0 : Nat} (hi0 : i0 < 16) (h0 : F_dnext fl p0 = some R) (s : St) : AC Tryd.prog 93 [agg (kDir.cs p0)] s (tup [agg (kDq (some s.fr.length) i0 R.1), pl (errV R.2)]) (s.ext [] [⟨114, kStx.sz, (R.1.L.getD i0 (default : Tenant)).Ext.length⟩]) := by
  unfold F_dnext at h0
  refine ac_of_aw s.boxes.length (s.fr.length + 1) Tryd.func93 rfl (by simp [Tryd.ntmps93]) ?_
  refine aw_ext0 ?_
  refine aw_keep [(0, _)] ⟨lg ez, trivial⟩ ?_
  refine aw_seq ?_
  refine aw_region (by decide) ?_
  refine rts _ rfl (boxAN (n := 0) rfl oz (kb_Dir _ _ _) (by first | exact List.length_nil | (simp only [List.length_cons, List.length_nil, Nat.zero_add, Nat.reduceAdd] <;> rfl)) (by simp only [znz] <;> rfl)) ?_
  refine rts _ rfl (opD_wkN rfl (allocN (bs' := [⟨86, (kDir.cs p0)⟩, ⟨86, zl1⟩]) rfl zt86_W6 (by first | exact List.length_nil | (simp only [List.length_cons, List.length_nil, Nat.zero_add, Nat.reduceAdd] <;> rfl)) (by simp only [znz] <;> rfl)) (bxle_same (bxle_cons (B := ⟨86, zl1⟩) (C := ⟨86, kDir.cs (default : Dir)⟩) (@Eq.refl TypeId 86) kDir_zero bxle_nil)) (bl_cons (kb_Dir _ _ _) (bl_cons (kb_Dir _ _ _) bl_nil))) ?_
  refine rts _ rfl (opD_assign (ev_const _ _)) ?_
  refine .nil ?_
  refine aw_keep [(1, _), (2, _)] ⟨lg (ls rfl (ls rfl lz)), lg (ls rfl lz), trivial⟩ ?_
  refine aw_seq ?_
  refine aw_seq ?_
  refine aw_region (by decide) ?_
  refine rts _ rfl (opD_fieldAddr fo86_0_W6 oz) ?_
  refine rts _ rfl (opD_load_one ag56_W6 lz (loc_getN rfl rfl) rfl) ?_
  refine rts _ rfl (opD_geq lz (ev_const _ _)) ?_
  refine .nil ?_
  refine aw_keep [(1, _), (2, _), (7, _)] ⟨lg (ls rfl (ls rfl (ls rfl oz))), lg (ls rfl (ls rfl (ls rfl (os rfl oz)))), lg lz, trivial⟩ ?_
  refine aw_cond _ (os rfl (os rfl oz)) (fun hc => ?_) (fun hc => ?_)
  · skip
    replace h0 := ifb_t h0 hc
    refine aw_fr ⟨114, kStx.sz, 0⟩ ?_
    clear hc
    refine aw_seq ?_
    refine aw_region (by decide) ?_
    refine rts _ rfl (opD_ple (q := agg (kDq (some s.fr.length) i0 (default : Dir))) rfl (opD_le (opD_build_struct (rs := zl1) Tryd.underlying86 pt86_W6 zt86_W6 parts_nil rfl) (agg_le (kDq_zero hi0)))) ?_
    refine rts _ rfl (opD_ple (q := pl (errV (some 2))) rfl (opD_makeInterface_pl cc145_W6 (ev_const _ _))) ?_
    refine rts _ rfl (storeAN (cs' := kDq (some s.fr.length) i0 (default : Dir)) rfl sz86_W6 (ls rfl (ls rfl (os rfl oz))) (ls rfl lz) (kDq_one _ _ _) rfl (kDq_len _ _ _) (by rw [kDir_len]; exact Nat.le_refl _) (by intro h_; have := congrArg List.length h_; rw [kDir_len] at this; cases this) (kDq_b _ (by intro i_ h_; cases h_; simp only [List.length_append, List.length_cons, List.length_nil]; omega)) (kDq_put _ _ (kDir_len _)) (by simp only [znz] <;> rfl)) ?_
    refine rts _ rfl (opD_assign (lx lz)) ?_
    refine .nil ?_
    refine aw_keep [(2, _), (3, _)] ⟨lg (ls rfl (lx (ls rfl (ls rfl (os rfl oz))))), lg lz, trivial⟩ ?_
    refine aw_ret ?_
    obtain rfl := some_of h0
    exact done_row (.inr rfl) ((res_list (rs := [_, _]) (ps := [_, _]) rfl rfl ⟨it_cellA (B := ⟨86, kDq (some s.fr.length) i0 (default : Dir)⟩) ag86_W6 sz86_W6 oz (loc_getN rfl rfl) (kDq_len _ _ _), it_tmp (os rfl oz), trivial⟩).le (tup_le ⟨zLr, zLr, trivial⟩)) (tup_bnd (zbc (agg_bnd (kDq_b _ (by intro i_ h_; cases h_; omega))) (zbc zPb bnd_nil)))
  · skip
    replace h0 := ifb_f h0 hc
    clear hc
    refine aw_skip ?_
    refine aw_keep [(1, _), (2, _)] ⟨lg oz, lg (os rfl oz), trivial⟩ ?_
    refine aw_seq ?_
    refine aw_region (by decide) ?_
    refine rts _ rfl (opD_load_aggX ag86_W6 sz86_W6 oz (loc_getN rfl rfl) (by rw [kDir_len]; exact Nat.le_refl _) (kDir_full _)) ?_
    replace h0 := bnd_some h0
    obtain ⟨x_1, hx_1, h0⟩ := h0
    refine rts _ rfl (opD_callG (p := fun n_ => agg (kDq (some n_) i0 x_1)) ht132_W6 (fun s_ => c_dcopiedG hi0 hx_1 s_) ⟨le_of_eq lz, trivial⟩) ?_
    refine rts _ rfl (opD_wkN rfl (allocN (bs' := [⟨86, (kDir.cs p0)⟩, ⟨86, (kDir.cs (default : Dir))⟩, ⟨86, zl1⟩]) rfl zt86_W6 (by first | exact List.length_nil | (simp only [List.length_cons, List.length_nil, Nat.zero_add, Nat.reduceAdd] <;> rfl)) (by simp only [znz] <;> rfl)) (bxle_same (bxle_same (bxle_cons (B := ⟨86, zl1⟩) (C := ⟨86, kDir.cs (default : Dir)⟩) (@Eq.refl TypeId 86) kDir_zero bxle_nil))) (bl_cons (kb_Dir _ _ _) (bl_cons (kb_Dir _ _ _) (bl_cons (kb_Dir _ _ _) bl_nil)))) ?_
    refine rts _ rfl (storeAN (cs' := kDq (some s.fr.length) i0 x_1) rfl sz86_W6 lz (ls rfl lz) (kDq_one _ _ _) rfl (kDq_len _ _ _) (by rw [kDir_len]; exact Nat.le_refl _) (by intro h_; have := congrArg List.length h_; rw [kDir_len] at this; cases this) (kDq_b _ (by intro i_ h_; cases h_; simp only [List.length_append, List.length_cons, List.length_nil]; omega)) (kDq_put _ _ (kDir_len _)) (by simp only [znz] <;> rfl)) ?_
    refine .nil ?_
    refine aw_keep [(2, _), (4, _)] ⟨lg (lx (ls rfl (ls rfl (ls rfl (os rfl oz))))), lg (lx lz), trivial⟩ ?_
    refine aw_seq ?_
    refine aw_region (by decide) ?_
    refine rts _ rfl (opD_fieldAddr fo86_0_W6 (os rfl oz)) ?_
    refine rts _ rfl (opD_load_one ag56_W6 lz (loc_getN rfl rfl) (kDq_seq _)) ?_
    refine rts _ rfl (opD_add lz (ev_const _ _) rfl) ?_
    refine rts _ rfl (opD_fieldAddr fo86_0_W6 (ls rfl (ls rfl (ls rfl (os rfl oz))))) ?_
    refine rts _ rfl (storeON (cs' := kDq (some s.fr.length) i0 ({ x_1 with Seq := IntKind.u64.wrap (x_1.Seq + 1) } : Dir)) rfl sz56_W6 lz ((le_of_eq (ls rfl lz)).trans zLr) (one_pl rfl) rfl (by show _ < (kDq _ _ _).length; rw [kDq_len]; decide) zPb (kDq_sseq _ _) (by simp only [znz] <;> rfl)) ?_
    refine .nil ?_
    refine aw_keep [(2, _), (4, _)] ⟨lg (lx (ls rfl (ls rfl (ls rfl (ls rfl oz))))), lg (lx (ls rfl (ls rfl (ls rfl (ls rfl (os rfl oz)))))), trivial⟩ ?_
    refine aw_seq ?_
    refine aw_region (by decide) ?_
    refine rts _ rfl (opD_load_aggX ag86_W6 sz86_W6 (os rfl oz) (loc_getN rfl rfl) (by rw [kDq_len]; exact Nat.le_refl _) (kDq_full _ _ _)) ?_
    refine rts _ rfl (storeAN (cs' := kDq (some s.fr.length) i0 ({ x_1 with Seq := IntKind.u64.wrap (x_1.Seq + 1) } : Dir)) rfl sz86_W6 (ls rfl oz) lz (kDq_one _ _ _) rfl (kDq_len _ _ _) (by rw [kDir_len]; exact Nat.le_refl _) (by intro h_; have := congrArg List.length h_; rw [kDir_len] at this; cases this) (kDq_b _ (by intro i_ h_; cases h_; simp only [List.length_append, List.length_cons, List.length_nil]; omega)) (kDq_put _ _ (kDir_len _)) (by simp only [znz] <;> rfl)) ?_
    refine rts _ rfl (opD_assign (ev_const _ _)) ?_
    refine .nil ?_
    refine aw_keep [(2, _), (3, _)] ⟨lg (ls rfl (lx (ls rfl oz))), lg lz, trivial⟩ ?_
    refine aw_ret ?_
    obtain rfl := some_of h0
    exact done_row (.inr rfl) ((res_list (rs := [_, _]) (ps := [_, _]) rfl rfl ⟨it_cellA (B := ⟨86, kDq (some s.fr.length) i0 ({ x_1 with Seq := IntKind.u64.wrap (x_1.Seq + 1) } : Dir)⟩) ag86_W6 sz86_W6 oz (loc_getN rfl rfl) (kDq_len _ _ _), it_tmp (os rfl oz), trivial⟩).le (tup_le ⟨zLr, zLr, trivial⟩)) (tup_bnd (zbc (agg_bnd (kDq_b _ (by intro i_ h_; cases h_; omega))) (zbc zPb bnd_nil)))
end Go.Proofs.YtokcgacehdgkcaaDoor.Eng.A
