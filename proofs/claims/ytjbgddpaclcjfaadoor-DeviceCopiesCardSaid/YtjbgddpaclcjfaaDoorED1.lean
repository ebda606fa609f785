/- ED1: what functions do, walked; used by the laws of this seat. -/
import Derived.Test.YtjbgddpaclcjfaaDoorEW2
import Derived.Test.YtjbgddpaclcjfaaDoorEngX4
import Derived.Test.YtjbgddpaclcjfaaDoorEngX3
import Derived.Test.YtjbgddpaclcjfaaDoorEXB
namespace Go.Proofs.YtjbgddpaclcjfaaDoor.Eng.A
set_option linter.unusedVariables false
set_option linter.unusedSimpArgs false
open Go.RowKit Go.Proofs.YtjbgddpaclcjfaaDoor.Plain Go.Proofs.YtjbgddpaclcjfaaDoor.Eng Go.Proofs.YtjbgddpaclcjfaaDoor.Eng.Pk Go.Proofs.YtjbgddpaclcjfaaDoor.Eng.Rd




theorem errV_eql (o : Option Int) (w : World) : (binOp .eql 26 (errV o) .nilIface).run Go.Proofs.Tryd.prog w = .ok (.bool o.isNone) w := by cases o <;> simp [errV, go_sem]
theorem errV_geql (o : Option Int) (w : World) (x : Operand) : (eqGuard .eql 26 x (.const .nilIface) (errV o) .nilIface).run Go.Proofs.Tryd.prog w = .ok () w := by cases o <;> simp [errV, go_sem]
structure Stx where
  From : Int
  Many : Int
  deriving DecidableEq
instance : Inhabited Stx := ⟨⟨0, 0⟩⟩
end Go.Proofs.YtjbgddpaclcjfaaDoor.Eng.A

namespace Go.Proofs.YtjbgddpaclcjfaaDoor.Eng.A
set_option linter.unusedVariables false
set_option linter.unusedSimpArgs false
open Go.RowKit Go.Proofs.YtjbgddpaclcjfaaDoor.Plain Go.Proofs.YtjbgddpaclcjfaaDoor.Eng Go.Proofs.YtjbgddpaclcjfaaDoor.Eng.Pk Go.Proofs.YtjbgddpaclcjfaaDoor.Eng.Rd

theorem ag3_W3 : aggT Go.Proofs.Tryd.prog 3 = some false := by kernel_rfl
theorem zt165_W3 : zeroT Go.Proofs.Tryd.prog 165 = some [.int .i64 0, .int .i64 0] := by kernel_rfl
theorem pt165_W3 : placesT Go.Proofs.Tryd.prog 165 2 = some [(0, 1), (1, 1)] := by kernel_rfl
theorem sz165_W3 : sizeT Go.Proofs.Tryd.prog 165 = some 2 := by kernel_rfl
theorem ag165_W3 : aggT Go.Proofs.Tryd.prog 165 = some true := by kernel_rfl
theorem fo165_0_W3 : fieldOff Go.Proofs.Tryd.prog 165 0 = some 0 := by kernel_rfl
theorem fo165_1_W3 : fieldOff Go.Proofs.Tryd.prog 165 1 = some 1 := by kernel_rfl
theorem cc157_W3 : Go.Proofs.Tryd.prog.concrete 157 = true := by kernel_rfl
theorem pt160_W3 : placesT Go.Proofs.Tryd.prog 160 5 = some [(0, 1), (1, 1), (2, 1), (3, 1), (4, 1)] := by kernel_rfl
theorem zt160_W3 : zeroT Go.Proofs.Tryd.prog 160 = some [.int .i64 0, .map none, .map none, .int .i64 0, .bool false] := by kernel_rfl
theorem fo160_0_W3 : fieldOff Go.Proofs.Tryd.prog 160 0 = some 0 := by kernel_rfl
theorem fo160_4_W3 : fieldOff Go.Proofs.Tryd.prog 160 4 = some 4 := by kernel_rfl
theorem ag4_W3 : aggT Go.Proofs.Tryd.prog 4 = some false := by kernel_rfl
theorem ht25_W3 : hasText Go.Proofs.Tryd.prog 25 = true := by kernel_rfl
theorem fo160_3_W3 : fieldOff Go.Proofs.Tryd.prog 160 3 = some 3 := by kernel_rfl
theorem sz4_W3 : sizeT Go.Proofs.Tryd.prog 4 = some 1 := by kernel_rfl
theorem sz3_W3 : sizeT Go.Proofs.Tryd.prog 3 = some 1 := by kernel_rfl
theorem ht83_W3 : hasText Go.Proofs.Tryd.prog 83 = true := by kernel_rfl
theorem fo160_2_W3 : fieldOff Go.Proofs.Tryd.prog 160 2 = some 2 := by kernel_rfl
theorem ag158_W3 : aggT Go.Proofs.Tryd.prog 158 = some false := by kernel_rfl
theorem sz163_W3 : sizeT Go.Proofs.Tryd.prog 163 = some 64 := by kernel_rfl
theorem mixed_W3 : Go.Proofs.Tryd.prog.follows .mixedOrders = true := by kernel_rfl
theorem ag163_W3 : aggT Go.Proofs.Tryd.prog 163 = some true := by kernel_rfl
theorem fo160_1_W3 : fieldOff Go.Proofs.Tryd.prog 160 1 = some 1 := by kernel_rfl
theorem ht42_W3 : hasText Go.Proofs.Tryd.prog 42 = true := by kernel_rfl
theorem ht81_W3 : hasText Go.Proofs.Tryd.prog 81 = true := by kernel_rfl
theorem ht87_W3 : hasText Go.Proofs.Tryd.prog 87 = true := by kernel_rfl
theorem sz5_W3 : sizeT Go.Proofs.Tryd.prog 5 = some 1 := by kernel_rfl
theorem ht82_W3 : hasText Go.Proofs.Tryd.prog 82 = true := by kernel_rfl
theorem zt163_W3 : zeroT Go.Proofs.Tryd.prog 163 = some [.int .u8 0, .int .u8 0, .int .u8 0, .int .u8 0, .int .u8 0, .int .u8 0, .int .u8 0, .int .u8 0, .int .u8 0, .int .u8 0, .int .u8 0, .int .u8 0, .int .u8 0, .int .u8 0, .int .u8 0, .int .u8 0, .int .u8 0, .int .u8 0, .int .u8 0, .int .u8 0, .int .u8 0, .int .u8 0, .int .u8 0, .int .u8 0, .int .u8 0, .int .u8 0, .int .u8 0, .int .u8 0, .int .u8 0, .int .u8 0, .int .u8 0, .int .u8 0, .int .u8 0, .int .u8 0, .int .u8 0, .int .u8 0, .int .u8 0, .int .u8 0, .int .u8 0, .int .u8 0, .int .u8 0, .int .u8 0, .int .u8 0, .int .u8 0, .int .u8 0, .int .u8 0, .int .u8 0, .int .u8 0, .int .u8 0, .int .u8 0, .int .u8 0, .int .u8 0, .int .u8 0, .int .u8 0, .int .u8 0, .int .u8 0, .int .u8 0, .int .u8 0, .int .u8 0, .int .u8 0, .int .u8 0, .int .u8 0, .int .u8 0, .int .u8 0] := by kernel_rfl
theorem ag5_W3 : aggT Go.Proofs.Tryd.prog 5 = some false := by kernel_rfl

open Go.Proofs.YtjbgddpaclcjfaaDoor.Eng.Er

structure At where
  page_ : Int
  part_ : Int
  deriving DecidableEq
instance : Inhabited At := ⟨⟨0, 0⟩⟩
def KM_dev : MK At (List Int) := ⟨fun k => .agg #[.int .i64 k.page_, .int .i64 k.part_], fun x => .agg (x.map fun n => .int .u8 n).toArray⟩
theorem KM_dev_kle (x : At) : (agg [pl (.int .i64 x.page_), pl (.int .i64 x.part_)]).le (pl (KM_dev.ek x)) := aggpl_le [_, _]
theorem KM_dev_kge (x : At) : (pl (KM_dev.ek x)).le (agg [pl (.int .i64 x.page_), pl (.int .i64 x.part_)]) := aggpl_ge [_, _]
theorem KM_dev_vle (x : (List Int)) : (agg (flat (kI .u8) x)).le (pl (KM_dev.ev x)) := flat_ple (f := fun n => Value.int .u8 n) (fun _ => rfl) x
theorem KM_dev_vge (x : (List Int)) : (pl (KM_dev.ev x)).le (agg (flat (kI .u8) x)) := flat_pge (f := fun n => Value.int .u8 n) (fun _ => rfl) x
theorem KM_dev_lk1 {o : Option (List Int)} {z r : (List Int)} (h : o.getD z = r) : (pl (if false = true then .tuple #[(o.map KM_dev.ev).getD (KM_dev.ev z), .bool o.isSome] else (o.map KM_dev.ev).getD (KM_dev.ev z))).le (agg (flat (kI .u8) r)) := by
  subst h; cases o <;> exact KM_dev_vge _
theorem KM_dev_lk2 {o : Option (List Int)} {z r : (List Int)} (h : o.getD z = r) : (pl (if true = true then .tuple #[(o.map KM_dev.ev).getD (KM_dev.ev z), .bool o.isSome] else (o.map KM_dev.ev).getD (KM_dev.ev z))).le (tup [agg (flat (kI .u8) r), pl (.bool o.isSome)]) := by
  subst h; cases o <;> exact fun g w v hv => ⟨_, hv, KM_dev_vge _ g w _ rfl, rfl, trivial⟩
theorem KM_dev_z (w : World) : (zeroValue 163).run Go.Proofs.Tryd.prog w = .ok (KM_dev.ev (List.replicate 64 0)) w := by
  have h : Go.Proofs.Tryd.t163.zero = some (KM_dev.ev (List.replicate 64 0)) := by kernel_rfl
  simp [zeroValue, h]

theorem KM_dev_c3 (b : Bool) (n : Nat) (x : Int) (w : World) : (Instr.checkKey b (n + 1) 3 (.int .i64 x)).run Go.Proofs.Tryd.prog w = .ok () w := MapKept.run_checkKey Go.Proofs.Tryd.underlying3 (by simp [MapKept.IsKey]) b n
theorem KM_dev_chk (b : Bool) (k : At) (w : World) : (Instr.checkKey b 10000 165 (KM_dev.ek k)).run Go.Proofs.Tryd.prog w = .ok () w := by
  show (Instr.checkKey b (9998 + 1 + 1) 165 _).run _ w = _
  rw [Instr.checkKey]
  simp only [Sem.run_bind, run_underlying Go.Proofs.Tryd.underlying165, Result.andThen, KM_dev]
  simp [Result.andThen, run_part_one ag3_W3, KM_dev_c3]
set_option maxRecDepth 100000 in
theorem KM_dev_eq (a b : At) (w : World) : (Op.equal 165 (KM_dev.ek a) (KM_dev.ek b)).run Go.Proofs.Tryd.prog w = .ok (decide (a = b)) w := by
  have h := eqn (P := Go.Proofs.Tryd.prog) (t := 165) (xs := #[.int .i64 a.page_, .int .i64 a.part_]) (ys := #[.int .i64 b.page_, .int .i64 b.part_]) (w := w) (d := 9999) Go.Proofs.Tryd.underlying165 (by kernel_rfl)
    (eqf_cons (by decide) (run_part_one ag3_W3 rfl w) (run_part_one ag3_W3 rfl w) (run_equalIn_int w _ _ _ _ _ _ Go.Proofs.Tryd.underlying3) (eqf_cons (by decide) (run_part_one ag3_W3 rfl w) (run_part_one ag3_W3 rfl w) (run_equalIn_int w _ _ _ _ _ _ Go.Proofs.Tryd.underlying3) eqf_nil))
  have h0 : Op.equal 165 (KM_dev.ek a) (KM_dev.ek b) = Op.equalIn (9999 + 1) 165 (.agg #[.int .i64 a.page_, .int .i64 a.part_]) (.agg #[.int .i64 b.page_, .int .i64 b.part_]) := rfl
  rw [h0, h]
  congr 1
  obtain ⟨a0, a1⟩ := a
  obtain ⟨b0, b1⟩ := b
  simp only [show (a0 == b0) = decide (a0 = b0) from rfl, show (a1 == b1) = decide (a1 = b1) from rfl, Bool.and_true]
  first | rw [← Bool.decide_and] | skip
  exact decide_eq_decide.2 (by simp)
theorem KM_dev_kl : KL Go.Proofs.Tryd.prog 165 KM_dev := kl_struct Go.Proofs.Tryd.underlying165 KM_dev_chk KM_dev_eq (fun _ => by simp [Instr.sameBits, KM_dev]) (fun k e es => rfl)

structure Dev where
  pages_ : Int
  safe_ : (At → Option (List Int))
  waits_ : (At → Option (List Int))
  left_ : Int
  down_ : Bool
instance : Inhabited Dev := ⟨⟨0, (fun _ => none), (fun _ => none), 0, false⟩⟩

def F_dplace (p0 : Int) : Option (At) :=
  some (⟨IntKind.i64.wrap (p0.tdiv 8), (p0.tmod 8)⟩ : At)
set_option maxRecDepth 100000 in
set_option maxHeartbeats 2000000 in
theorem c_dplace {p0 : Int} {R : At} (h0 : F_dplace p0 = some R) : Pure Go.Proofs.Tryd.prog 83 [pl (.int .i64 p0)] (agg [pl (.int .i64 R.page_), pl (.int .i64 R.part_)]) := by
  intro s
  unfold F_dplace at h0
  refine ac_of_aw s.boxes.length s.fr.length Go.Proofs.Tryd.func83 rfl (by simp [Go.Proofs.Tryd.ntmps83]) ?_
  refine aw_ext0 ?_
  refine aw_keep [(0, _)] ⟨lg ez, trivial⟩ ?_
  refine aw_seq ?_
  refine aw_region (by decide) ?_
  refine rts _ rfl (allocN rfl zt165_W3 (by first | exact List.length_nil | (simp only [List.length_cons, List.length_nil, Nat.zero_add, Nat.reduceAdd] <;> rfl)) (by simp only [na, nb, nc, nd, nf, ng, nh, ni, nj, nk] <;> rfl)) ?_
  refine .nil ?_
  refine aw_keep [(0, _), (2, _)] ⟨lg (ls rfl oz), lg lz, trivial⟩ ?_
  refine aw_seq ?_
  refine aw_region (by decide) ?_
  refine rts _ rfl (opD_move oz) ?_
  refine rts _ rfl (opD_quo lz (ev_const _ _) (by decide) rfl) ?_
  refine rts _ rfl (opD_move (ls rfl (ls rfl oz))) ?_
  refine rts _ rfl (opD_rem lz (ev_const _ _) (by decide) rfl) ?_
  refine rts _ rfl (opD_build_struct (rs := [_, _]) Go.Proofs.Tryd.underlying165 pt165_W3 zt165_W3 (parts_cons (cells1 (ls rfl (ls rfl lz)) (one_pl rfl)) (parts_cons (cells1 lz (one_pl rfl)) parts_nil)) rfl) ?_
  refine rts _ rfl (storeAN rfl sz165_W3 (ls rfl (ls rfl (ls rfl (ls rfl (ls rfl (os rfl oz)))))) lz (ones_cons (one_pl rfl) (ones_cons (one_pl rfl) ones_nil)) rfl rfl (Nat.le_of_ble_eq_true rfl) (List.cons_ne_nil _ _) (bnd_cons (pl_bnd _ _ _) (bnd_cons (pl_bnd _ _ _) bnd_nil)) (by simp only [na, nb, nc, nd, nf, ng, nh, ni, nj, nk] <;> rfl) (by simp only [na, nb, nc, nd, nf, ng, nh, ni, nj, nk] <;> rfl)) ?_
  refine .nil ?_
  refine aw_keep [(2, _)] ⟨lg (lx (ls rfl (ls rfl (ls rfl (ls rfl (ls rfl (os rfl oz))))))), trivial⟩ ?_
  refine aw_ret ?_
  obtain rfl := some_of h0
  exact done_ext (.inr rfl) ((res_one rfl (it_cellA (B := ⟨165, [_, _]⟩) ag165_W3 sz165_W3 oz (loc_getN rfl rfl) rfl)).le (agg_le ⟨(Pd.le_refl _), (Pd.le_refl _), trivial⟩)) (agg_bnd (bnd_cons (pl_bnd _ _ _) (bnd_cons (pl_bnd _ _ _) bnd_nil)))

def F_dnumber (p0 : At) : Option (Int) :=
  some (IntKind.i64.wrap ((IntKind.i64.wrap (p0.page_ * 8)) + p0.part_))
set_option maxRecDepth 100000 in
set_option maxHeartbeats 2000000 in
theorem c_dnumber {p0 : At} {R : Int} (h0 : F_dnumber p0 = some R) : Pure Go.Proofs.Tryd.prog 85 [agg [pl (.int .i64 p0.page_), pl (.int .i64 p0.part_)]] (pl (.int .i64 R)) := by
  intro s
  unfold F_dnumber at h0
  refine ac_of_aw s.boxes.length s.fr.length Go.Proofs.Tryd.func85 rfl (by simp [Go.Proofs.Tryd.ntmps85]) ?_
  refine aw_ext0 ?_
  refine aw_keep [(0, _)] ⟨lg ez, trivial⟩ ?_
  refine aw_seq ?_
  refine aw_region (by decide) ?_
  refine rts _ rfl (boxAN (n := 0) rfl oz (bnd_cons (pl_bnd _ _ _) (bnd_cons (pl_bnd _ _ _) bnd_nil)) (by first | exact List.length_nil | (simp only [List.length_cons, List.length_nil, Nat.zero_add, Nat.reduceAdd] <;> rfl)) (by simp only [na, nb, nc, nd, nf, ng, nh, ni, nj, nk] <;> rfl)) ?_
  refine rts _ rfl (opD_assign (ev_const _ _)) ?_
  refine .nil ?_
  refine aw_keep [(1, _)] ⟨lg (ls rfl lz), trivial⟩ ?_
  refine aw_seq ?_
  refine aw_region (by decide) ?_
  refine rts _ rfl (opD_fieldAddr fo165_0_W3 oz) ?_
  refine rts _ rfl (opD_load_one ag3_W3 lz (loc_getN rfl rfl) rfl) ?_
  refine rts _ rfl (opD_mul lz (ev_const _ _) rfl) ?_
  refine rts _ rfl (opD_fieldAddr fo165_1_W3 (ls rfl (ls rfl (ls rfl oz)))) ?_
  refine rts _ rfl (opD_load_one ag3_W3 lz (loc_getN rfl rfl) rfl) ?_
  refine rts _ rfl (opD_add (ls rfl (ls rfl lz)) lz rfl) ?_
  refine rts _ rfl (opD_assign lz) ?_
  refine .nil ?_
  refine aw_keep [(2, _)] ⟨lg lz, trivial⟩ ?_
  refine aw_ret ?_
  obtain rfl := some_of h0
  exact done_ext (.inr rfl) ((res_one rfl (it_tmp oz)).le (Pd.le_refl _)) (pl_bnd _ _ _)

def F_dNew (p0 : Int) : Option ((Option Dev) × (Option Int)) :=
  ifb ((decide (p0 < 1)) || (decide (1024 < p0))) (some (none, some 2)) (some (some (⟨p0, (fnil : (At → Option (List Int))), (fnil : (At → Option (List Int))), (-1), false⟩ : Dev), none))
set_option maxRecDepth 100000 in
set_option maxHeartbeats 2000000 in
theorem c_dNew_n {p0 : Int} {R : (Option Dev) × (Option Int)} {s : St} (h0 : F_dNew p0 = some R) (ho : R.1 = none) : AC Go.Proofs.Tryd.prog 13 [pl (.int .i64 p0)] s (tup [pl (.pointer none), pl (errV R.2)]) s := by
  obtain ⟨N, hNs⟩ : ∃ N, s.boxes.length = N := ⟨_, rfl⟩
  unfold F_dNew at h0
  refine ac_of_aw s.boxes.length s.fr.length Go.Proofs.Tryd.func13 rfl (by simp [Go.Proofs.Tryd.ntmps13]) ?_
  refine aw_ext0 ?_
  refine aw_keep [(0, _)] ⟨lg ez, trivial⟩ ?_
  refine aw_seq ?_
  refine aw_region (by decide) ?_
  refine rts _ rfl (opD_assign (ev_const _ _)) ?_
  refine rts _ rfl (opD_assign (ev_const _ _)) ?_
  refine .nil ?_
  refine aw_keep [(0, _)] ⟨lg (ls rfl (ls rfl oz)), trivial⟩ ?_
  refine aw_seq ?_
  refine aw_seq ?_
  refine aw_region (by decide) ?_
  refine rts _ rfl (opD_move oz) ?_
  refine rts _ rfl (opD_lss lz (ev_const _ _)) ?_
  refine rts _ rfl (opD_move lz) ?_
  refine rtg _ rfl lz (fun hg1_3_1 => opD_move (ls rfl (ls rfl (ls rfl oz)))) ?_
  refine rtg _ rfl (ls rfl lz) (fun hg1_4_2 => opD_gtr (lz.trans (pif_pos hg1_4_2)) (ev_const _ _)) ?_
  refine rts _ rfl (opD_or (ls rfl (ls rfl lz)) lz) ?_
  refine .nil ?_
  refine aw_keep [(0, _), (9, _)] ⟨lg (ls rfl (ls rfl (ls rfl (ls rfl (ls rfl (ls rfl oz)))))), lg lz, trivial⟩ ?_
  refine aw_cond _ (os rfl oz) (fun hc => ?_) (fun hc => ?_)
  · skip
    replace h0 := ifb_t h0 hc
    clear hc
    refine aw_seq ?_
    refine aw_region (by decide) ?_
    refine rts _ rfl (opD_ple (q := pl (errV (some 2))) rfl (opD_makeInterface_pl cc157_W3 (ev_const _ _))) ?_
    refine rts _ rfl (opD_assign (ev_const _ _)) ?_
    refine rts _ rfl (opD_assign (ls rfl lz)) ?_
    refine .nil ?_
    refine aw_keep [(2, _), (3, _)] ⟨lg (ls rfl lz), lg lz, trivial⟩ ?_
    refine aw_ret ?_
    obtain rfl := some_of h0
    clear ho
    exact done_ext (.inr rfl) ((res_list (rs := [_, _]) (ps := [_, _]) rfl rfl ⟨it_tmp oz, it_tmp (os rfl oz), trivial⟩).le (tup_le ⟨(Pd.le_refl _), (Pd.le_refl _), trivial⟩)) (tup_bnd (bnd_cons (pl_bnd _ _ _) (bnd_cons (pl_bnd _ _ _) bnd_nil)))
  · skip
    replace h0 := ifb_f h0 hc
    clear hc
    refine aw_skip ?_
    refine aw_keep [(0, _)] ⟨lg oz, trivial⟩ ?_
    refine aw_seq ?_
    refine aw_region (by decide) ?_
    refine rts _ rfl (opD_move oz) ?_
    refine rts _ rfl (opD_makeMapFN (K := KM_dev) hNs (by first | exact List.length_nil | (simp only [List.length_cons, List.length_nil, Nat.zero_add, Nat.reduceAdd] <;> rfl)) (by simp only [na, nb, nc, nd, nf, ng, nh, ni, nj, nk] <;> rfl)) ?_
    refine rts _ rfl (opD_makeMapFN (K := KM_dev) hNs (by first | exact List.length_nil | (simp only [List.length_cons, List.length_nil, Nat.zero_add, Nat.reduceAdd] <;> rfl)) (by simp only [na, nb, nc, nd, nf, ng, nh, ni, nj, nk] <;> rfl)) ?_
    refine rts _ rfl (opD_build_struct (rs := [_, _, _, _, _]) Go.Proofs.Tryd.underlying160 pt160_W3 zt160_W3 (parts_cons (cells1 (ls rfl (ls rfl lz)) (one_pl rfl)) (parts_cons (cells1 (ls rfl lz) (one_mref _)) (parts_cons (cells1 lz (one_mref _)) (parts_cons (cells1 (ev_const _ _) (one_pl rfl)) parts_nil)))) (fill_step rfl (by rfl) (by rfl) (by simp only [na, nb, nl, nc, nd, nh, ni, nj, nk, nm, Nat.reduceAdd] <;> rfl) (fill_step rfl (by rfl) (by rfl) (by simp only [na, nb, nl, nc, nd, nh, ni, nj, nk, nm, Nat.reduceAdd] <;> rfl) (fill_step rfl (by rfl) (by rfl) (by simp only [na, nb, nl, nc, nd, nh, ni, nj, nk, nm, Nat.reduceAdd] <;> rfl) (fill_step rfl (by rfl) (by rfl) (by simp only [na, nb, nl, nc, nd, nh, ni, nj, nk, nm, Nat.reduceAdd] <;> rfl) fill_nil))))) ?_
    refine rts _ rfl (boxAN (n := 2) hNs lz (bnd_cons (pl_bnd _ _ _) (bnd_cons (mref_bnd _ (by first | omega | (simp only [List.length_append, List.length_cons, List.length_nil]; omega))) (bnd_cons (mref_bnd _ (by first | omega | (simp only [List.length_append, List.length_cons, List.length_nil]; omega))) (bnd_cons (pl_bnd _ _ _) (bnd_cons (pl_bnd _ _ _) bnd_nil))))) (by first | exact List.length_nil | (simp only [List.length_cons, List.length_nil, Nat.zero_add, Nat.reduceAdd] <;> rfl)) (by simp only [na, nb, nc, nd, nf, ng, nh, ni, nj, nk] <;> rfl)) ?_
    refine rts _ rfl (opD_assign lz) ?_
    refine rts _ rfl (opD_assign (ev_const _ _)) ?_
    refine .nil ?_
    refine aw_keep [(2, _), (3, _)] ⟨lg (ls rfl lz), lg lz, trivial⟩ ?_
    refine aw_ret ?_
    obtain rfl := some_of h0
    cases ho
set_option maxRecDepth 100000 in
set_option maxHeartbeats 2000000 in
theorem c_dNew_s {p0 : Int} {R : (Option Dev) × (Option Int)} {y : Dev} {s : St} {N : Nat} (h0 : F_dNew p0 = some R) (ho : R.1 = some y) (hNs : s.boxes.length = N) : AC Go.Proofs.Tryd.prog 13 [pl (.int .i64 p0)] s (tup [ptr (N + 2) 0, pl (errV R.2)]) (s.ext [⟨HOT, [mpf KM_dev y.safe_]⟩, ⟨HOT, [mpf KM_dev y.waits_]⟩, ⟨160, [pl (.int .i64 y.pages_), mref (N + 0), mref (N + 1), pl (.int .i64 y.left_), pl (.bool y.down_)]⟩] []) := by
  unfold F_dNew at h0
  refine ac_of_aw (N + 3) s.fr.length Go.Proofs.Tryd.func13 rfl (by simp [Go.Proofs.Tryd.ntmps13]) ?_
  refine aw_ext0 ?_
  refine aw_keep [(0, _)] ⟨lg ez, trivial⟩ ?_
  refine aw_seq ?_
  refine aw_region (by decide) ?_
  refine rts _ rfl (opD_assign (ev_const _ _)) ?_
  refine rts _ rfl (opD_assign (ev_const _ _)) ?_
  refine .nil ?_
  refine aw_keep [(0, _)] ⟨lg (ls rfl (ls rfl oz)), trivial⟩ ?_
  refine aw_seq ?_
  refine aw_seq ?_
  refine aw_region (by decide) ?_
  refine rts _ rfl (opD_move oz) ?_
  refine rts _ rfl (opD_lss lz (ev_const _ _)) ?_
  refine rts _ rfl (opD_move lz) ?_
  refine rtg _ rfl lz (fun hg1_3_1 => opD_move (ls rfl (ls rfl (ls rfl oz)))) ?_
  refine rtg _ rfl (ls rfl lz) (fun hg1_4_2 => opD_gtr (lz.trans (pif_pos hg1_4_2)) (ev_const _ _)) ?_
  refine rts _ rfl (opD_or (ls rfl (ls rfl lz)) lz) ?_
  refine .nil ?_
  refine aw_keep [(0, _), (9, _)] ⟨lg (ls rfl (ls rfl (ls rfl (ls rfl (ls rfl (ls rfl oz)))))), lg lz, trivial⟩ ?_
  refine aw_cond _ (os rfl oz) (fun hc => ?_) (fun hc => ?_)
  · skip
    replace h0 := ifb_t h0 hc
    clear hc
    refine aw_seq ?_
    refine aw_region (by decide) ?_
    refine rts _ rfl (opD_ple (q := pl (errV (some 2))) rfl (opD_makeInterface_pl cc157_W3 (ev_const _ _))) ?_
    refine rts _ rfl (opD_assign (ev_const _ _)) ?_
    refine rts _ rfl (opD_assign (ls rfl lz)) ?_
    refine .nil ?_
    refine aw_keep [(2, _), (3, _)] ⟨lg (ls rfl lz), lg lz, trivial⟩ ?_
    refine aw_ret ?_
    obtain rfl := some_of h0
    cases ho
  · skip
    replace h0 := ifb_f h0 hc
    clear hc
    refine aw_skip ?_
    refine aw_keep [(0, _)] ⟨lg oz, trivial⟩ ?_
    refine aw_seq ?_
    refine aw_region (by decide) ?_
    refine rts _ rfl (opD_move oz) ?_
    refine rts _ rfl (opD_makeMapFN (K := KM_dev) hNs (by first | exact List.length_nil | (simp only [List.length_cons, List.length_nil, Nat.zero_add, Nat.reduceAdd] <;> rfl)) (by simp only [na, nb, nc, nd, nf, ng, nh, ni, nj, nk] <;> rfl)) ?_
    refine rts _ rfl (opD_makeMapFN (K := KM_dev) hNs (by first | exact List.length_nil | (simp only [List.length_cons, List.length_nil, Nat.zero_add, Nat.reduceAdd] <;> rfl)) (by simp only [na, nb, nc, nd, nf, ng, nh, ni, nj, nk] <;> rfl)) ?_
    refine rts _ rfl (opD_build_struct (rs := [_, _, _, _, _]) Go.Proofs.Tryd.underlying160 pt160_W3 zt160_W3 (parts_cons (cells1 (ls rfl (ls rfl lz)) (one_pl rfl)) (parts_cons (cells1 (ls rfl lz) (one_mref _)) (parts_cons (cells1 lz (one_mref _)) (parts_cons (cells1 (ev_const _ _) (one_pl rfl)) parts_nil)))) (fill_step rfl (by rfl) (by rfl) (by simp only [na, nb, nl, nc, nd, nh, ni, nj, nk, nm, Nat.reduceAdd] <;> rfl) (fill_step rfl (by rfl) (by rfl) (by simp only [na, nb, nl, nc, nd, nh, ni, nj, nk, nm, Nat.reduceAdd] <;> rfl) (fill_step rfl (by rfl) (by rfl) (by simp only [na, nb, nl, nc, nd, nh, ni, nj, nk, nm, Nat.reduceAdd] <;> rfl) (fill_step rfl (by rfl) (by rfl) (by simp only [na, nb, nl, nc, nd, nh, ni, nj, nk, nm, Nat.reduceAdd] <;> rfl) fill_nil))))) ?_
    refine rts _ rfl (boxAN (n := 2) hNs lz (bnd_cons (pl_bnd _ _ _) (bnd_cons (mref_bnd _ (by first | omega | (simp only [List.length_append, List.length_cons, List.length_nil]; omega))) (bnd_cons (mref_bnd _ (by first | omega | (simp only [List.length_append, List.length_cons, List.length_nil]; omega))) (bnd_cons (pl_bnd _ _ _) (bnd_cons (pl_bnd _ _ _) bnd_nil))))) (by first | exact List.length_nil | (simp only [List.length_cons, List.length_nil, Nat.zero_add, Nat.reduceAdd] <;> rfl)) (by simp only [na, nb, nc, nd, nf, ng, nh, ni, nj, nk] <;> rfl)) ?_
    refine rts _ rfl (opD_assign lz) ?_
    refine rts _ rfl (opD_assign (ev_const _ _)) ?_
    refine .nil ?_
    refine aw_keep [(2, _), (3, _)] ⟨lg (ls rfl lz), lg lz, trivial⟩ ?_
    refine aw_ret ?_
    obtain rfl := some_of h0
    obtain rfl := opt_inj ho
    have hnn : N + 3 = N + 3 := rfl
    exact done_updLN (l := []) (n := N + 3) (by rw [hNs] <;> rfl) trivial (.inr rfl) ((res_list (rs := [_, _]) (ps := [_, _]) rfl rfl ⟨it_tmp oz, it_tmp (os rfl oz), trivial⟩).le (tup_le ⟨(Pd.le_refl _), (Pd.le_refl _), trivial⟩)) (tup_bnd (bnd_cons (ptr_bnd _ (by first | omega | (simp only [List.length_append, List.length_cons, List.length_nil]; omega))) (bnd_cons (pl_bnd _ _ _) bnd_nil))) (by rw [← hnn]; exact (bl_cons (bnd_cons ((mpf_bnd _ _) _ _) bnd_nil) (bl_cons (bnd_cons ((mpf_bnd _ _) _ _) bnd_nil) (bl_cons (bnd_cons (pl_bnd _ _ _) (bnd_cons (mref_bnd _ (by first | omega | (simp only [List.length_append, List.length_cons, List.length_nil]; omega))) (bnd_cons (mref_bnd _ (by first | omega | (simp only [List.length_append, List.length_cons, List.length_nil]; omega))) (bnd_cons (pl_bnd _ _ _) (bnd_cons (pl_bnd _ _ _) bnd_nil))))) bl_nil))))

def F_dPages (p0 : Dev) : Option (Int) :=
  some p0.pages_
set_option maxRecDepth 100000 in
set_option maxHeartbeats 2000000 in
theorem c_dPages {p0 : Dev} {R : Int} {s : St} {M0 : Pd} {M1 : Pd} {g0 g1 g2 : Nat} (h0 : F_dPages p0 = some R) (hU : UD s.boxes.length [g0, g1, g2]) (hB0 : s.boxes[g0]? = some ⟨HOT, [M0]⟩) (hB1 : s.boxes[g1]? = some ⟨HOT, [M1]⟩) (hB2 : s.boxes[g2]? = some ⟨160, [pl (.int .i64 p0.pages_), mref g0, mref g1, pl (.int .i64 p0.left_), pl (.bool p0.down_)]⟩) (hM0 : M0.le (mpf KM_dev p0.safe_)) (hMb0 : ∀ n m, M0.Bnd n m) (hM1 : M1.le (mpf KM_dev p0.waits_)) (hMb1 : ∀ n m, M1.Bnd n m) : AC Go.Proofs.Tryd.prog 42 [ptr g2 0] s (pl (.int .i64 R)) s := by
  obtain ⟨N, hNs⟩ : ∃ N, s.boxes.length = N := ⟨_, rfl⟩
  have hUN : UD N [g0, g1, g2] := hNs ▸ hU
  obtain ⟨hl0, ⟨hn01, ⟨hn02, -⟩⟩, ⟨hl1, ⟨hn12, -⟩, ⟨hl2, -, -⟩⟩⟩ := hUN
  unfold F_dPages at h0
  refine ac_of_aw s.boxes.length s.fr.length Go.Proofs.Tryd.func42 rfl (by simp [Go.Proofs.Tryd.ntmps42]) ?_
  refine aw_ext0 ?_
  refine aw_updL0 (l := [(g0, ⟨HOT, [M0]⟩), (g1, ⟨HOT, [M1]⟩), (g2, ⟨160, [pl (.int .i64 p0.pages_), mref g0, mref g1, pl (.int .i64 p0.left_), pl (.bool p0.down_)]⟩)]) ⟨hB0, hB1, hB2, trivial⟩ ?_
  refine aw_keep [(0, _)] ⟨lg ez, trivial⟩ ?_
  refine aw_seq ?_
  refine aw_region (by decide) ?_
  refine rts _ rfl (opD_assign (ev_const _ _)) ?_
  refine .nil ?_
  refine aw_keep [(0, _)] ⟨lg (ls rfl oz), trivial⟩ ?_
  refine aw_seq ?_
  refine aw_seq ?_
  refine aw_region (by decide) ?_
  refine rts _ rfl (opD_move oz) ?_
  refine rts _ rfl (opD_ptr_eqnil Go.Proofs.Tryd.underlying24 lz) ?_
  refine .nil ?_
  refine aw_keep [(0, _), (4, _)] ⟨lg (ls rfl (ls rfl oz)), lg lz, trivial⟩ ?_
  refine aw_cond _ (os rfl oz) (fun hc => ?_) (fun hc => ?_)
  · skip
    cases hc
  · skip
    refine aw_skip ?_
    refine aw_keep [(0, _)] ⟨lg oz, trivial⟩ ?_
    refine aw_seq ?_
    refine aw_region (by decide) ?_
    refine rts _ rfl (opD_move oz) ?_
    refine rts _ rfl (opD_nilCheck_ptr lz) ?_
    refine rts _ rfl (opD_fieldAddr fo160_0_W3 lz) ?_
    refine rts _ rfl (opD_load_one ag3_W3 lz (obj_get (k := 2) hU rfl) rfl) ?_
    refine rts _ rfl (opD_assign lz) ?_
    refine .nil ?_
    refine aw_keep [(2, _)] ⟨lg lz, trivial⟩ ?_
    refine aw_ret ?_
    obtain rfl := some_of h0
    exact done_updLS ⟨hB0, hB1, hB2, trivial⟩ (.inr rfl) ((res_one rfl (it_tmp oz)).le (Pd.le_refl _)) (pl_bnd _ _ _)

def F_dDown (p0 : Dev) : Option (Bool) :=
  some p0.down_
set_option maxRecDepth 100000 in
set_option maxHeartbeats 2000000 in
theorem c_dDown {p0 : Dev} {R : Bool} {s : St} {M0 : Pd} {M1 : Pd} {g0 g1 g2 : Nat} (h0 : F_dDown p0 = some R) (hU : UD s.boxes.length [g0, g1, g2]) (hB0 : s.boxes[g0]? = some ⟨HOT, [M0]⟩) (hB1 : s.boxes[g1]? = some ⟨HOT, [M1]⟩) (hB2 : s.boxes[g2]? = some ⟨160, [pl (.int .i64 p0.pages_), mref g0, mref g1, pl (.int .i64 p0.left_), pl (.bool p0.down_)]⟩) (hM0 : M0.le (mpf KM_dev p0.safe_)) (hMb0 : ∀ n m, M0.Bnd n m) (hM1 : M1.le (mpf KM_dev p0.waits_)) (hMb1 : ∀ n m, M1.Bnd n m) : AC Go.Proofs.Tryd.prog 25 [ptr g2 0] s (pl (.bool R)) s := by
  obtain ⟨N, hNs⟩ : ∃ N, s.boxes.length = N := ⟨_, rfl⟩
  have hUN : UD N [g0, g1, g2] := hNs ▸ hU
  obtain ⟨hl0, ⟨hn01, ⟨hn02, -⟩⟩, ⟨hl1, ⟨hn12, -⟩, ⟨hl2, -, -⟩⟩⟩ := hUN
  unfold F_dDown at h0
  refine ac_of_aw s.boxes.length s.fr.length Go.Proofs.Tryd.func25 rfl (by simp [Go.Proofs.Tryd.ntmps25]) ?_
  refine aw_ext0 ?_
  refine aw_updL0 (l := [(g0, ⟨HOT, [M0]⟩), (g1, ⟨HOT, [M1]⟩), (g2, ⟨160, [pl (.int .i64 p0.pages_), mref g0, mref g1, pl (.int .i64 p0.left_), pl (.bool p0.down_)]⟩)]) ⟨hB0, hB1, hB2, trivial⟩ ?_
  refine aw_keep [(0, _)] ⟨lg ez, trivial⟩ ?_
  refine aw_seq ?_
  refine aw_region (by decide) ?_
  refine rts _ rfl (opD_assign (ev_const _ _)) ?_
  refine .nil ?_
  refine aw_keep [(0, _)] ⟨lg (ls rfl oz), trivial⟩ ?_
  refine aw_seq ?_
  refine aw_region (by decide) ?_
  refine rts _ rfl (opD_move oz) ?_
  refine rts _ rfl (opD_ptr_eqnil Go.Proofs.Tryd.underlying24 lz) ?_
  refine rts _ rfl (opD_move lz) ?_
  refine rts _ ⟨_, rfl, .inl ⟨_, eg lz, rfl⟩⟩ (opD_move (ls rfl (ls rfl (ls rfl oz)))) ?_
  refine rts _ ⟨_, rfl, .inl ⟨_, eg (ls rfl lz), rfl⟩⟩ (opD_nilCheck_ptr lz) ?_
  refine rts _ ⟨_, rfl, .inl ⟨_, eg (ls rfl (ls rfl lz)), rfl⟩⟩ (opD_fieldAddr fo160_4_W3 lz) ?_
  refine rts _ ⟨_, rfl, .inl ⟨_, eg (ls rfl (ls rfl (ls rfl lz))), rfl⟩⟩ (opD_load_one ag4_W3 lz (obj_get (k := 2) hU rfl) rfl) ?_
  refine rts _ rfl (opD_pickF (ls rfl (ls rfl (ls rfl (ls rfl lz)))) lz) ?_
  refine rts _ rfl (opD_assign lz) ?_
  refine .nil ?_
  refine aw_keep [(2, _)] ⟨lg lz, trivial⟩ ?_
  refine aw_ret ?_
  obtain rfl := some_of h0
  exact done_updLS ⟨hB0, hB1, hB2, trivial⟩ (.inr rfl) ((res_one rfl (it_tmp oz)).le (Pd.le_refl _)) (pl_bnd _ _ _)

def F_dthere (p0 : Dev) (p1 : Int) (p2 : Int) : Option ((Option Int)) :=
  bnd (F_dDown p0) fun x_1 => ifb x_1 (some (some 9)) (ifb ((decide (p1 < 0)) || (decide (p2 ≤ p1))) (some (some 2)) (some none))
set_option maxRecDepth 100000 in
set_option maxHeartbeats 2000000 in
theorem c_dthere {p0 : Dev} {p1 : Int} {p2 : Int} {R : (Option Int)} {s : St} {M0 : Pd} {M1 : Pd} {g0 g1 g2 : Nat} (h0 : F_dthere p0 p1 p2 = some R) (hU : UD s.boxes.length [g0, g1, g2]) (hB0 : s.boxes[g0]? = some ⟨HOT, [M0]⟩) (hB1 : s.boxes[g1]? = some ⟨HOT, [M1]⟩) (hB2 : s.boxes[g2]? = some ⟨160, [pl (.int .i64 p0.pages_), mref g0, mref g1, pl (.int .i64 p0.left_), pl (.bool p0.down_)]⟩) (hM0 : M0.le (mpf KM_dev p0.safe_)) (hMb0 : ∀ n m, M0.Bnd n m) (hM1 : M1.le (mpf KM_dev p0.waits_)) (hMb1 : ∀ n m, M1.Bnd n m) : AC Go.Proofs.Tryd.prog 81 [ptr g2 0, pl (.int .i64 p1), pl (.int .i64 p2)] s (pl (errV R)) s := by
  obtain ⟨N, hNs⟩ : ∃ N, s.boxes.length = N := ⟨_, rfl⟩
  have hUN : UD N [g0, g1, g2] := hNs ▸ hU
  obtain ⟨hl0, ⟨hn01, ⟨hn02, -⟩⟩, ⟨hl1, ⟨hn12, -⟩, ⟨hl2, -, -⟩⟩⟩ := hUN
  unfold F_dthere at h0
  refine ac_of_aw s.boxes.length s.fr.length Go.Proofs.Tryd.func81 rfl (by simp [Go.Proofs.Tryd.ntmps81]) ?_
  refine aw_ext0 ?_
  refine aw_updL0 (l := [(g0, ⟨HOT, [M0]⟩), (g1, ⟨HOT, [M1]⟩), (g2, ⟨160, [pl (.int .i64 p0.pages_), mref g0, mref g1, pl (.int .i64 p0.left_), pl (.bool p0.down_)]⟩)]) ⟨hB0, hB1, hB2, trivial⟩ ?_
  refine aw_keep [(0, _), (1, _), (2, _)] ⟨lg ez, lg (es ez), lg (es (es ez)), trivial⟩ ?_
  refine aw_seq ?_
  refine aw_region (by decide) ?_
  refine rts _ rfl (opD_assign (ev_const _ _)) ?_
  refine .nil ?_
  refine aw_keep [(0, _), (1, _), (2, _)] ⟨lg (ls rfl oz), lg (ls rfl (os rfl oz)), lg (ls rfl (os rfl (os rfl oz))), trivial⟩ ?_
  refine aw_seq ?_
  refine aw_block ?_
  refine aw_seq ?_
  refine aw_region (by decide) ?_
  refine rts _ rfl (opD_move oz) ?_
  replace h0 := bnd_some h0
  obtain ⟨x_1, hx_1, h0⟩ := h0
  refine rts _ rfl (opD_call ht25_W3 (c_dDown hx_1 (ud_len (m := 0) ((updL_len _ _).trans hNs) rfl ⟨by omega, ⟨by omega, ⟨by omega, trivial⟩⟩, ⟨by omega, ⟨by omega, trivial⟩, ⟨by omega, trivial, trivial⟩⟩⟩) (obj_get (k := 0) hU rfl) (obj_get (k := 1) hU rfl) (obj_get (k := 2) hU rfl) hM0 hMb0 hM1 hMb1) ⟨le_of_eq lz, trivial⟩) ?_
  refine rts _ rfl (opD_assign lz) ?_
  refine .nil ?_
  refine aw_keep [(1, _), (2, _), (7, _)] ⟨lg (ls rfl (ls rfl (ls rfl (os rfl oz)))), lg (ls rfl (ls rfl (ls rfl (os rfl (os rfl oz))))), lg lz, trivial⟩ ?_
  refine aw_cond _ (os rfl (os rfl oz)) (fun hc => ?_) (fun hc => ?_)
  · skip
    replace h0 := ifb_t h0 hc
    clear hc
    refine aw_seq ?_
    refine aw_region (by decide) ?_
    refine rts _ rfl (opD_ple (q := pl (errV (some 9))) rfl (opD_makeInterface_pl cc157_W3 (ev_const _ _))) ?_
    refine rts _ rfl (opD_assign lz) ?_
    refine .nil ?_
    refine aw_keep [(6, _)] ⟨lg lz, trivial⟩ ?_
    refine aw_ret ?_
    obtain rfl := some_of h0
    exact done_updLS ⟨hB0, hB1, hB2, trivial⟩ (.inr rfl) ((res_one rfl (it_tmp oz)).le (Pd.le_refl _)) (pl_bnd _ _ _)
  · skip
    replace h0 := ifb_f h0 hc
    clear hc
    refine aw_seq ?_
    refine aw_region (by decide) ?_
    refine rts _ rfl (opD_move oz) ?_
    refine rts _ rfl (opD_lss lz (ev_const _ _)) ?_
    refine rts _ rfl (opD_move lz) ?_
    refine rtg _ rfl lz (fun hg3_3_1 => opD_move (ls rfl (ls rfl (ls rfl oz)))) ?_
    refine rtg _ rfl (ls rfl lz) (fun hg3_4_2 => opD_move (ls rfl (ls rfl (ls rfl (ls rfl (os rfl oz)))))) ?_
    refine rtg _ rfl (ls rfl (ls rfl lz)) (fun hg3_5_3 => opD_geq ((ls rfl lz).trans (pif_pos hg3_5_3)) (lz.trans (pif_pos hg3_5_3))) ?_
    refine rts _ rfl (opD_or (ls rfl (ls rfl (ls rfl lz))) lz) ?_
    refine rts _ rfl (opD_assign lz) ?_
    refine .nil ?_
    refine aw_keep [(11, _)] ⟨lg lz, trivial⟩ ?_
    refine aw_cond _ oz (fun hc => ?_) (fun hc => ?_)
    · skip
      replace h0 := ifb_t h0 hc
      clear hc
      refine aw_seq ?_
      refine aw_region (by decide) ?_
      refine rts _ rfl (opD_ple (q := pl (errV (some 2))) rfl (opD_makeInterface_pl cc157_W3 (ev_const _ _))) ?_
      refine rts _ rfl (opD_assign lz) ?_
      refine .nil ?_
      refine aw_keep [(6, _)] ⟨lg lz, trivial⟩ ?_
      refine aw_ret ?_
      obtain rfl := some_of h0
      exact done_updLS ⟨hB0, hB1, hB2, trivial⟩ (.inr rfl) ((res_one rfl (it_tmp oz)).le (Pd.le_refl _)) (pl_bnd _ _ _)
    · skip
      replace h0 := ifb_f h0 hc
      clear hc
      refine aw_skip ?_
      refine aw_keep [] trivial ?_
      refine aw_seq ?_
      refine aw_region (by decide) ?_
      refine rts _ rfl (opD_assign (ev_const _ _)) ?_
      refine .nil ?_
      refine aw_keep [(6, _)] ⟨lg lz, trivial⟩ ?_
      refine aw_ret ?_
      obtain rfl := some_of h0
      exact done_updLS ⟨hB0, hB1, hB2, trivial⟩ (.inr rfl) ((res_one rfl (it_tmp oz)).le (Pd.le_refl _)) (pl_bnd _ _ _)

def F_dstep (p0 : Dev) : Option ((Option Int) × Dev) :=
  ifb (decide (p0.left_ = 0)) (some (some 9, (⟨p0.pages_, p0.safe_, p0.waits_, p0.left_, true⟩ : Dev))) (some (none, (⟨p0.pages_, p0.safe_, p0.waits_, (if (IntKind.i64.wrap (p0.left_ - 1)) > (-1) then IntKind.i64.wrap (p0.left_ - 1) else (-1)), p0.down_⟩ : Dev)))
set_option maxRecDepth 100000 in
set_option maxHeartbeats 2000000 in
theorem c_dstep {p0 : Dev} {R : (Option Int) × Dev} {s : St} {M0 : Pd} {M1 : Pd} {g0 g1 g2 : Nat} (h0 : F_dstep p0 = some R) (hU : UD s.boxes.length [g0, g1, g2]) (hB0 : s.boxes[g0]? = some ⟨HOT, [M0]⟩) (hB1 : s.boxes[g1]? = some ⟨HOT, [M1]⟩) (hB2 : s.boxes[g2]? = some ⟨160, [pl (.int .i64 p0.pages_), mref g0, mref g1, pl (.int .i64 p0.left_), pl (.bool p0.down_)]⟩) (hM0 : M0.le (mpf KM_dev p0.safe_)) (hMb0 : ∀ n m, M0.Bnd n m) (hM1 : M1.le (mpf KM_dev p0.waits_)) (hMb1 : ∀ n m, M1.Bnd n m) : AC Go.Proofs.Tryd.prog 82 [ptr g2 0] s (pl (errV R.1)) (s.updL [(g0, ⟨HOT, [M0]⟩), (g1, ⟨HOT, [M1]⟩), (g2, ⟨160, [pl (.int .i64 R.2.pages_), mref g0, mref g1, pl (.int .i64 R.2.left_), pl (.bool R.2.down_)]⟩)]) := by
  obtain ⟨N, hNs⟩ : ∃ N, s.boxes.length = N := ⟨_, rfl⟩
  have hUN : UD N [g0, g1, g2] := hNs ▸ hU
  obtain ⟨hl0, ⟨hn01, ⟨hn02, -⟩⟩, ⟨hl1, ⟨hn12, -⟩, ⟨hl2, -, -⟩⟩⟩ := hUN
  unfold F_dstep at h0
  refine ac_of_aw s.boxes.length s.fr.length Go.Proofs.Tryd.func82 rfl (by simp [Go.Proofs.Tryd.ntmps82]) ?_
  refine aw_ext0 ?_
  refine aw_updL0 (l := [(g0, ⟨HOT, [M0]⟩), (g1, ⟨HOT, [M1]⟩), (g2, ⟨160, [pl (.int .i64 p0.pages_), mref g0, mref g1, pl (.int .i64 p0.left_), pl (.bool p0.down_)]⟩)]) ⟨hB0, hB1, hB2, trivial⟩ ?_
  refine aw_keep [(0, _)] ⟨lg ez, trivial⟩ ?_
  refine aw_seq ?_
  refine aw_region (by decide) ?_
  refine rts _ rfl (opD_assign (ev_const _ _)) ?_
  refine .nil ?_
  refine aw_keep [(0, _)] ⟨lg (ls rfl oz), trivial⟩ ?_
  refine aw_seq ?_
  refine aw_seq ?_
  refine aw_region (by decide) ?_
  refine rts _ rfl (opD_move oz) ?_
  refine rts _ rfl (opD_nilCheck_ptr lz) ?_
  refine rts _ rfl (opD_fieldAddr fo160_3_W3 lz) ?_
  refine rts _ rfl (opD_load_one ag3_W3 lz (obj_get (k := 2) hU rfl) rfl) ?_
  refine rts _ rfl (opD_eql lz (ev_const _ _)) ?_
  refine .nil ?_
  refine aw_keep [(0, _), (7, _)] ⟨lg (ls rfl (ls rfl (ls rfl (ls rfl (ls rfl oz))))), lg lz, trivial⟩ ?_
  refine aw_cond _ (os rfl oz) (fun hc => ?_) (fun hc => ?_)
  · skip
    replace h0 := ifb_t h0 hc
    clear hc
    refine aw_seq ?_
    refine aw_region (by decide) ?_
    refine rts _ rfl (opD_move oz) ?_
    refine rts _ rfl (opD_nilCheck_ptr lz) ?_
    refine rts _ rfl (opD_fieldAddr fo160_4_W3 lz) ?_
    refine rts _ rfl (storeL1 (k := 2) hU hNs sz4_W3 lz ((le_of_eq (ev_const _ _)).trans (Pd.le_refl _)) (one_pl rfl) rfl (Nat.le_of_ble_eq_true rfl) (pl_bnd _ _ _) (by simp only [na, nb, nc, nd, nf, ng, nh, ni, nj, nk] <;> rfl)) ?_
    refine .nil ?_
    refine aw_keep [] trivial ?_
    refine aw_seq ?_
    refine aw_region (by decide) ?_
    refine rts _ rfl (opD_ple (q := pl (errV (some 9))) rfl (opD_makeInterface_pl cc157_W3 (ev_const _ _))) ?_
    refine rts _ rfl (opD_assign lz) ?_
    refine .nil ?_
    refine aw_keep [(2, _)] ⟨lg lz, trivial⟩ ?_
    refine aw_ret ?_
    obtain rfl := some_of h0
    exact done_updL ⟨(bnd_cons (hMb0 _ _) bnd_nil), (bnd_cons (hMb1 _ _) bnd_nil), (bnd_cons (pl_bnd _ _ _) (bnd_cons (mref_bnd _ (by first | omega | (simp only [List.length_append, List.length_cons, List.length_nil]; omega))) (bnd_cons (mref_bnd _ (by first | omega | (simp only [List.length_append, List.length_cons, List.length_nil]; omega))) (bnd_cons (pl_bnd _ _ _) (bnd_cons (pl_bnd _ _ _) bnd_nil))))), trivial⟩ (.inr rfl) ((res_one rfl (it_tmp oz)).le (Pd.le_refl _)) (pl_bnd _ _ _)
  · skip
    replace h0 := ifb_f h0 hc
    clear hc
    refine aw_skip ?_
    refine aw_keep [(0, _)] ⟨lg oz, trivial⟩ ?_
    refine aw_seq ?_
    refine aw_region (by decide) ?_
    refine rts _ rfl (opD_move oz) ?_
    refine rts _ rfl (opD_move (ls rfl oz)) ?_
    refine rts _ rfl (opD_nilCheck_ptr lz) ?_
    refine rts _ rfl (opD_fieldAddr fo160_3_W3 lz) ?_
    refine rts _ rfl (opD_load_one ag3_W3 lz (obj_get (k := 2) hU rfl) rfl) ?_
    refine rts _ rfl (opD_sub lz (ev_const _ _) rfl) ?_
    refine rts _ rfl (opD_max (ev_const _ _) lz rfl) ?_
    refine rts _ rfl (opD_nilCheck_ptr (ls rfl (ls rfl (ls rfl (ls rfl (ls rfl (ls rfl lz))))))) ?_
    refine rts _ rfl (opD_fieldAddr fo160_3_W3 lz) ?_
    refine rts _ rfl (storeL1 (k := 2) hU hNs sz3_W3 lz ((le_of_eq (ls rfl (ls rfl lz))).trans (Pd.le_refl _)) (one_pl rfl) rfl (Nat.le_of_ble_eq_true rfl) (pl_bnd _ _ _) (by simp only [na, nb, nc, nd, nf, ng, nh, ni, nj, nk] <;> rfl)) ?_
    refine .nil ?_
    refine aw_keep [] trivial ?_
    refine aw_seq ?_
    refine aw_region (by decide) ?_
    refine rts _ rfl (opD_assign (ev_const _ _)) ?_
    refine .nil ?_
    refine aw_keep [(2, _)] ⟨lg lz, trivial⟩ ?_
    refine aw_ret ?_
    obtain rfl := some_of h0
    exact done_updL ⟨(bnd_cons (hMb0 _ _) bnd_nil), (bnd_cons (hMb1 _ _) bnd_nil), (bnd_cons (pl_bnd _ _ _) (bnd_cons (mref_bnd _ (by first | omega | (simp only [List.length_append, List.length_cons, List.length_nil]; omega))) (bnd_cons (mref_bnd _ (by first | omega | (simp only [List.length_append, List.length_cons, List.length_nil]; omega))) (bnd_cons (pl_bnd _ _ _) (bnd_cons (pl_bnd _ _ _) bnd_nil))))), trivial⟩ (.inr rfl) ((res_one rfl (it_tmp oz)).le (Pd.le_refl _)) (pl_bnd _ _ _)

def F_dread (p0 : Dev) (p1 : Int) : Option ((List Int)) :=
  bnd (F_dplace p1) fun x_1 => ltv ((p0.waits_ x_1).getD (List.replicate 64 0)) fun x_2 => grd ((List.replicate 64 (0 : Int)).length = 64) <| grd (x_2.length = 64) <| ifb ((p0.waits_ x_1).isSome) (grd (x_2.length = 64) <| grd ((List.replicate 64 (0 : Int)).length = 64) <| grd (x_2.length = 64) <| grd (x_2.length = 64) <| some x_2) (ltv ((p0.safe_ x_1).getD (List.replicate 64 0)) fun x_3 => grd ((List.replicate 64 (0 : Int)).length = 64) <| grd (x_3.length = 64) <| grd (x_3.length = 64) <| some x_3)
set_option maxRecDepth 100000 in
set_option maxHeartbeats 2000000 in
theorem c_dread {p0 : Dev} {p1 : Int} {R : (List Int)} {s : St} {M0 : Pd} {M1 : Pd} {g0 g1 g2 : Nat} (h0 : F_dread p0 p1 = some R) (hU : UD s.boxes.length [g0, g1, g2]) (hB0 : s.boxes[g0]? = some ⟨HOT, [M0]⟩) (hB1 : s.boxes[g1]? = some ⟨HOT, [M1]⟩) (hB2 : s.boxes[g2]? = some ⟨160, [pl (.int .i64 p0.pages_), mref g0, mref g1, pl (.int .i64 p0.left_), pl (.bool p0.down_)]⟩) (hM0 : M0.le (mpf KM_dev p0.safe_)) (hMb0 : ∀ n m, M0.Bnd n m) (hM1 : M1.le (mpf KM_dev p0.waits_)) (hMb1 : ∀ n m, M1.Bnd n m) : AC Go.Proofs.Tryd.prog 87 [ptr g2 0, pl (.int .i64 p1)] s (agg (flat (kI .u8) R)) s := by
  obtain ⟨N, hNs⟩ : ∃ N, s.boxes.length = N := ⟨_, rfl⟩
  have hUN : UD N [g0, g1, g2] := hNs ▸ hU
  obtain ⟨hl0, ⟨hn01, ⟨hn02, -⟩⟩, ⟨hl1, ⟨hn12, -⟩, ⟨hl2, -, -⟩⟩⟩ := hUN
  unfold F_dread at h0
  refine ac_of_aw s.boxes.length s.fr.length Go.Proofs.Tryd.func87 rfl (by simp [Go.Proofs.Tryd.ntmps87]) ?_
  refine aw_ext0 ?_
  refine aw_updL0 (l := [(g0, ⟨HOT, [M0]⟩), (g1, ⟨HOT, [M1]⟩), (g2, ⟨160, [pl (.int .i64 p0.pages_), mref g0, mref g1, pl (.int .i64 p0.left_), pl (.bool p0.down_)]⟩)]) ⟨hB0, hB1, hB2, trivial⟩ ?_
  refine aw_keep [(0, _), (1, _)] ⟨lg ez, lg (es ez), trivial⟩ ?_
  refine aw_seq ?_
  refine aw_region (by decide) ?_
  refine rts _ rfl (allocFN (k := kI .u8) (x0 := 0) (z := .int .u8 0) (m := 64) ((updL_len _ _).trans hNs) (by kernel_rfl) rfl (by first | exact List.length_nil | (simp only [List.length_cons, List.length_nil, Nat.zero_add, Nat.reduceAdd] <;> rfl)) (by simp only [na, nb, nc, nd, nf, ng, nh, ni, nj, nk] <;> rfl)) ?_
  refine .nil ?_
  refine aw_keep [(0, _), (1, _), (4, _)] ⟨lg (ls rfl oz), lg (ls rfl (os rfl oz)), lg lz, trivial⟩ ?_
  refine aw_seq ?_
  refine aw_region (by decide) ?_
  refine rts _ rfl (opD_move (os rfl oz)) ?_
  replace h0 := bnd_some h0
  obtain ⟨x_1, hx_1, h0⟩ := h0
  refine rts _ rfl (opD_pure ht83_W3 (c_dplace hx_1) ⟨le_of_eq lz, trivial⟩) ?_
  refine rts _ rfl (allocN ((updL_len _ _).trans hNs) zt165_W3 (by first | exact List.length_nil | (simp only [List.length_cons, List.length_nil, Nat.zero_add, Nat.reduceAdd] <;> rfl)) (by simp only [na, nb, nc, nd, nf, ng, nh, ni, nj, nk] <;> rfl)) ?_
  refine rts _ rfl (storeAN ((updL_len _ _).trans hNs) sz165_W3 lz (ls rfl lz) (ones_cons (one_pl rfl) (ones_cons (one_pl rfl) ones_nil)) rfl rfl (Nat.le_of_ble_eq_true rfl) (List.cons_ne_nil _ _) (bnd_cons (pl_bnd _ _ _) (bnd_cons (pl_bnd _ _ _) bnd_nil)) (by simp only [na, nb, nc, nd, nf, ng, nh, ni, nj, nk] <;> rfl) (by simp only [na, nb, nc, nd, nf, ng, nh, ni, nj, nk] <;> rfl)) ?_
  refine .nil ?_
  refine aw_keep [(0, _), (4, _), (5, _)] ⟨lg (lx (ls rfl (ls rfl (ls rfl oz)))), lg (lx (ls rfl (ls rfl (ls rfl (os rfl (os rfl oz)))))), lg (lx lz), trivial⟩ ?_
  refine aw_seq ?_
  refine aw_seq ?_
  refine aw_drawn [false, false, false, false, false, false, false, false, false, true, true, false] [[0, 1], [0, 1], [0, 1], [0, 1], [0, 1], [0, 1], [0, 1], [0, 1], [0, 1, 2], [0, 1], [1, 2], [2]] mixed_W3 (by decide +kernel) ?_
  refine dtp _ rfl (fun s => opD_move oz) ?_
  refine dtp _ rfl (fun s => opD_nilCheck_ptr lz) ?_
  refine dtp _ rfl (fun s => opD_fieldAddr fo160_2_W3 lz) ?_
  refine dtlG1 ag158_W3 lz (obj_get (k := 2) hU rfl) rfl rfl ?_
  refine dtlGA (qs := [_, _]) ag165_W3 sz165_W3 (ls rfl (ls rfl (ls rfl (ls rfl (os rfl (os rfl oz)))))) (loc_getN ((updL_len _ _).trans hNs) rfl) (Nat.le_of_ble_eq_true rfl) rfl rfl ?_
  replace h0 := ltv_some h0
  obtain ⟨x_2, hx_2, h0⟩ := h0
  refine dtl _ (fun s' => s'.boxes[g1]? = some ⟨HOT, [M1]⟩) rfl (fun s' hs' => opD_le (opD_lookupG (K := KM_dev) (k := x_1) (z := KM_dev.ev (List.replicate 64 0)) true Go.Proofs.Tryd.underlying158 KM_dev_kl KM_dev_z (ls rfl lz) ((le_of_eq lz).trans (KM_dev_kle _)) hs' hM1) (KM_dev_lk2 hx_2)) ?_
  refine dtp _ rfl (fun s => opD_move lz) ?_
  refine dtp _ rfl (fun s => opD_extract lz rfl) ?_
  refine dtp _ rfl (fun s => opD_extract (ls rfl lz) rfl) ?_
  refine dta _ rfl (allocFN (k := kI .u8) (x0 := 0) (z := .int .u8 0) (m := 64) ((updL_len _ _).trans hNs) (by kernel_rfl) rfl (by first | exact List.length_nil | (simp only [List.length_cons, List.length_nil, Nat.zero_add, Nat.reduceAdd] <;> rfl)) (by simp only [na, nb, nc, nd, nf, ng, nh, ni, nj, nk] <;> rfl)) ?_
  replace h0 := grd_some h0
  obtain ⟨hg_3, h0⟩ := h0
  replace h0 := grd_some h0
  obtain ⟨hg_4, h0⟩ := h0
  refine dta _ rfl (storeWF (k := kI .u8) ((updL_len _ _).trans hNs) sz163_W3 lz (ls rfl (ls rfl lz)) rfl rfl hg_3 hg_4 (by decide) (kb_I _) (by simp only [na, nb, nc, nd, nf, ng, nh, ni, nj, nk] <;> rfl)) ?_
  refine dtp _ rfl (fun s => opD_assign (lx (ls rfl lz))) ?_
  refine .nil ?_
  dsimp only [List.nil_append, List.cons_append]
  refine ⟨rfl, ⟨trivial, trivial, trivial, ⟨(by first | exact loc_getN ((updL_len _ _).trans hNs) rfl | exact ⟨_, loc_getN ((updL_len _ _).trans hNs) rfl⟩ | exact obj_get (k := 0) hU rfl | exact ⟨_, obj_get (k := 0) hU rfl⟩ | exact obj_get (k := 1) hU rfl | exact ⟨_, obj_get (k := 1) hU rfl⟩ | exact obj_get (k := 2) hU rfl | exact ⟨_, obj_get (k := 2) hU rfl⟩ ), (by first | exact loc_getN ((updL_len _ _).trans hNs) rfl | exact ⟨_, loc_getN ((updL_len _ _).trans hNs) rfl⟩ | exact obj_get (k := 0) hU rfl | exact ⟨_, obj_get (k := 0) hU rfl⟩ | exact obj_get (k := 1) hU rfl | exact ⟨_, obj_get (k := 1) hU rfl⟩ | exact obj_get (k := 2) hU rfl | exact ⟨_, obj_get (k := 2) hU rfl⟩ ), trivial⟩, ⟨(by first | exact loc_getN ((updL_len _ _).trans hNs) rfl | exact ⟨_, loc_getN ((updL_len _ _).trans hNs) rfl⟩ | exact obj_get (k := 0) hU rfl | exact ⟨_, obj_get (k := 0) hU rfl⟩ | exact obj_get (k := 1) hU rfl | exact ⟨_, obj_get (k := 1) hU rfl⟩ | exact obj_get (k := 2) hU rfl | exact ⟨_, obj_get (k := 2) hU rfl⟩ ), (by first | exact loc_getN ((updL_len _ _).trans hNs) rfl | exact ⟨_, loc_getN ((updL_len _ _).trans hNs) rfl⟩ | exact obj_get (k := 0) hU rfl | exact ⟨_, obj_get (k := 0) hU rfl⟩ | exact obj_get (k := 1) hU rfl | exact ⟨_, obj_get (k := 1) hU rfl⟩ | exact obj_get (k := 2) hU rfl | exact ⟨_, obj_get (k := 2) hU rfl⟩ ), trivial⟩, ⟨(by first | exact loc_getN ((updL_len _ _).trans hNs) rfl | exact ⟨_, loc_getN ((updL_len _ _).trans hNs) rfl⟩ | exact obj_get (k := 0) hU rfl | exact ⟨_, obj_get (k := 0) hU rfl⟩ | exact obj_get (k := 1) hU rfl | exact ⟨_, obj_get (k := 1) hU rfl⟩ | exact obj_get (k := 2) hU rfl | exact ⟨_, obj_get (k := 2) hU rfl⟩ ), (by first | exact loc_getN ((updL_len _ _).trans hNs) rfl | exact ⟨_, loc_getN ((updL_len _ _).trans hNs) rfl⟩ | exact obj_get (k := 0) hU rfl | exact ⟨_, obj_get (k := 0) hU rfl⟩ | exact obj_get (k := 1) hU rfl | exact ⟨_, obj_get (k := 1) hU rfl⟩ | exact obj_get (k := 2) hU rfl | exact ⟨_, obj_get (k := 2) hU rfl⟩ ), trivial⟩, trivial, trivial, trivial, trivial, trivial, trivial, trivial⟩, ?_⟩
  refine aw_keep [(0, _), (4, _), (5, _), (6, _), (7, _)] ⟨lg (ls rfl (lx (ls rfl (ls rfl (ls rfl (ls rfl (ls rfl (ls rfl (ls rfl (ls rfl (ls rfl (ls rfl oz)))))))))))), lg (ls rfl (lx (ls rfl (ls rfl (ls rfl (ls rfl (ls rfl (ls rfl (ls rfl (ls rfl (ls rfl (ls rfl (os rfl oz))))))))))))), lg (ls rfl (lx (ls rfl (ls rfl (ls rfl (ls rfl (ls rfl (ls rfl (ls rfl (ls rfl (ls rfl (ls rfl (os rfl (os rfl oz)))))))))))))), lg (ls rfl (lx lz)), lg lz, trivial⟩ ?_
  refine aw_seq ?_
  refine aw_region (by decide) ?_
  refine rts _ rfl (opD_move (os rfl (os rfl (os rfl (os rfl oz))))) ?_
  refine .nil ?_
  refine aw_keep [(0, _), (4, _), (5, _), (6, _), (19, _)] ⟨lg (ls rfl oz), lg (ls rfl (os rfl oz)), lg (ls rfl (os rfl (os rfl oz))), lg (ls rfl (os rfl (os rfl (os rfl oz)))), lg lz, trivial⟩ ?_
  refine aw_cond _ (os rfl (os rfl (os rfl (os rfl oz)))) (fun hc => ?_) (fun hc => ?_)
  · skip
    replace h0 := ifb_t h0 hc
    clear hc
    refine aw_seq ?_
    refine aw_region (by decide) ?_
    replace h0 := grd_some h0
    obtain ⟨hg_5, h0⟩ := h0
    refine rts _ rfl (loadFN ag163_W3 sz163_W3 (os rfl (os rfl (os rfl oz))) (loc_getN ((updL_len _ _).trans hNs) rfl) rfl hg_5) ?_
    replace h0 := grd_some h0
    obtain ⟨hg_6, h0⟩ := h0
    replace h0 := grd_some h0
    obtain ⟨hg_7, h0⟩ := h0
    refine rts _ rfl (storeWF (k := kI .u8) ((updL_len _ _).trans hNs) sz163_W3 (ls rfl (os rfl oz)) lz rfl rfl hg_6 hg_7 (by decide) (kb_I _) (by simp only [na, nb, nc, nd, nf, ng, nh, ni, nj, nk] <;> rfl)) ?_
    refine .nil ?_
    refine aw_keep [(4, _)] ⟨lg (lx (ls rfl (os rfl oz))), trivial⟩ ?_
    refine aw_ret ?_
    replace h0 := grd_some h0
    obtain ⟨hlen, h0⟩ := h0
    obtain rfl := some_of h0
    exact done_updLS ⟨hB0, hB1, hB2, trivial⟩ (.inr rfl) ((res_one rfl (it_cellA (B := ⟨163, flat (kI .u8) x_2⟩) ag163_W3 sz163_W3 oz (loc_getN ((updL_len _ _).trans hNs) rfl) (flat_len1 rfl hlen))).le (Pd.le_refl _)) (agg_bnd (flatKB (kb_I _)))
  · skip
    replace h0 := ifb_f h0 hc
    clear hc
    refine aw_skip ?_
    refine aw_keep [(0, _), (4, _), (5, _)] ⟨lg oz, lg (os rfl oz), lg (os rfl (os rfl oz)), trivial⟩ ?_
    refine aw_seq ?_
    refine aw_drawn [false, false, false, false, false, false, true] [[0], [0], [0], [0], [0], [0], [0, 1]] mixed_W3 (by decide +kernel) ?_
    refine dtp _ rfl (fun s => opD_move oz) ?_
    refine dtp _ rfl (fun s => opD_nilCheck_ptr lz) ?_
    refine dtp _ rfl (fun s => opD_fieldAddr fo160_1_W3 lz) ?_
    refine dtlG1 ag158_W3 lz (obj_get (k := 2) hU rfl) rfl rfl ?_
    refine dtlGA (qs := [_, _]) ag165_W3 sz165_W3 (ls rfl (ls rfl (ls rfl (ls rfl (os rfl (os rfl oz)))))) (loc_getN ((updL_len _ _).trans hNs) rfl) (Nat.le_of_ble_eq_true rfl) rfl rfl ?_
    replace h0 := ltv_some h0
    obtain ⟨x_3, hx_3, h0⟩ := h0
    refine dtl _ (fun s' => s'.boxes[g0]? = some ⟨HOT, [M0]⟩) rfl (fun s' hs' => opD_le (opD_lookupG (K := KM_dev) (k := x_1) (z := KM_dev.ev (List.replicate 64 0)) false Go.Proofs.Tryd.underlying158 KM_dev_kl KM_dev_z (ls rfl lz) ((le_of_eq lz).trans (KM_dev_kle _)) hs' hM0) (KM_dev_lk1 hx_3)) ?_
    replace h0 := grd_some h0
    obtain ⟨hg_10, h0⟩ := h0
    replace h0 := grd_some h0
    obtain ⟨hg_11, h0⟩ := h0
    refine dta _ rfl (storeWF (k := kI .u8) ((updL_len _ _).trans hNs) sz163_W3 (ls rfl (ls rfl (ls rfl (ls rfl (ls rfl (ls rfl (os rfl oz))))))) lz rfl rfl hg_10 hg_11 (by decide) (kb_I _) (by simp only [na, nb, nc, nd, nf, ng, nh, ni, nj, nk] <;> rfl)) ?_
    refine .nil ?_
    dsimp only [List.nil_append, List.cons_append]
    refine ⟨rfl, ⟨trivial, trivial, trivial, ⟨(by first | exact loc_getN ((updL_len _ _).trans hNs) rfl | exact ⟨_, loc_getN ((updL_len _ _).trans hNs) rfl⟩ | exact obj_get (k := 0) hU rfl | exact ⟨_, obj_get (k := 0) hU rfl⟩ | exact obj_get (k := 1) hU rfl | exact ⟨_, obj_get (k := 1) hU rfl⟩ | exact obj_get (k := 2) hU rfl | exact ⟨_, obj_get (k := 2) hU rfl⟩ ), trivial⟩, ⟨(by first | exact loc_getN ((updL_len _ _).trans hNs) rfl | exact ⟨_, loc_getN ((updL_len _ _).trans hNs) rfl⟩ | exact obj_get (k := 0) hU rfl | exact ⟨_, obj_get (k := 0) hU rfl⟩ | exact obj_get (k := 1) hU rfl | exact ⟨_, obj_get (k := 1) hU rfl⟩ | exact obj_get (k := 2) hU rfl | exact ⟨_, obj_get (k := 2) hU rfl⟩ ), trivial⟩, ⟨(by first | exact loc_getN ((updL_len _ _).trans hNs) rfl | exact ⟨_, loc_getN ((updL_len _ _).trans hNs) rfl⟩ | exact obj_get (k := 0) hU rfl | exact ⟨_, obj_get (k := 0) hU rfl⟩ | exact obj_get (k := 1) hU rfl | exact ⟨_, obj_get (k := 1) hU rfl⟩ | exact obj_get (k := 2) hU rfl | exact ⟨_, obj_get (k := 2) hU rfl⟩ ), trivial⟩, trivial, trivial⟩, ?_⟩
    refine aw_keep [(4, _)] ⟨lg (lx (ls rfl (ls rfl (ls rfl (ls rfl (ls rfl (ls rfl (os rfl oz)))))))), trivial⟩ ?_
    refine aw_ret ?_
    replace h0 := grd_some h0
    obtain ⟨hlen, h0⟩ := h0
    obtain rfl := some_of h0
    exact done_updLS ⟨hB0, hB1, hB2, trivial⟩ (.inr rfl) ((res_one rfl (it_cellA (B := ⟨163, flat (kI .u8) x_3⟩) ag163_W3 sz163_W3 oz (loc_getN ((updL_len _ _).trans hNs) rfl) (flat_len1 rfl hlen))).le (Pd.le_refl _)) (agg_bnd (flatKB (kb_I _)))

def F_dRead (p0 : Dev) (p1 : Int) : Option ((List Int) × (Option Int)) :=
  bnd (F_dPages p0) fun x_1 => bnd (F_dthere p0 p1 (IntKind.i64.wrap (8 * x_1))) fun x_2 => ifb x_2.isSome (some ([], x_2)) (bnd (F_dread p0 p1) fun x_3 => grd ((List.replicate 64 (0 : Int)).length = 64) <| grd (x_3.length = 64) <| grd (x_3.length = 64) <| some (x_3, none))
set_option maxRecDepth 100000 in
set_option maxHeartbeats 2000000 in
theorem c_dRead {p0 : Dev} {p1 : Int} {R : (List Int) × (Option Int)} {s : St} {M0 : Pd} {M1 : Pd} {g0 g1 g2 : Nat} (h0 : F_dRead p0 p1 = some R) (hU : UD s.boxes.length [g0, g1, g2]) (hB0 : s.boxes[g0]? = some ⟨HOT, [M0]⟩) (hB1 : s.boxes[g1]? = some ⟨HOT, [M1]⟩) (hB2 : s.boxes[g2]? = some ⟨160, [pl (.int .i64 p0.pages_), mref g0, mref g1, pl (.int .i64 p0.left_), pl (.bool p0.down_)]⟩) (hM0 : M0.le (mpf KM_dev p0.safe_)) (hMb0 : ∀ n m, M0.Bnd n m) (hM1 : M1.le (mpf KM_dev p0.waits_)) (hMb1 : ∀ n m, M1.Bnd n m) : AC Go.Proofs.Tryd.prog 20 [ptr g2 0, pl (.int .i64 p1)] s (tup [sl (kI .u8) none none R.1, pl (errV R.2)]) s := by
  obtain ⟨N, hNs⟩ : ∃ N, s.boxes.length = N := ⟨_, rfl⟩
  have hUN : UD N [g0, g1, g2] := hNs ▸ hU
  obtain ⟨hl0, ⟨hn01, ⟨hn02, -⟩⟩, ⟨hl1, ⟨hn12, -⟩, ⟨hl2, -, -⟩⟩⟩ := hUN
  unfold F_dRead at h0
  refine ac_of_aw s.boxes.length s.fr.length Go.Proofs.Tryd.func20 rfl (by simp [Go.Proofs.Tryd.ntmps20]) ?_
  refine aw_ext0 ?_
  refine aw_updL0 (l := [(g0, ⟨HOT, [M0]⟩), (g1, ⟨HOT, [M1]⟩), (g2, ⟨160, [pl (.int .i64 p0.pages_), mref g0, mref g1, pl (.int .i64 p0.left_), pl (.bool p0.down_)]⟩)]) ⟨hB0, hB1, hB2, trivial⟩ ?_
  refine aw_keep [(0, _), (1, _)] ⟨lg ez, lg (es ez), trivial⟩ ?_
  refine aw_seq ?_
  refine aw_region (by decide) ?_
  refine rts _ rfl (opD_assign (ev_const _ _)) ?_
  refine rts _ rfl (opD_assign (ev_const _ _)) ?_
  refine .nil ?_
  refine aw_keep [(0, _), (1, _)] ⟨lg (ls rfl (ls rfl oz)), lg (ls rfl (ls rfl (os rfl oz))), trivial⟩ ?_
  refine aw_seq ?_
  refine aw_seq ?_
  refine aw_region (by decide) ?_
  refine rts _ rfl (opD_move oz) ?_
  refine rts _ rfl (opD_move (ls rfl (os rfl oz))) ?_
  refine rts _ rfl (opD_move (ls rfl (ls rfl oz))) ?_
  replace h0 := bnd_some h0
  obtain ⟨x_1, hx_1, h0⟩ := h0
  refine rts _ rfl (opD_call ht42_W3 (c_dPages hx_1 (ud_len (m := 0) ((updL_len _ _).trans hNs) rfl ⟨by omega, ⟨by omega, ⟨by omega, trivial⟩⟩, ⟨by omega, ⟨by omega, trivial⟩, ⟨by omega, trivial, trivial⟩⟩⟩) (obj_get (k := 0) hU rfl) (obj_get (k := 1) hU rfl) (obj_get (k := 2) hU rfl) hM0 hMb0 hM1 hMb1) ⟨le_of_eq lz, trivial⟩) ?_
  refine rts _ rfl (opD_mul (ev_const _ _) lz rfl) ?_
  replace h0 := bnd_some h0
  obtain ⟨x_2, hx_2, h0⟩ := h0
  refine rts _ rfl (opD_call ht81_W3 (c_dthere hx_2 (ud_len (m := 0) ((updL_len _ _).trans hNs) rfl ⟨by omega, ⟨by omega, ⟨by omega, trivial⟩⟩, ⟨by omega, ⟨by omega, trivial⟩, ⟨by omega, trivial, trivial⟩⟩⟩) (obj_get (k := 0) hU rfl) (obj_get (k := 1) hU rfl) (obj_get (k := 2) hU rfl) hM0 hMb0 hM1 hMb1) ⟨le_of_eq (ls rfl (ls rfl (ls rfl (ls rfl lz)))), le_of_eq (ls rfl (ls rfl (ls rfl lz))), le_of_eq lz, trivial⟩) ?_
  refine rts _ rfl (opD_assign lz) ?_
  refine .nil ?_
  refine aw_keep [(0, _), (1, _), (6, _)] ⟨lg (ls rfl (ls rfl (ls rfl (ls rfl (ls rfl (ls rfl (ls rfl oz))))))), lg (ls rfl (ls rfl (ls rfl (ls rfl (ls rfl (ls rfl (ls rfl (os rfl oz)))))))), lg lz, trivial⟩ ?_
  refine aw_seq ?_
  refine aw_region (by decide) ?_
  refine rts _ rfl (opD_move (os rfl (os rfl oz))) ?_
  refine rts _ rfl (opD_bin lz (ev_const _ _) (fun w => errV_guard _ w _) (fun w => errV_beq _ w)) ?_
  refine .nil ?_
  refine aw_keep [(0, _), (1, _), (6, _), (15, _)] ⟨lg (ls rfl (ls rfl oz)), lg (ls rfl (ls rfl (os rfl oz))), lg (ls rfl (ls rfl (os rfl (os rfl oz)))), lg lz, trivial⟩ ?_
  refine aw_cond _ (os rfl (os rfl (os rfl oz))) (fun hc => ?_) (fun hc => ?_)
  · skip
    replace h0 := ifb_t h0 hc
    clear hc
    refine aw_seq ?_
    refine aw_region (by decide) ?_
    refine rts _ rfl (opD_move (os rfl (os rfl oz))) ?_
    refine rts _ rfl (opD_assign (ev_const _ _)) ?_
    refine rts _ rfl (opD_assign (ls rfl lz)) ?_
    refine .nil ?_
    refine aw_keep [(4, _), (5, _)] ⟨lg (ls rfl lz), lg lz, trivial⟩ ?_
    refine aw_ret ?_
    obtain rfl := some_of h0
    exact done_updLS ⟨hB0, hB1, hB2, trivial⟩ (.inr rfl) ((res_list (rs := [_, _]) (ps := [_, _]) rfl rfl ⟨it_tmp oz, it_tmp (os rfl oz), trivial⟩).le (tup_le ⟨(le_nil rfl), (Pd.le_refl _), trivial⟩)) (tup_bnd (bnd_cons (sl_b (kb_I _)) (bnd_cons (pl_bnd _ _ _) bnd_nil)))
  · skip
    replace h0 := ifb_f h0 hc
    clear hc
    refine aw_skip ?_
    refine aw_keep [(0, _), (1, _)] ⟨lg oz, lg (os rfl oz), trivial⟩ ?_
    refine aw_seq ?_
    refine aw_region (by decide) ?_
    refine rts _ rfl (opD_move oz) ?_
    refine rts _ rfl (opD_move (ls rfl (os rfl oz))) ?_
    replace h0 := bnd_some h0
    obtain ⟨x_3, hx_3, h0⟩ := h0
    refine rts _ rfl (opD_call ht87_W3 (c_dread hx_3 (ud_len (m := 0) ((updL_len _ _).trans hNs) rfl ⟨by omega, ⟨by omega, ⟨by omega, trivial⟩⟩, ⟨by omega, ⟨by omega, trivial⟩, ⟨by omega, trivial, trivial⟩⟩⟩) (obj_get (k := 0) hU rfl) (obj_get (k := 1) hU rfl) (obj_get (k := 2) hU rfl) hM0 hMb0 hM1 hMb1) ⟨le_of_eq (ls rfl lz), le_of_eq lz, trivial⟩) ?_
    refine rts _ rfl (allocFN (k := kI .u8) (x0 := 0) (z := .int .u8 0) (m := 64) ((updL_len _ _).trans hNs) (by kernel_rfl) rfl (by first | exact List.length_nil | (simp only [List.length_cons, List.length_nil, Nat.zero_add, Nat.reduceAdd] <;> rfl)) (by simp only [na, nb, nc, nd, nf, ng, nh, ni, nj, nk] <;> rfl)) ?_
    replace h0 := grd_some h0
    obtain ⟨hg_1, h0⟩ := h0
    replace h0 := grd_some h0
    obtain ⟨hg_2, h0⟩ := h0
    refine rts _ rfl (storeWF (k := kI .u8) ((updL_len _ _).trans hNs) sz163_W3 lz (ls rfl lz) rfl rfl hg_1 hg_2 (by decide) (kb_I _) (by simp only [na, nb, nc, nd, nf, ng, nh, ni, nj, nk] <;> rfl)) ?_
    refine .nil ?_
    refine aw_keep [(7, _)] ⟨lg (lx lz), trivial⟩ ?_
    refine aw_seq ?_
    refine aw_region (by decide) ?_
    replace h0 := grd_some h0
    obtain ⟨hg_3, h0⟩ := h0
    refine rts _ rfl (opD_to (opD_sliceArr (k := kI .u8) Go.Proofs.Tryd.underlying163 sz5_W3 (by decide) rfl oz (loc_getN ((updL_len _ _).trans hNs) rfl) hg_3 (by decide)) (ul_loc (k := 0) ((updL_len _ _).trans hNs) rfl (by simp only [na, nb, nc, nd, nf, ng, nh, ni, nj, nk] <;> rfl))) ?_
    refine rts _ rfl (opD_assign lz) ?_
    refine rts _ rfl (opD_assign (ev_const _ _)) ?_
    refine .nil ?_
    refine aw_keep [(4, _), (5, _)] ⟨lg (ls rfl lz), lg lz, trivial⟩ ?_
    refine aw_ret ?_
    obtain rfl := some_of h0
    exact done_updLS ⟨hB0, hB1, hB2, trivial⟩ (.inr rfl) ((res_list (rs := [_, _]) (ps := [_, _]) rfl rfl ⟨it_tmp oz, it_tmp (os rfl oz), trivial⟩).le (tup_le ⟨(sl_any _ _ _ _), (Pd.le_refl _), trivial⟩)) (tup_bnd (bnd_cons (sl_b (kb_I _)) (bnd_cons (pl_bnd _ _ _) bnd_nil)))

def F_dWrite (p0 : Dev) (p1 : Int) (p2 : (List Int)) : Option ((Option Int) × Dev) :=
  bnd (F_dPages p0) fun x_1 => bnd (F_dthere p0 p1 (IntKind.i64.wrap (8 * x_1))) fun x_2 => ifb x_2.isSome (some (x_2, p0)) (ifb (decide ((p2.length : Int) ≠ 64)) (some (some 1, p0)) (bnd (F_dstep p0) fun x_3 => ifb x_3.1.isSome (some (x_3.1, (⟨x_3.2.pages_, p0.safe_, p0.waits_, x_3.2.left_, x_3.2.down_⟩ : Dev))) (bnd (F_dplace p1) fun x_4 => grd (64 ≤ p2.length) <| some (none, (⟨x_3.2.pages_, p0.safe_, (fset p0.waits_ x_4 (p2.take 64)), x_3.2.left_, x_3.2.down_⟩ : Dev)))))
set_option maxRecDepth 100000 in
set_option maxHeartbeats 2000000 in
theorem c_dWrite {p0 : Dev} {p1 : Int} {p2 : (List Int)} {R : (Option Int) × Dev} {s : St} {M0 : Pd} {g0 g1 g2 : Nat} (h0 : F_dWrite p0 p1 p2 = some R) (hU : UD s.boxes.length [g0, g1, g2]) (hB0 : s.boxes[g0]? = some ⟨HOT, [M0]⟩) (hB1 : s.boxes[g1]? = some ⟨HOT, [mpf KM_dev p0.waits_]⟩) (hB2 : s.boxes[g2]? = some ⟨160, [pl (.int .i64 p0.pages_), mref g0, mref g1, pl (.int .i64 p0.left_), pl (.bool p0.down_)]⟩) (hM0 : M0.le (mpf KM_dev p0.safe_)) (hMb0 : ∀ n m, M0.Bnd n m) : AC Go.Proofs.Tryd.prog 15 [ptr g2 0, pl (.int .i64 p1), sl (kI .u8) none none p2] s (pl (errV R.1)) (s.updL [(g0, ⟨HOT, [M0]⟩), (g1, ⟨HOT, [mpf KM_dev R.2.waits_]⟩), (g2, ⟨160, [pl (.int .i64 R.2.pages_), mref g0, mref g1, pl (.int .i64 R.2.left_), pl (.bool R.2.down_)]⟩)]) := by
  obtain ⟨N, hNs⟩ : ∃ N, s.boxes.length = N := ⟨_, rfl⟩
  have hUN : UD N [g0, g1, g2] := hNs ▸ hU
  obtain ⟨hl0, ⟨hn01, ⟨hn02, -⟩⟩, ⟨hl1, ⟨hn12, -⟩, ⟨hl2, -, -⟩⟩⟩ := hUN
  unfold F_dWrite at h0
  refine ac_of_aw s.boxes.length s.fr.length Go.Proofs.Tryd.func15 rfl (by simp [Go.Proofs.Tryd.ntmps15]) ?_
  refine aw_ext0 ?_
  refine aw_updL0 (l := [(g0, ⟨HOT, [M0]⟩), (g1, ⟨HOT, [mpf KM_dev p0.waits_]⟩), (g2, ⟨160, [pl (.int .i64 p0.pages_), mref g0, mref g1, pl (.int .i64 p0.left_), pl (.bool p0.down_)]⟩)]) ⟨hB0, hB1, hB2, trivial⟩ ?_
  refine aw_keep [(0, _), (1, _), (2, _)] ⟨lg ez, lg (es ez), lg (es (es ez)), trivial⟩ ?_
  refine aw_seq ?_
  refine aw_region (by decide) ?_
  refine rts _ rfl (opD_assign (ev_const _ _)) ?_
  refine .nil ?_
  refine aw_keep [(0, _), (1, _), (2, _)] ⟨lg (ls rfl oz), lg (ls rfl (os rfl oz)), lg (ls rfl (os rfl (os rfl oz))), trivial⟩ ?_
  refine aw_seq ?_
  refine aw_seq ?_
  refine aw_region (by decide) ?_
  refine rts _ rfl (opD_move oz) ?_
  refine rts _ rfl (opD_move (ls rfl (os rfl oz))) ?_
  refine rts _ rfl (opD_move (ls rfl (ls rfl oz))) ?_
  replace h0 := bnd_some h0
  obtain ⟨x_1, hx_1, h0⟩ := h0
  refine rts _ rfl (opD_call ht42_W3 (c_dPages hx_1 (ud_len (m := 0) ((updL_len _ _).trans hNs) rfl ⟨by omega, ⟨by omega, ⟨by omega, trivial⟩⟩, ⟨by omega, ⟨by omega, trivial⟩, ⟨by omega, trivial, trivial⟩⟩⟩) (obj_get (k := 0) hU rfl) (obj_get (k := 1) hU rfl) (obj_get (k := 2) hU rfl) hM0 hMb0 (Pd.le_refl _) (mpf_bnd _ _)) ⟨le_of_eq lz, trivial⟩) ?_
  refine rts _ rfl (opD_mul (ev_const _ _) lz rfl) ?_
  replace h0 := bnd_some h0
  obtain ⟨x_2, hx_2, h0⟩ := h0
  refine rts _ rfl (opD_call ht81_W3 (c_dthere hx_2 (ud_len (m := 0) ((updL_len _ _).trans hNs) rfl ⟨by omega, ⟨by omega, ⟨by omega, trivial⟩⟩, ⟨by omega, ⟨by omega, trivial⟩, ⟨by omega, trivial, trivial⟩⟩⟩) (obj_get (k := 0) hU rfl) (obj_get (k := 1) hU rfl) (obj_get (k := 2) hU rfl) hM0 hMb0 (Pd.le_refl _) (mpf_bnd _ _)) ⟨le_of_eq (ls rfl (ls rfl (ls rfl (ls rfl lz)))), le_of_eq (ls rfl (ls rfl (ls rfl lz))), le_of_eq lz, trivial⟩) ?_
  refine rts _ rfl (opD_assign lz) ?_
  refine .nil ?_
  refine aw_keep [(0, _), (1, _), (2, _), (7, _)] ⟨lg (ls rfl (ls rfl (ls rfl (ls rfl (ls rfl (ls rfl (ls rfl oz))))))), lg (ls rfl (ls rfl (ls rfl (ls rfl (ls rfl (ls rfl (ls rfl (os rfl oz)))))))), lg (ls rfl (ls rfl (ls rfl (ls rfl (ls rfl (ls rfl (ls rfl (os rfl (os rfl oz))))))))), lg lz, trivial⟩ ?_
  refine aw_seq ?_
  refine aw_region (by decide) ?_
  refine rts _ rfl (opD_move (os rfl (os rfl (os rfl oz)))) ?_
  refine rts _ rfl (opD_bin lz (ev_const _ _) (fun w => errV_guard _ w _) (fun w => errV_beq _ w)) ?_
  refine .nil ?_
  refine aw_keep [(0, _), (1, _), (2, _), (7, _), (16, _)] ⟨lg (ls rfl (ls rfl oz)), lg (ls rfl (ls rfl (os rfl oz))), lg (ls rfl (ls rfl (os rfl (os rfl oz)))), lg (ls rfl (ls rfl (os rfl (os rfl (os rfl oz))))), lg lz, trivial⟩ ?_
  refine aw_cond _ (os rfl (os rfl (os rfl (os rfl oz)))) (fun hc => ?_) (fun hc => ?_)
  · skip
    replace h0 := ifb_t h0 hc
    clear hc
    refine aw_seq ?_
    refine aw_region (by decide) ?_
    refine rts _ rfl (opD_move (os rfl (os rfl (os rfl oz)))) ?_
    refine rts _ rfl (opD_assign lz) ?_
    refine .nil ?_
    refine aw_keep [(6, _)] ⟨lg lz, trivial⟩ ?_
    refine aw_ret ?_
    obtain rfl := some_of h0
    exact done_updL ⟨(bnd_cons (hMb0 _ _) bnd_nil), (bnd_cons ((mpf_bnd _ _) _ _) bnd_nil), (bnd_cons (pl_bnd _ _ _) (bnd_cons (mref_bnd _ (by first | omega | (simp only [List.length_append, List.length_cons, List.length_nil]; omega))) (bnd_cons (mref_bnd _ (by first | omega | (simp only [List.length_append, List.length_cons, List.length_nil]; omega))) (bnd_cons (pl_bnd _ _ _) (bnd_cons (pl_bnd _ _ _) bnd_nil))))), trivial⟩ (.inr rfl) ((res_one rfl (it_tmp oz)).le (Pd.le_refl _)) (pl_bnd _ _ _)
  · skip
    replace h0 := ifb_f h0 hc
    clear hc
    refine aw_skip ?_
    refine aw_keep [(0, _), (1, _), (2, _)] ⟨lg oz, lg (os rfl oz), lg (os rfl (os rfl oz)), trivial⟩ ?_
    refine aw_seq ?_
    refine aw_seq ?_
    refine aw_region (by decide) ?_
    refine rts _ rfl (opD_move (os rfl (os rfl oz))) ?_
    refine rts _ rfl (opD_len_sl Go.Proofs.Tryd.underlying33 lz) ?_
    refine rts _ rfl (opD_neq lz (ev_const _ _)) ?_
    refine .nil ?_
    refine aw_keep [(0, _), (1, _), (2, _), (20, _)] ⟨lg (ls rfl (ls rfl (ls rfl oz))), lg (ls rfl (ls rfl (ls rfl (os rfl oz)))), lg (ls rfl (ls rfl (ls rfl (os rfl (os rfl oz))))), lg lz, trivial⟩ ?_
    refine aw_cond _ (os rfl (os rfl (os rfl oz))) (fun hc => ?_) (fun hc => ?_)
    · skip
      replace h0 := ifb_t h0 hc
      clear hc
      refine aw_seq ?_
      refine aw_region (by decide) ?_
      refine rts _ rfl (opD_ple (q := pl (errV (some 1))) rfl (opD_makeInterface_pl cc157_W3 (ev_const _ _))) ?_
      refine rts _ rfl (opD_assign lz) ?_
      refine .nil ?_
      refine aw_keep [(6, _)] ⟨lg lz, trivial⟩ ?_
      refine aw_ret ?_
      obtain rfl := some_of h0
      exact done_updL ⟨(bnd_cons (hMb0 _ _) bnd_nil), (bnd_cons ((mpf_bnd _ _) _ _) bnd_nil), (bnd_cons (pl_bnd _ _ _) (bnd_cons (mref_bnd _ (by first | omega | (simp only [List.length_append, List.length_cons, List.length_nil]; omega))) (bnd_cons (mref_bnd _ (by first | omega | (simp only [List.length_append, List.length_cons, List.length_nil]; omega))) (bnd_cons (pl_bnd _ _ _) (bnd_cons (pl_bnd _ _ _) bnd_nil))))), trivial⟩ (.inr rfl) ((res_one rfl (it_tmp oz)).le (Pd.le_refl _)) (pl_bnd _ _ _)
    · skip
      replace h0 := ifb_f h0 hc
      clear hc
      refine aw_skip ?_
      refine aw_keep [(0, _), (1, _), (2, _)] ⟨lg oz, lg (os rfl oz), lg (os rfl (os rfl oz)), trivial⟩ ?_
      refine aw_seq ?_
      refine aw_seq ?_
      refine aw_region (by decide) ?_
      refine rts _ rfl (opD_move oz) ?_
      replace h0 := bnd_some h0
      obtain ⟨x_3, hx_3, h0⟩ := h0
      refine rts _ rfl (opD_ple (q := pl (errV x_3.1)) rfl (opD_to (X' := (s.updL [(g0, ⟨HOT, [M0]⟩), (g1, ⟨HOT, [mpf KM_dev p0.waits_]⟩), (g2, ⟨160, [pl (.int .i64 x_3.2.pages_), mref g0, mref g1, pl (.int .i64 x_3.2.left_), pl (.bool x_3.2.down_)]⟩)]).ext [] []) (opD_call ht82_W3 (c_dstep hx_3 (ud_len (m := 0) ((updL_len _ _).trans hNs) rfl ⟨by omega, ⟨by omega, ⟨by omega, trivial⟩⟩, ⟨by omega, ⟨by omega, trivial⟩, ⟨by omega, trivial, trivial⟩⟩⟩) (obj_get (k := 0) hU rfl) (obj_get (k := 1) hU rfl) (obj_get (k := 2) hU rfl) hM0 hMb0 (Pd.le_refl _) (mpf_bnd _ _)) ⟨le_of_eq lz, trivial⟩) (ul_obj (l := [(g0, ⟨HOT, [M0]⟩), (g1, ⟨HOT, [mpf KM_dev p0.waits_]⟩), (g2, ⟨160, [pl (.int .i64 x_3.2.pages_), mref g0, mref g1, pl (.int .i64 x_3.2.left_), pl (.bool x_3.2.down_)]⟩)]) (k := 0) hU (ul_obj (l := [(g0, ⟨HOT, [M0]⟩), (g1, ⟨HOT, [mpf KM_dev p0.waits_]⟩), (g2, ⟨160, [pl (.int .i64 x_3.2.pages_), mref g0, mref g1, pl (.int .i64 x_3.2.left_), pl (.bool x_3.2.down_)]⟩)]) (k := 1) hU (ul_obj (l := [(g0, ⟨HOT, [M0]⟩), (g1, ⟨HOT, [mpf KM_dev p0.waits_]⟩), (g2, ⟨160, [pl (.int .i64 p0.pages_), mref g0, mref g1, pl (.int .i64 p0.left_), pl (.bool p0.down_)]⟩)]) (k := 2) hU rfl rfl (by simp only [na, nb, nc, nd, nf, ng, nh, ni, nj, nk] <;> rfl)) rfl (by simp only [na, nb, nc, nd, nf, ng, nh, ni, nj, nk] <;> rfl)) rfl (by simp only [na, nb, nc, nd, nf, ng, nh, ni, nj, nk] <;> rfl)))) ?_
      refine rts _ rfl (opD_assign lz) ?_
      refine .nil ?_
      refine aw_keep [(0, _), (1, _), (2, _), (8, _)] ⟨lg (ls rfl (ls rfl (ls rfl oz))), lg (ls rfl (ls rfl (ls rfl (os rfl oz)))), lg (ls rfl (ls rfl (ls rfl (os rfl (os rfl oz))))), lg lz, trivial⟩ ?_
      refine aw_seq ?_
      refine aw_region (by decide) ?_
      refine rts _ rfl (opD_move (os rfl (os rfl (os rfl oz)))) ?_
      refine rts _ rfl (opD_bin lz (ev_const _ _) (fun w => errV_guard _ w _) (fun w => errV_beq _ w)) ?_
      refine .nil ?_
      refine aw_keep [(0, _), (1, _), (2, _), (8, _), (25, _)] ⟨lg (ls rfl (ls rfl oz)), lg (ls rfl (ls rfl (os rfl oz))), lg (ls rfl (ls rfl (os rfl (os rfl oz)))), lg (ls rfl (ls rfl (os rfl (os rfl (os rfl oz))))), lg lz, trivial⟩ ?_
      refine aw_cond _ (os rfl (os rfl (os rfl (os rfl oz)))) (fun hc => ?_) (fun hc => ?_)
      · skip
        replace h0 := ifb_t h0 hc
        clear hc
        refine aw_seq ?_
        refine aw_region (by decide) ?_
        refine rts _ rfl (opD_move (os rfl (os rfl (os rfl oz)))) ?_
        refine rts _ rfl (opD_assign lz) ?_
        refine .nil ?_
        refine aw_keep [(6, _)] ⟨lg lz, trivial⟩ ?_
        refine aw_ret ?_
        obtain rfl := some_of h0
        exact done_updL ⟨(bnd_cons (hMb0 _ _) bnd_nil), (bnd_cons ((mpf_bnd _ _) _ _) bnd_nil), (bnd_cons (pl_bnd _ _ _) (bnd_cons (mref_bnd _ (by first | omega | (simp only [List.length_append, List.length_cons, List.length_nil]; omega))) (bnd_cons (mref_bnd _ (by first | omega | (simp only [List.length_append, List.length_cons, List.length_nil]; omega))) (bnd_cons (pl_bnd _ _ _) (bnd_cons (pl_bnd _ _ _) bnd_nil))))), trivial⟩ (.inr rfl) ((res_one rfl (it_tmp oz)).le (Pd.le_refl _)) (pl_bnd _ _ _)
      · skip
        replace h0 := ifb_f h0 hc
        clear hc
        refine aw_skip ?_
        refine aw_keep [(0, _), (1, _), (2, _)] ⟨lg oz, lg (os rfl oz), lg (os rfl (os rfl oz)), trivial⟩ ?_
        refine aw_seq ?_
        refine aw_drawn [false, false, false, false, false, false, false, false, false, true] [[0], [0], [0], [0], [0], [0], [0], [0], [0], [0, 1]] mixed_W3 (by decide +kernel) ?_
        refine dtp _ rfl (fun s => opD_move oz) ?_
        refine dtp _ rfl (fun s => opD_nilCheck_ptr lz) ?_
        refine dtp _ rfl (fun s => opD_fieldAddr fo160_2_W3 lz) ?_
        refine dtlG1 ag158_W3 lz (obj_get (k := 2) hU rfl) rfl rfl ?_
        refine dtp _ rfl (fun s => opD_move (ls rfl (ls rfl (ls rfl (ls rfl (os rfl oz)))))) ?_
        replace h0 := bnd_some h0
        obtain ⟨x_4, hx_4, h0⟩ := h0
        refine dtp _ rfl (fun s => opD_pure ht83_W3 (c_dplace hx_4) ⟨le_of_eq lz, trivial⟩) ?_
        refine dtp _ rfl (fun s => opD_move (ls rfl (ls rfl (ls rfl (ls rfl (ls rfl (ls rfl (os rfl (os rfl oz))))))))) ?_
        replace h0 := grd_some h0
        obtain ⟨hg_2, h0⟩ := h0
        refine dtp _ rfl (fun s => opD_s2a (n := 64) Go.Proofs.Tryd.underlying163 (le_of_eq lz) hg_2 (by decide)) ?_
        refine dtp _ rfl (fun s => opD_loadArr (n := 64) ag163_W3 sz163_W3 rfl lz hg_2) ?_
        refine dta _ rfl (opD_to (opD_mapUpdateG (K := KM_dev) (k := x_4) (v := (p2.take 64)) Go.Proofs.Tryd.underlying158 KM_dev_kl (ls rfl (ls rfl (ls rfl (ls rfl (ls rfl lz))))) ((le_of_eq (ls rfl (ls rfl (ls rfl lz)))).trans (KM_dev_kle _)) ((le_of_eq lz).trans (KM_dev_vle _)) (obj_get (k := 1) hU rfl) (Pd.le_refl _)) (ul_obj (l := [(g0, ⟨HOT, [M0]⟩), (g1, ⟨HOT, [mpf KM_dev p0.waits_]⟩), (g2, ⟨160, [pl (.int .i64 x_3.2.pages_), mref g0, mref g1, pl (.int .i64 x_3.2.left_), pl (.bool x_3.2.down_)]⟩)]) (k := 1) hU rfl rfl (by simp only [na, nb, nc, nd, nf, ng, nh, ni, nj, nk] <;> rfl))) ?_
        refine .nil ?_
        dsimp only [List.nil_append, List.cons_append]
        refine ⟨rfl, ⟨trivial, trivial, trivial, ⟨(by first | exact loc_getN ((updL_len _ _).trans hNs) rfl | exact ⟨_, loc_getN ((updL_len _ _).trans hNs) rfl⟩ | exact obj_get (k := 0) hU rfl | exact ⟨_, obj_get (k := 0) hU rfl⟩ | exact obj_get (k := 1) hU rfl | exact ⟨_, obj_get (k := 1) hU rfl⟩ | exact obj_get (k := 2) hU rfl | exact ⟨_, obj_get (k := 2) hU rfl⟩ ), trivial⟩, trivial, trivial, trivial, trivial, trivial, trivial, trivial⟩, ?_⟩
        refine aw_keep [] trivial ?_
        refine aw_seq ?_
        refine aw_region (by decide) ?_
        refine rts _ rfl (opD_assign (ev_const _ _)) ?_
        refine .nil ?_
        refine aw_keep [(6, _)] ⟨lg lz, trivial⟩ ?_
        refine aw_ret ?_
        obtain rfl := some_of h0
        exact done_updL ⟨(bnd_cons (hMb0 _ _) bnd_nil), (bnd_cons ((mpf_bnd _ _) _ _) bnd_nil), (bnd_cons (pl_bnd _ _ _) (bnd_cons (mref_bnd _ (by first | omega | (simp only [List.length_append, List.length_cons, List.length_nil]; omega))) (bnd_cons (mref_bnd _ (by first | omega | (simp only [List.length_append, List.length_cons, List.length_nil]; omega))) (bnd_cons (pl_bnd _ _ _) (bnd_cons (pl_bnd _ _ _) bnd_nil))))), trivial⟩ (.inr rfl) ((res_one rfl (it_tmp oz)).le (Pd.le_refl _)) (pl_bnd _ _ _)

def F_dsettle (p0 : Dev) (p1 : At) : Option (Dev) :=
  ltv ((p0.waits_ p1).getD (List.replicate 64 0)) fun x_1 => grd ((List.replicate 64 (0 : Int)).length = 64) <| grd (x_1.length = 64) <| grd (x_1.length = 64) <| grd (x_1.length = 64) <| ifb (!decide (x_1 = (List.replicate 64 (0 : Int)))) (grd (x_1.length = 64) <| some (⟨p0.pages_, (fset p0.safe_ p1 x_1), p0.waits_, p0.left_, p0.down_⟩ : Dev)) (some (⟨p0.pages_, (fdel p0.safe_ p1), p0.waits_, p0.left_, p0.down_⟩ : Dev))
set_option maxRecDepth 100000 in
set_option maxHeartbeats 2000000 in
theorem c_dsettle {p0 : Dev} {p1 : At} {R : Dev} {s : St} {M1 : Pd} {g0 g1 g2 : Nat} (h0 : F_dsettle p0 p1 = some R) (hU : UD s.boxes.length [g0, g1, g2]) (hB0 : s.boxes[g0]? = some ⟨HOT, [mpf KM_dev p0.safe_]⟩) (hB1 : s.boxes[g1]? = some ⟨HOT, [M1]⟩) (hB2 : s.boxes[g2]? = some ⟨160, [pl (.int .i64 p0.pages_), mref g0, mref g1, pl (.int .i64 p0.left_), pl (.bool p0.down_)]⟩) (hM1 : M1.le (mpf KM_dev p0.waits_)) (hMb1 : ∀ n m, M1.Bnd n m) : AC Go.Proofs.Tryd.prog 84 [ptr g2 0, agg [pl (.int .i64 p1.page_), pl (.int .i64 p1.part_)]] s (pl (.tuple #[])) (s.updL [(g0, ⟨HOT, [mpf KM_dev R.safe_]⟩), (g1, ⟨HOT, [M1]⟩), (g2, ⟨160, [pl (.int .i64 R.pages_), mref g0, mref g1, pl (.int .i64 R.left_), pl (.bool R.down_)]⟩)]) := by
  obtain ⟨N, hNs⟩ : ∃ N, s.boxes.length = N := ⟨_, rfl⟩
  have hUN : UD N [g0, g1, g2] := hNs ▸ hU
  obtain ⟨hl0, ⟨hn01, ⟨hn02, -⟩⟩, ⟨hl1, ⟨hn12, -⟩, ⟨hl2, -, -⟩⟩⟩ := hUN
  unfold F_dsettle at h0
  refine ac_of_aw s.boxes.length s.fr.length Go.Proofs.Tryd.func84 rfl (by simp [Go.Proofs.Tryd.ntmps84]) ?_
  refine aw_ext0 ?_
  refine aw_updL0 (l := [(g0, ⟨HOT, [mpf KM_dev p0.safe_]⟩), (g1, ⟨HOT, [M1]⟩), (g2, ⟨160, [pl (.int .i64 p0.pages_), mref g0, mref g1, pl (.int .i64 p0.left_), pl (.bool p0.down_)]⟩)]) ⟨hB0, hB1, hB2, trivial⟩ ?_
  refine aw_keep [(0, _), (1, _)] ⟨lg ez, lg (es ez), trivial⟩ ?_
  refine aw_seq ?_
  refine aw_region (by decide) ?_
  refine rts _ rfl (boxAN (n := 0) ((updL_len _ _).trans hNs) (os rfl oz) (bnd_cons (pl_bnd _ _ _) (bnd_cons (pl_bnd _ _ _) bnd_nil)) (by first | exact List.length_nil | (simp only [List.length_cons, List.length_nil, Nat.zero_add, Nat.reduceAdd] <;> rfl)) (by simp only [na, nb, nc, nd, nf, ng, nh, ni, nj, nk] <;> rfl)) ?_
  refine .nil ?_
  refine aw_keep [(0, _), (3, _)] ⟨lg (ls rfl oz), lg lz, trivial⟩ ?_
  refine aw_seq ?_
  refine aw_drawn [false, false, false, false, false, false, true, true] [[0, 1], [0, 1], [0, 1], [0, 1], [0, 1], [0, 1], [0, 1], [1, 2]] mixed_W3 (by decide +kernel) ?_
  refine dtp _ rfl (fun s => opD_move oz) ?_
  refine dtp _ rfl (fun s => opD_nilCheck_ptr lz) ?_
  refine dtp _ rfl (fun s => opD_fieldAddr fo160_2_W3 lz) ?_
  refine dtlG1 ag158_W3 lz (obj_get (k := 2) hU rfl) rfl rfl ?_
  refine dtlGA (qs := [_, _]) ag165_W3 sz165_W3 (ls rfl (ls rfl (ls rfl (ls rfl (os rfl oz))))) (loc_getN ((updL_len _ _).trans hNs) rfl) (Nat.le_of_ble_eq_true rfl) rfl rfl ?_
  replace h0 := ltv_some h0
  obtain ⟨x_1, hx_1, h0⟩ := h0
  refine dtl _ (fun s' => s'.boxes[g1]? = some ⟨HOT, [M1]⟩) rfl (fun s' hs' => opD_le (opD_lookupG (K := KM_dev) (k := p1) (z := KM_dev.ev (List.replicate 64 0)) false Go.Proofs.Tryd.underlying158 KM_dev_kl KM_dev_z (ls rfl lz) ((le_of_eq lz).trans (KM_dev_kle _)) hs' hM1) (KM_dev_lk1 hx_1)) ?_
  refine dta _ rfl (allocFN (k := kI .u8) (x0 := 0) (z := .int .u8 0) (m := 64) ((updL_len _ _).trans hNs) (by kernel_rfl) rfl (by first | exact List.length_nil | (simp only [List.length_cons, List.length_nil, Nat.zero_add, Nat.reduceAdd] <;> rfl)) (by simp only [na, nb, nc, nd, nf, ng, nh, ni, nj, nk] <;> rfl)) ?_
  replace h0 := grd_some h0
  obtain ⟨hg_3, h0⟩ := h0
  replace h0 := grd_some h0
  obtain ⟨hg_4, h0⟩ := h0
  refine dta _ rfl (storeWF (k := kI .u8) ((updL_len _ _).trans hNs) sz163_W3 lz (ls rfl lz) rfl rfl hg_3 hg_4 (by decide) (kb_I _) (by simp only [na, nb, nc, nd, nf, ng, nh, ni, nj, nk] <;> rfl)) ?_
  refine .nil ?_
  dsimp only [List.nil_append, List.cons_append]
  refine ⟨rfl, ⟨trivial, trivial, trivial, ⟨(by first | exact loc_getN ((updL_len _ _).trans hNs) rfl | exact ⟨_, loc_getN ((updL_len _ _).trans hNs) rfl⟩ | exact obj_get (k := 0) hU rfl | exact ⟨_, obj_get (k := 0) hU rfl⟩ | exact obj_get (k := 1) hU rfl | exact ⟨_, obj_get (k := 1) hU rfl⟩ | exact obj_get (k := 2) hU rfl | exact ⟨_, obj_get (k := 2) hU rfl⟩ ), (by first | exact loc_getN ((updL_len _ _).trans hNs) rfl | exact ⟨_, loc_getN ((updL_len _ _).trans hNs) rfl⟩ | exact obj_get (k := 0) hU rfl | exact ⟨_, obj_get (k := 0) hU rfl⟩ | exact obj_get (k := 1) hU rfl | exact ⟨_, obj_get (k := 1) hU rfl⟩ | exact obj_get (k := 2) hU rfl | exact ⟨_, obj_get (k := 2) hU rfl⟩ ), trivial⟩, ⟨(by first | exact loc_getN ((updL_len _ _).trans hNs) rfl | exact ⟨_, loc_getN ((updL_len _ _).trans hNs) rfl⟩ | exact obj_get (k := 0) hU rfl | exact ⟨_, obj_get (k := 0) hU rfl⟩ | exact obj_get (k := 1) hU rfl | exact ⟨_, obj_get (k := 1) hU rfl⟩ | exact obj_get (k := 2) hU rfl | exact ⟨_, obj_get (k := 2) hU rfl⟩ ), (by first | exact loc_getN ((updL_len _ _).trans hNs) rfl | exact ⟨_, loc_getN ((updL_len _ _).trans hNs) rfl⟩ | exact obj_get (k := 0) hU rfl | exact ⟨_, obj_get (k := 0) hU rfl⟩ | exact obj_get (k := 1) hU rfl | exact ⟨_, obj_get (k := 1) hU rfl⟩ | exact obj_get (k := 2) hU rfl | exact ⟨_, obj_get (k := 2) hU rfl⟩ ), trivial⟩, ⟨(by first | exact loc_getN ((updL_len _ _).trans hNs) rfl | exact ⟨_, loc_getN ((updL_len _ _).trans hNs) rfl⟩ | exact obj_get (k := 0) hU rfl | exact ⟨_, obj_get (k := 0) hU rfl⟩ | exact obj_get (k := 1) hU rfl | exact ⟨_, obj_get (k := 1) hU rfl⟩ | exact obj_get (k := 2) hU rfl | exact ⟨_, obj_get (k := 2) hU rfl⟩ ), (by first | exact loc_getN ((updL_len _ _).trans hNs) rfl | exact ⟨_, loc_getN ((updL_len _ _).trans hNs) rfl⟩ | exact obj_get (k := 0) hU rfl | exact ⟨_, obj_get (k := 0) hU rfl⟩ | exact obj_get (k := 1) hU rfl | exact ⟨_, obj_get (k := 1) hU rfl⟩ | exact obj_get (k := 2) hU rfl | exact ⟨_, obj_get (k := 2) hU rfl⟩ ), trivial⟩, trivial, trivial, trivial⟩, ?_⟩
  refine aw_keep [(0, _), (3, _), (4, _)] ⟨lg (lx (ls rfl (ls rfl (ls rfl (ls rfl (ls rfl (ls rfl (ls rfl oz)))))))), lg (lx (ls rfl (ls rfl (ls rfl (ls rfl (ls rfl (ls rfl (ls rfl (os rfl oz))))))))), lg (lx lz), trivial⟩ ?_
  refine aw_seq ?_
  refine aw_region (by decide) ?_
  replace h0 := grd_some h0
  obtain ⟨hg_5, h0⟩ := h0
  refine rts _ rfl (loadFN ag163_W3 sz163_W3 (os rfl (os rfl oz)) (loc_getN ((updL_len _ _).trans hNs) rfl) rfl hg_5) ?_
  refine rts _ rfl (opD_ple (q := agg (flat (kI .u8) (List.replicate 64 (0 : Int)))) rfl (opD_build_array (rs := [pl (.int .u8 0), pl (.int .u8 0), pl (.int .u8 0), pl (.int .u8 0), pl (.int .u8 0), pl (.int .u8 0), pl (.int .u8 0), pl (.int .u8 0), pl (.int .u8 0), pl (.int .u8 0), pl (.int .u8 0), pl (.int .u8 0), pl (.int .u8 0), pl (.int .u8 0), pl (.int .u8 0), pl (.int .u8 0), pl (.int .u8 0), pl (.int .u8 0), pl (.int .u8 0), pl (.int .u8 0), pl (.int .u8 0), pl (.int .u8 0), pl (.int .u8 0), pl (.int .u8 0), pl (.int .u8 0), pl (.int .u8 0), pl (.int .u8 0), pl (.int .u8 0), pl (.int .u8 0), pl (.int .u8 0), pl (.int .u8 0), pl (.int .u8 0), pl (.int .u8 0), pl (.int .u8 0), pl (.int .u8 0), pl (.int .u8 0), pl (.int .u8 0), pl (.int .u8 0), pl (.int .u8 0), pl (.int .u8 0), pl (.int .u8 0), pl (.int .u8 0), pl (.int .u8 0), pl (.int .u8 0), pl (.int .u8 0), pl (.int .u8 0), pl (.int .u8 0), pl (.int .u8 0), pl (.int .u8 0), pl (.int .u8 0), pl (.int .u8 0), pl (.int .u8 0), pl (.int .u8 0), pl (.int .u8 0), pl (.int .u8 0), pl (.int .u8 0), pl (.int .u8 0), pl (.int .u8 0), pl (.int .u8 0), pl (.int .u8 0), pl (.int .u8 0), pl (.int .u8 0), pl (.int .u8 0), pl (.int .u8 0)]) Go.Proofs.Tryd.underlying163 sz5_W3 zt163_W3 parts_nil rfl)) ?_
  replace h0 := grd_some h0
  obtain ⟨hg_6, h0⟩ := h0
  refine rts _ rfl (opD_neArr Go.Proofs.Tryd.underlying163 (by kernel_rfl) Go.Proofs.Tryd.underlying5 ag5_W3 (by kernel_rfl) (ls rfl lz) lz hg_6 (by decide)) ?_
  refine .nil ?_
  refine aw_keep [(0, _), (3, _), (4, _), (13, _)] ⟨lg (ls rfl (ls rfl (ls rfl oz))), lg (ls rfl (ls rfl (ls rfl (os rfl oz)))), lg (ls rfl (ls rfl (ls rfl (os rfl (os rfl oz))))), lg lz, trivial⟩ ?_
  refine aw_cond _ (os rfl (os rfl (os rfl oz))) (fun hc => ?_) (fun hc => ?_)
  · skip
    replace h0 := ifb_t h0 hc
    clear hc
    refine aw_drawn [false, false, false, false, false, false, true] [[0], [0], [0], [0], [0], [0], [0, 1]] mixed_W3 (by decide +kernel) ?_
    refine dtp _ rfl (fun s => opD_move oz) ?_
    refine dtp _ rfl (fun s => opD_nilCheck_ptr lz) ?_
    refine dtp _ rfl (fun s => opD_fieldAddr fo160_1_W3 lz) ?_
    refine dtlG1 ag158_W3 lz (obj_get (k := 2) hU rfl) rfl rfl ?_
    refine dtlGA (qs := [_, _]) ag165_W3 sz165_W3 (ls rfl (ls rfl (ls rfl (ls rfl (os rfl oz))))) (loc_getN ((updL_len _ _).trans hNs) rfl) (Nat.le_of_ble_eq_true rfl) rfl rfl ?_
    replace h0 := grd_some h0
    obtain ⟨hg_8, h0⟩ := h0
    refine dtl _ (fun s' => s'.boxes[(N + 1)]? = some ⟨163, (flat (kI .u8) x_1)⟩) rfl (fun s' hs' => loadFN ag163_W3 sz163_W3 (ls rfl (ls rfl (ls rfl (ls rfl (ls rfl (os rfl (os rfl oz))))))) hs' rfl hg_8) ?_
    refine dta _ rfl (opD_to (opD_mapUpdateG (K := KM_dev) (k := p1) (v := x_1) Go.Proofs.Tryd.underlying158 KM_dev_kl (ls rfl (ls rfl lz)) ((le_of_eq (ls rfl lz)).trans (KM_dev_kle _)) ((le_of_eq lz).trans (KM_dev_vle _)) (obj_get (k := 0) hU rfl) (Pd.le_refl _)) (ul_obj (l := [(g0, ⟨HOT, [mpf KM_dev p0.safe_]⟩), (g1, ⟨HOT, [M1]⟩), (g2, ⟨160, [pl (.int .i64 p0.pages_), mref g0, mref g1, pl (.int .i64 p0.left_), pl (.bool p0.down_)]⟩)]) (k := 0) hU rfl rfl (by simp only [na, nb, nc, nd, nf, ng, nh, ni, nj, nk] <;> rfl))) ?_
    refine .nil ?_
    dsimp only [List.nil_append, List.cons_append]
    refine ⟨rfl, ⟨trivial, trivial, trivial, ⟨(by first | exact loc_getN ((updL_len _ _).trans hNs) rfl | exact ⟨_, loc_getN ((updL_len _ _).trans hNs) rfl⟩ | exact obj_get (k := 0) hU rfl | exact ⟨_, obj_get (k := 0) hU rfl⟩ | exact obj_get (k := 1) hU rfl | exact ⟨_, obj_get (k := 1) hU rfl⟩ | exact obj_get (k := 2) hU rfl | exact ⟨_, obj_get (k := 2) hU rfl⟩ ), trivial⟩, ⟨(by first | exact loc_getN ((updL_len _ _).trans hNs) rfl | exact ⟨_, loc_getN ((updL_len _ _).trans hNs) rfl⟩ | exact obj_get (k := 0) hU rfl | exact ⟨_, obj_get (k := 0) hU rfl⟩ | exact obj_get (k := 1) hU rfl | exact ⟨_, obj_get (k := 1) hU rfl⟩ | exact obj_get (k := 2) hU rfl | exact ⟨_, obj_get (k := 2) hU rfl⟩ ), trivial⟩, ⟨(by first | exact loc_getN ((updL_len _ _).trans hNs) rfl | exact ⟨_, loc_getN ((updL_len _ _).trans hNs) rfl⟩ | exact obj_get (k := 0) hU rfl | exact ⟨_, obj_get (k := 0) hU rfl⟩ | exact obj_get (k := 1) hU rfl | exact ⟨_, obj_get (k := 1) hU rfl⟩ | exact obj_get (k := 2) hU rfl | exact ⟨_, obj_get (k := 2) hU rfl⟩ ), trivial⟩, trivial, trivial⟩, ?_⟩
    obtain rfl := some_of h0
    exact done_updL ⟨(bnd_cons ((mpf_bnd _ _) _ _) bnd_nil), (bnd_cons (hMb1 _ _) bnd_nil), (bnd_cons (pl_bnd _ _ _) (bnd_cons (mref_bnd _ (by first | omega | (simp only [List.length_append, List.length_cons, List.length_nil]; omega))) (bnd_cons (mref_bnd _ (by first | omega | (simp only [List.length_append, List.length_cons, List.length_nil]; omega))) (bnd_cons (pl_bnd _ _ _) (bnd_cons (pl_bnd _ _ _) bnd_nil))))), trivial⟩ (.inl rfl) (res_0 rfl) (pl_bnd _ _ _)
  · skip
    replace h0 := ifb_f h0 hc
    clear hc
    refine aw_drawn [false, false, false, false, false, true] [[0], [0], [0], [0], [0], [0, 1]] mixed_W3 (by decide +kernel) ?_
    refine dtp _ rfl (fun s => opD_move oz) ?_
    refine dtp _ rfl (fun s => opD_nilCheck_ptr lz) ?_
    refine dtp _ rfl (fun s => opD_fieldAddr fo160_1_W3 lz) ?_
    refine dtlG1 ag158_W3 lz (obj_get (k := 2) hU rfl) rfl rfl ?_
    refine dtlGA (qs := [_, _]) ag165_W3 sz165_W3 (ls rfl (ls rfl (ls rfl (ls rfl (os rfl oz))))) (loc_getN ((updL_len _ _).trans hNs) rfl) (Nat.le_of_ble_eq_true rfl) rfl rfl ?_
    refine dta _ rfl (opD_to (opD_deleteG (K := KM_dev) (k := p1) rfl Go.Proofs.Tryd.underlying158 KM_dev_kl (ls rfl lz) ((le_of_eq lz).trans (KM_dev_kle _)) (obj_get (k := 0) hU rfl) (Pd.le_refl _)) (ul_obj (l := [(g0, ⟨HOT, [mpf KM_dev p0.safe_]⟩), (g1, ⟨HOT, [M1]⟩), (g2, ⟨160, [pl (.int .i64 p0.pages_), mref g0, mref g1, pl (.int .i64 p0.left_), pl (.bool p0.down_)]⟩)]) (k := 0) hU rfl rfl (by simp only [na, nb, nc, nd, nf, ng, nh, ni, nj, nk] <;> rfl))) ?_
    refine .nil ?_
    dsimp only [List.nil_append, List.cons_append]
    refine ⟨rfl, ⟨trivial, trivial, trivial, ⟨(by first | exact loc_getN ((updL_len _ _).trans hNs) rfl | exact ⟨_, loc_getN ((updL_len _ _).trans hNs) rfl⟩ | exact obj_get (k := 0) hU rfl | exact ⟨_, obj_get (k := 0) hU rfl⟩ | exact obj_get (k := 1) hU rfl | exact ⟨_, obj_get (k := 1) hU rfl⟩ | exact obj_get (k := 2) hU rfl | exact ⟨_, obj_get (k := 2) hU rfl⟩ ), trivial⟩, ⟨(by first | exact loc_getN ((updL_len _ _).trans hNs) rfl | exact ⟨_, loc_getN ((updL_len _ _).trans hNs) rfl⟩ | exact obj_get (k := 0) hU rfl | exact ⟨_, obj_get (k := 0) hU rfl⟩ | exact obj_get (k := 1) hU rfl | exact ⟨_, obj_get (k := 1) hU rfl⟩ | exact obj_get (k := 2) hU rfl | exact ⟨_, obj_get (k := 2) hU rfl⟩ ), trivial⟩, trivial, trivial⟩, ?_⟩
    obtain rfl := some_of h0
    exact done_updL ⟨(bnd_cons ((mpf_bnd _ _) _ _) bnd_nil), (bnd_cons (hMb1 _ _) bnd_nil), (bnd_cons (pl_bnd _ _ _) (bnd_cons (mref_bnd _ (by first | omega | (simp only [List.length_append, List.length_cons, List.length_nil]; omega))) (bnd_cons (mref_bnd _ (by first | omega | (simp only [List.length_append, List.length_cons, List.length_nil]; omega))) (bnd_cons (pl_bnd _ _ _) (bnd_cons (pl_bnd _ _ _) bnd_nil))))), trivial⟩ (.inl rfl) (res_0 rfl) (pl_bnd _ _ _)

def F_dArm (p0 : Dev) (p1 : Int) : Option (Dev) :=
  some (⟨p0.pages_, p0.safe_, p0.waits_, (if p1 > (-1) then p1 else (-1)), p0.down_⟩ : Dev)
set_option maxRecDepth 100000 in
set_option maxHeartbeats 2000000 in
theorem c_dArm {p0 : Dev} {p1 : Int} {R : Dev} {s : St} {M0 : Pd} {M1 : Pd} {g0 g1 g2 : Nat} (h0 : F_dArm p0 p1 = some R) (hU : UD s.boxes.length [g0, g1, g2]) (hB0 : s.boxes[g0]? = some ⟨HOT, [M0]⟩) (hB1 : s.boxes[g1]? = some ⟨HOT, [M1]⟩) (hB2 : s.boxes[g2]? = some ⟨160, [pl (.int .i64 p0.pages_), mref g0, mref g1, pl (.int .i64 p0.left_), pl (.bool p0.down_)]⟩) (hM0 : M0.le (mpf KM_dev p0.safe_)) (hMb0 : ∀ n m, M0.Bnd n m) (hM1 : M1.le (mpf KM_dev p0.waits_)) (hMb1 : ∀ n m, M1.Bnd n m) : AC Go.Proofs.Tryd.prog 21 [ptr g2 0, pl (.int .i64 p1)] s (pl (.tuple #[])) (s.updL [(g0, ⟨HOT, [M0]⟩), (g1, ⟨HOT, [M1]⟩), (g2, ⟨160, [pl (.int .i64 R.pages_), mref g0, mref g1, pl (.int .i64 R.left_), pl (.bool R.down_)]⟩)]) := by
  obtain ⟨N, hNs⟩ : ∃ N, s.boxes.length = N := ⟨_, rfl⟩
  have hUN : UD N [g0, g1, g2] := hNs ▸ hU
  obtain ⟨hl0, ⟨hn01, ⟨hn02, -⟩⟩, ⟨hl1, ⟨hn12, -⟩, ⟨hl2, -, -⟩⟩⟩ := hUN
  unfold F_dArm at h0
  refine ac_of_aw s.boxes.length s.fr.length Go.Proofs.Tryd.func21 rfl (by simp [Go.Proofs.Tryd.ntmps21]) ?_
  refine aw_ext0 ?_
  refine aw_updL0 (l := [(g0, ⟨HOT, [M0]⟩), (g1, ⟨HOT, [M1]⟩), (g2, ⟨160, [pl (.int .i64 p0.pages_), mref g0, mref g1, pl (.int .i64 p0.left_), pl (.bool p0.down_)]⟩)]) ⟨hB0, hB1, hB2, trivial⟩ ?_
  refine aw_keep [(0, _), (1, _)] ⟨lg ez, lg (es ez), trivial⟩ ?_
  refine aw_seq ?_
  refine aw_region (by decide) ?_
  refine rts _ rfl (opD_move oz) ?_
  refine rts _ rfl (opD_ptr_neqnil Go.Proofs.Tryd.underlying24 lz) ?_
  refine .nil ?_
  refine aw_keep [(0, _), (1, _), (5, _)] ⟨lg (ls rfl (ls rfl oz)), lg (ls rfl (ls rfl (os rfl oz))), lg lz, trivial⟩ ?_
  refine aw_cond _ (os rfl (os rfl oz)) (fun hc => ?_) (fun hc => ?_)
  · skip
    refine aw_region (by decide) ?_
    refine rts _ rfl (opD_move oz) ?_
    refine rts _ rfl (opD_move (ls rfl (os rfl oz))) ?_
    refine rts _ rfl (opD_max (ev_const _ _) lz rfl) ?_
    refine rts _ rfl (opD_nilCheck_ptr (ls rfl (ls rfl lz))) ?_
    refine rts _ rfl (opD_fieldAddr fo160_3_W3 lz) ?_
    refine rts _ rfl (storeL1 (k := 2) hU hNs sz3_W3 lz ((le_of_eq (ls rfl (ls rfl lz))).trans (Pd.le_refl _)) (one_pl rfl) rfl (Nat.le_of_ble_eq_true rfl) (pl_bnd _ _ _) (by simp only [na, nb, nc, nd, nf, ng, nh, ni, nj, nk] <;> rfl)) ?_
    refine .nil ?_
    obtain rfl := some_of h0
    exact done_updL ⟨(bnd_cons (hMb0 _ _) bnd_nil), (bnd_cons (hMb1 _ _) bnd_nil), (bnd_cons (pl_bnd _ _ _) (bnd_cons (mref_bnd _ (by first | omega | (simp only [List.length_append, List.length_cons, List.length_nil]; omega))) (bnd_cons (mref_bnd _ (by first | omega | (simp only [List.length_append, List.length_cons, List.length_nil]; omega))) (bnd_cons (pl_bnd _ _ _) (bnd_cons (pl_bnd _ _ _) bnd_nil))))), trivial⟩ (.inl rfl) (res_0 rfl) (pl_bnd _ _ _)
  · skip
    cases hc
end Go.Proofs.YtjbgddpaclcjfaaDoor.Eng.A

namespace Go.Proofs.YtjbgddpaclcjfaaDoor.Eng.A
set_option linter.unusedVariables false
set_option linter.unusedSimpArgs false
open Go.RowKit Go.Proofs.YtjbgddpaclcjfaaDoor.Plain Go.Proofs.YtjbgddpaclcjfaaDoor.Eng Go.Proofs.YtjbgddpaclcjfaaDoor.Eng.Pk Go.Proofs.YtjbgddpaclcjfaaDoor.Eng.Rd

theorem ht25_w3b : hasText Go.Proofs.Tryd.prog 25 = true := by kernel_rfl
theorem cc157_w3b : Go.Proofs.Tryd.prog.concrete 157 = true := by kernel_rfl
theorem ht82_w3b : hasText Go.Proofs.Tryd.prog 82 = true := by kernel_rfl
theorem fo160_2_w3b : fieldOff Go.Proofs.Tryd.prog 160 2 = some 2 := by kernel_rfl
theorem ag158_w3b : aggT Go.Proofs.Tryd.prog 158 = some false := by kernel_rfl
theorem zt165_w3b : zeroT Go.Proofs.Tryd.prog 165 = some [.int .i64 0, .int .i64 0] := by kernel_rfl
theorem sz165_w3b : sizeT Go.Proofs.Tryd.prog 165 = some 2 := by kernel_rfl
theorem ag165_w3b : aggT Go.Proofs.Tryd.prog 165 = some true := by kernel_rfl
theorem ht84_w3b : hasText Go.Proofs.Tryd.prog 84 = true := by kernel_rfl
theorem ht42_w3b : hasText Go.Proofs.Tryd.prog 42 = true := by kernel_rfl
theorem ht81_w3b : hasText Go.Proofs.Tryd.prog 81 = true := by kernel_rfl
theorem ht87_w3b : hasText Go.Proofs.Tryd.prog 87 = true := by kernel_rfl
theorem sz163_w3b : sizeT Go.Proofs.Tryd.prog 163 = some 64 := by kernel_rfl
theorem sz5_w3b : sizeT Go.Proofs.Tryd.prog 5 = some 1 := by kernel_rfl
theorem el5_w3b : elT Go.Proofs.Tryd.prog 5 = some (1, 1) := by kernel_rfl

open Go.Proofs.YtjbgddpaclcjfaaDoor.Eng.Er

noncomputable def F_dSync_b0 (p0 : Dev) (x_ : Option (At × (List Int))) (t_5 : (At → Option (List Int)) × Int × Int × Bool) : Option (((At → Option (List Int)) × Int × Int × Bool) ⊕ (((At → Option (List Int)) × Int × Int × Bool))) :=
  opc x_ (some (.inr (t_5.1, t_5.2.1, t_5.2.2.1, t_5.2.2.2))) (fun y_3 => bnd (F_dsettle (⟨t_5.2.1, t_5.1, p0.waits_, t_5.2.2.1, t_5.2.2.2⟩ : Dev) y_3.1) fun x_7 => some (.inl (x_7.safe_, x_7.pages_, x_7.left_, x_7.down_)))
noncomputable def F_dSync (p0 : Dev) : Option ((Option Int) × Dev) :=
  bnd (F_dDown p0) fun x_1 => ifb x_1 (some (some 9, p0)) (bnd (F_dstep p0) fun x_2 => ifb x_2.1.isSome (some (x_2.1, (⟨x_2.2.pages_, p0.safe_, p0.waits_, x_2.2.left_, x_2.2.down_⟩ : Dev))) (enm p0.waits_ fun l_3 => bnd (lpm (F_dSync_b0 p0) l_3 (p0.safe_, x_2.2.pages_, x_2.2.left_, x_2.2.down_)) fun z_4 => some (none, (⟨z_4.2.1, z_4.1, (fnil : (At → Option (List Int))), z_4.2.2.1, z_4.2.2.2⟩ : Dev))))
set_option maxRecDepth 100000 in
set_option maxHeartbeats 2000000 in
theorem c_dSync {p0 : Dev} {R : (Option Int) × Dev} {s : St} {g0 g1 g2 : Nat} (h0 : F_dSync p0 = some R) (hU : UD s.boxes.length [g0, g1, g2]) (hB0 : s.boxes[g0]? = some ⟨HOT, [mpf KM_dev p0.safe_]⟩) (hB1 : s.boxes[g1]? = some ⟨HOT, [mpf KM_dev p0.waits_]⟩) (hB2 : s.boxes[g2]? = some ⟨160, [pl (.int .i64 p0.pages_), mref g0, mref g1, pl (.int .i64 p0.left_), pl (.bool p0.down_)]⟩) : AC Go.Proofs.Tryd.prog 17 [ptr g2 0] s (pl (errV R.1)) (s.updL [(g0, ⟨HOT, [mpf KM_dev R.2.safe_]⟩), (g1, ⟨HOT, [mpf KM_dev R.2.waits_]⟩), (g2, ⟨160, [pl (.int .i64 R.2.pages_), mref g0, mref g1, pl (.int .i64 R.2.left_), pl (.bool R.2.down_)]⟩)]) := by
  obtain ⟨N, hNs⟩ : ∃ N, s.boxes.length = N := ⟨_, rfl⟩
  have hUN : UD N [g0, g1, g2] := hNs ▸ hU
  obtain ⟨hl0, ⟨hn01, ⟨hn02, -⟩⟩, ⟨hl1, ⟨hn12, -⟩, ⟨hl2, -, -⟩⟩⟩ := hUN
  unfold F_dSync at h0
  refine ac_of_aw s.boxes.length s.fr.length Go.Proofs.Tryd.func17 rfl (by simp [Go.Proofs.Tryd.ntmps17]) ?_
  refine aw_ext0 ?_
  refine aw_updL0 (l := [(g0, ⟨HOT, [mpf KM_dev p0.safe_]⟩), (g1, ⟨HOT, [mpf KM_dev p0.waits_]⟩), (g2, ⟨160, [pl (.int .i64 p0.pages_), mref g0, mref g1, pl (.int .i64 p0.left_), pl (.bool p0.down_)]⟩)]) ⟨hB0, hB1, hB2, trivial⟩ ?_
  refine aw_keep [(0, _)] ⟨lg ez, trivial⟩ ?_
  refine aw_seq ?_
  refine aw_region (by decide) ?_
  refine rts _ rfl (opD_assign (ev_const _ _)) ?_
  refine .nil ?_
  refine aw_keep [(0, _)] ⟨lg (ls rfl oz), trivial⟩ ?_
  refine aw_seq ?_
  refine aw_seq ?_
  refine aw_region (by decide) ?_
  refine rts _ rfl (opD_move oz) ?_
  replace h0 := bnd_some h0
  obtain ⟨x_1, hx_1, h0⟩ := h0
  refine rts _ rfl (opD_call ht25_w3b (c_dDown hx_1 (ud_len (m := 0) ((updL_len _ _).trans hNs) rfl ⟨by omega, ⟨by omega, ⟨by omega, trivial⟩⟩, ⟨by omega, ⟨by omega, trivial⟩, ⟨by omega, trivial, trivial⟩⟩⟩) (obj_get (k := 0) hU rfl) (obj_get (k := 1) hU rfl) (obj_get (k := 2) hU rfl) (Pd.le_refl _) (mpf_bnd _ _) (Pd.le_refl _) (mpf_bnd _ _)) ⟨le_of_eq lz, trivial⟩) ?_
  refine .nil ?_
  refine aw_keep [(0, _), (6, _)] ⟨lg (ls rfl (ls rfl oz)), lg lz, trivial⟩ ?_
  refine aw_cond _ (os rfl oz) (fun hc => ?_) (fun hc => ?_)
  · skip
    replace h0 := ifb_t h0 hc
    clear hc
    refine aw_seq ?_
    refine aw_region (by decide) ?_
    refine rts _ rfl (opD_ple (q := pl (errV (some 9))) rfl (opD_makeInterface_pl cc157_w3b (ev_const _ _))) ?_
    refine rts _ rfl (opD_assign lz) ?_
    refine .nil ?_
    refine aw_keep [(2, _)] ⟨lg lz, trivial⟩ ?_
    refine aw_ret ?_
    obtain rfl := some_of h0
    exact done_updL ⟨(bnd_cons ((mpf_bnd _ _) _ _) bnd_nil), (bnd_cons ((mpf_bnd _ _) _ _) bnd_nil), (bnd_cons (pl_bnd _ _ _) (bnd_cons (mref_bnd _ (by first | omega | (simp only [List.length_append, List.length_cons, List.length_nil]; omega))) (bnd_cons (mref_bnd _ (by first | omega | (simp only [List.length_append, List.length_cons, List.length_nil]; omega))) (bnd_cons (pl_bnd _ _ _) (bnd_cons (pl_bnd _ _ _) bnd_nil))))), trivial⟩ (.inr rfl) ((res_one rfl (it_tmp oz)).le (Pd.le_refl _)) (pl_bnd _ _ _)
  · skip
    replace h0 := ifb_f h0 hc
    clear hc
    refine aw_skip ?_
    refine aw_keep [(0, _)] ⟨lg oz, trivial⟩ ?_
    refine aw_seq ?_
    refine aw_seq ?_
    refine aw_region (by decide) ?_
    refine rts _ rfl (opD_move oz) ?_
    replace h0 := bnd_some h0
    obtain ⟨x_2, hx_2, h0⟩ := h0
    refine rts _ rfl (opD_ple (q := pl (errV x_2.1)) rfl (opD_to (X' := (s.updL [(g0, ⟨HOT, [mpf KM_dev p0.safe_]⟩), (g1, ⟨HOT, [mpf KM_dev p0.waits_]⟩), (g2, ⟨160, [pl (.int .i64 x_2.2.pages_), mref g0, mref g1, pl (.int .i64 x_2.2.left_), pl (.bool x_2.2.down_)]⟩)]).ext [] []) (opD_call ht82_w3b (c_dstep hx_2 (ud_len (m := 0) ((updL_len _ _).trans hNs) rfl ⟨by omega, ⟨by omega, ⟨by omega, trivial⟩⟩, ⟨by omega, ⟨by omega, trivial⟩, ⟨by omega, trivial, trivial⟩⟩⟩) (obj_get (k := 0) hU rfl) (obj_get (k := 1) hU rfl) (obj_get (k := 2) hU rfl) (Pd.le_refl _) (mpf_bnd _ _) (Pd.le_refl _) (mpf_bnd _ _)) ⟨le_of_eq lz, trivial⟩) (ul_obj (l := [(g0, ⟨HOT, [mpf KM_dev p0.safe_]⟩), (g1, ⟨HOT, [mpf KM_dev p0.waits_]⟩), (g2, ⟨160, [pl (.int .i64 x_2.2.pages_), mref g0, mref g1, pl (.int .i64 x_2.2.left_), pl (.bool x_2.2.down_)]⟩)]) (k := 0) hU (ul_obj (l := [(g0, ⟨HOT, [mpf KM_dev p0.safe_]⟩), (g1, ⟨HOT, [mpf KM_dev p0.waits_]⟩), (g2, ⟨160, [pl (.int .i64 x_2.2.pages_), mref g0, mref g1, pl (.int .i64 x_2.2.left_), pl (.bool x_2.2.down_)]⟩)]) (k := 1) hU (ul_obj (l := [(g0, ⟨HOT, [mpf KM_dev p0.safe_]⟩), (g1, ⟨HOT, [mpf KM_dev p0.waits_]⟩), (g2, ⟨160, [pl (.int .i64 p0.pages_), mref g0, mref g1, pl (.int .i64 p0.left_), pl (.bool p0.down_)]⟩)]) (k := 2) hU rfl rfl (by simp only [na, nb, nc, nd, nf, ng, nh, ni, nj, nk] <;> rfl)) rfl (by simp only [na, nb, nc, nd, nf, ng, nh, ni, nj, nk] <;> rfl)) rfl (by simp only [na, nb, nc, nd, nf, ng, nh, ni, nj, nk] <;> rfl)))) ?_
    refine rts _ rfl (opD_assign lz) ?_
    refine .nil ?_
    refine aw_keep [(0, _), (3, _)] ⟨lg (ls rfl (ls rfl (ls rfl oz))), lg lz, trivial⟩ ?_
    refine aw_seq ?_
    refine aw_region (by decide) ?_
    refine rts _ rfl (opD_move (os rfl oz)) ?_
    refine rts _ rfl (opD_bin lz (ev_const _ _) (fun w => errV_guard _ w _) (fun w => errV_beq _ w)) ?_
    refine .nil ?_
    refine aw_keep [(0, _), (3, _), (11, _)] ⟨lg (ls rfl (ls rfl oz)), lg (ls rfl (ls rfl (os rfl oz))), lg lz, trivial⟩ ?_
    refine aw_cond _ (os rfl (os rfl oz)) (fun hc => ?_) (fun hc => ?_)
    · skip
      replace h0 := ifb_t h0 hc
      clear hc
      refine aw_seq ?_
      refine aw_region (by decide) ?_
      refine rts _ rfl (opD_move (os rfl oz)) ?_
      refine rts _ rfl (opD_assign lz) ?_
      refine .nil ?_
      refine aw_keep [(2, _)] ⟨lg lz, trivial⟩ ?_
      refine aw_ret ?_
      obtain rfl := some_of h0
      exact done_updL ⟨(bnd_cons ((mpf_bnd _ _) _ _) bnd_nil), (bnd_cons ((mpf_bnd _ _) _ _) bnd_nil), (bnd_cons (pl_bnd _ _ _) (bnd_cons (mref_bnd _ (by first | omega | (simp only [List.length_append, List.length_cons, List.length_nil]; omega))) (bnd_cons (mref_bnd _ (by first | omega | (simp only [List.length_append, List.length_cons, List.length_nil]; omega))) (bnd_cons (pl_bnd _ _ _) (bnd_cons (pl_bnd _ _ _) bnd_nil))))), trivial⟩ (.inr rfl) ((res_one rfl (it_tmp oz)).le (Pd.le_refl _)) (pl_bnd _ _ _)
    · skip
      replace h0 := ifb_f h0 hc
      clear hc
      refine aw_skip ?_
      refine aw_keep [(0, _)] ⟨lg oz, trivial⟩ ?_
      refine aw_seq ?_
      refine aw_seq ?_
      refine aw_openMX (K := KM_dev) (S' := fun ls_3 c_3 => (s.updL [(g0, ⟨HOT, [mpf KM_dev p0.safe_]⟩), (g1, ⟨HOT, [((mpf KM_dev p0.waits_).and (mxp KM_dev ls_3 c_3))]⟩), (g2, ⟨160, [pl (.int .i64 x_2.2.pages_), mref g0, mref g1, pl (.int .i64 x_2.2.left_), pl (.bool x_2.2.down_)]⟩)]).ext [] []) (obj_get (k := 1) hU rfl) (Pd.le_refl _) (mpf_bnd _ _) (fun ls_3 c_3 => (ul_obj (l := [(g0, ⟨HOT, [mpf KM_dev p0.safe_]⟩), (g1, ⟨HOT, [mpf KM_dev p0.waits_]⟩), (g2, ⟨160, [pl (.int .i64 x_2.2.pages_), mref g0, mref g1, pl (.int .i64 x_2.2.left_), pl (.bool x_2.2.down_)]⟩)]) (k := 1) hU rfl rfl (by simp only [na, nb, nc, nd, nf, ng, nh, ni, nj, nk] <;> rfl))) (fun ls_3 c_3 hr_3 hb_3 => ?_)
      refine aw_region (by decide) ?_
      refine rts _ rfl (opD_move oz) ?_
      refine rts _ rfl (opD_nilCheck_ptr lz) ?_
      refine rts _ rfl (opD_fieldAddr fo160_2_w3b lz) ?_
      refine rts _ rfl (opD_load_one ag158_w3b lz (obj_get (k := 2) hU rfl) rfl) ?_
      refine rts _ rfl (rangeMN (K := KM_dev) ((updL_len _ _).trans hNs) Go.Proofs.Tryd.underlying158 lz (obj_get (k := 1) hU rfl) (and_le2 (Pd.le_refl _)) (by first | exact List.length_nil | (simp only [List.length_cons, List.length_nil, Nat.zero_add, Nat.reduceAdd] <;> rfl)) (by simp only [na, nb, nc, nd, nf, ng, nh, ni, nj, nk] <;> rfl)) ?_
      refine .nil ?_
      refine aw_keep [(0, _), (17, _)] ⟨lg (ls rfl (ls rfl (ls rfl (ls rfl (ls rfl oz))))), lg lz, trivial⟩ ?_
      obtain ⟨K_3, hK_3, hk_3⟩ := enm_k h0
      refine aw_mid (fun e st => ∃ v : (At → Option (List Int)) × Int × Int × Bool, Holds e [(0, ptr g2 0)] ∧ st = (s.updL [(g0, ⟨HOT, [mpf KM_dev v.1]⟩), (g1, ⟨HOT, [((mpf KM_dev p0.waits_).and (mxp KM_dev ls_3 c_3))]⟩), (g2, ⟨160, [pl (.int .i64 v.2.1), mref g0, mref g1, pl (.int .i64 v.2.2.1), pl (.bool v.2.2.2)]⟩)]).ext [⟨HOT, []⟩] [] ∧ K_3 v = some R) ?_ ?_
      · skip
        refine aw_wkN ((updL_len _ _).trans hNs) 1 0 rfl rfl ?_
        refine aw_block ?_
        refine aw_loop (fun n e st => ∃ v : (At → Option (List Int)) × Int × Int × Bool, ∃ sn_3 : List Nat, Holds e [(0, ptr g2 0), (17, ptv (N + 0) 1 0)] ∧ st = (s.updL [(g0, ⟨HOT, [mpf KM_dev v.1]⟩), (g1, ⟨HOT, [((mpf KM_dev p0.waits_).and (mxp KM_dev ls_3 c_3))]⟩), (g2, ⟨160, [pl (.int .i64 v.2.1), mref g0, mref g1, pl (.int .i64 v.2.2.1), pl (.bool v.2.2.2)]⟩)]).ext [⟨HOT, [itp g1 c_3 sn_3]⟩] [] ∧ LpmK (F_dSync_b0 p0) ls_3 sn_3 v K_3 R ∧ n = (rest ls_3 sn_3).length) _ ⟨(p0.safe_, x_2.2.pages_, x_2.2.left_, x_2.2.down_), [], ⟨le_of_eq (eg oz), le_of_eq (eg (os rfl oz)), trivial⟩, rfl, lpk_start hk_3 hr_3, rfl⟩ ?_
        rintro n e st ⟨t_5, sn_3, hH, rfl, hk_3, rfl⟩
        refine aw_keep _ hH ?_
        refine aw_wkN ((updL_len _ _).trans hNs) 1 0 rfl rfl ?_
        refine aw_seq ?_
        refine aw_region_n (by decide) rfl (opN_nextMX (K := KM_dev) (S' := fun n_ => (s.updL [(g0, ⟨HOT, [mpf KM_dev t_5.1]⟩), (g1, ⟨HOT, [((mpf KM_dev p0.waits_).and (mxp KM_dev ls_3 c_3))]⟩), (g2, ⟨160, [pl (.int .i64 t_5.2.1), mref g0, mref g1, pl (.int .i64 t_5.2.2.1), pl (.bool t_5.2.2.2)]⟩)]).ext [⟨HOT, [itp g1 c_3 (sn_3 ++ [n_])]⟩] []) (os rfl oz) (loc_getN ((updL_len _ _).trans hNs) rfl) (obj_get (k := 1) hU rfl) (and_le2 (Pd.le_refl _)) hb_3 (fun n_ => (ul_loc (k := 0) ((updL_len _ _).trans hNs) rfl (by simp only [na, nb, nc, nd, nf, ng, nh, ni, nj, nk] <;> rfl)))) ?_
        rintro p_ s1_ (⟨rfl, rfl, ha_3⟩ | ⟨y_3, b_3, hy_3, hn_3, rfl, rfl⟩)
        · skip
          obtain ⟨z_6, hz_6, hk_3⟩ := lpk_end hk_3 ha_3
          unfold F_dSync_b0 at hz_6
          replace hz_6 := opc_n hz_6 rfl
          refine rts _ rfl (opD_extract lz rfl) ?_
          refine .nil ?_
          refine aw_keep [(0, _), (19, _)] ⟨lg (ls rfl (ls rfl oz)), lg lz, trivial⟩ ?_
          refine aw_kill (bs' := [⟨HOT, []⟩]) ⟨rfl, .inr rfl, trivial⟩ ?_
          refine aw_seq ?_
          refine aw_cond _ (os rfl oz) (fun hc => ?_) (fun hc => ?_)
          · skip
            cases hc
          · skip
            refine aw_exit ?_
            obtain rfl := some_of hz_6
            replace hk_3 := lpk_e hk_3
            refine wk_no ?_
            refine wk_yesL [(g0, ⟨HOT, [mpf KM_dev t_5.1]⟩), (g1, ⟨HOT, [((mpf KM_dev p0.waits_).and (mxp KM_dev ls_3 c_3))]⟩), (g2, ⟨160, [pl (.int .i64 t_5.2.1), mref g0, mref g1, pl (.int .i64 t_5.2.2.1), pl (.bool t_5.2.2.2)]⟩)] hNs (by rfl) ⟨(bnd_cons ((mpf_bnd _ _) _ _) bnd_nil), (bnd_cons ((fun _ _ => and_bnd ((mpf_bnd _ _) _ _) mxp_bnd) _ _) bnd_nil), (bnd_cons (pl_bnd _ _ _) (bnd_cons (mref_bnd _ (by first | omega | (simp only [List.length_append, List.length_cons, List.length_nil]; omega))) (bnd_cons (mref_bnd _ (by first | omega | (simp only [List.length_append, List.length_cons, List.length_nil]; omega))) (bnd_cons (pl_bnd _ _ _) (bnd_cons (pl_bnd _ _ _) bnd_nil))))), trivial⟩ (l := [(0, ptr g2 0)]) (bs' := [⟨HOT, []⟩]) ⟨le_of_eq (eg oz), trivial⟩ (bnd_cons (ptr_bnd _ (by first | omega | (simp only [List.length_append, List.length_cons, List.length_nil]; omega))) bnd_nil) (Nat.le_of_ble_eq_true rfl) (by simp only [na, nb, nc, nd, nf, ng, nh, ni, nj, nk] <;> rfl) (bxle_same bxle_nil) rfl (by simp only [na, nb, nc, nd, nf, ng, nh, ni, nj, nk] <;> rfl) (bl_cons bnd_nil bl_nil) ?_
            exact ⟨(t_5.1, t_5.2.1, t_5.2.2.1, t_5.2.2.2), ⟨le_of_eq (eg oz), trivial⟩, rfl, hk_3⟩
        · skip
          obtain ⟨z_6, hz_6, hk_3⟩ := lpk_next (y := (y_3, b_3)) hk_3 hb_3.inc hy_3 hn_3
          unfold F_dSync_b0 at hz_6
          replace hz_6 := opc_s (a := y_3) hz_6 rfl
          refine rts _ rfl (opD_extract lz rfl) ?_
          refine .nil ?_
          refine aw_keep [(0, _), (17, _), (19, _)] ⟨lg (ls rfl (ls rfl oz)), lg (ls rfl (ls rfl (os rfl oz))), lg lz, trivial⟩ ?_
          refine aw_seq ?_
          refine aw_cond _ (os rfl (os rfl oz)) (fun hc => ?_) (fun hc => ?_)
          · skip
            refine aw_skip ?_
            refine aw_keep [(0, _), (17, _)] ⟨lg oz, lg (os rfl oz), trivial⟩ ?_
            refine aw_block ?_
            refine aw_seq ?_
            refine aw_region (by decide) ?_
            refine rts _ rfl (opD_entryMX (K := KM_dev) (y := y_3) (n := b_3) (seen := sn_3) (os rfl oz) (loc_getN ((updL_len _ _).trans hNs) rfl) (obj_get (k := 1) hU rfl) (and_le2 (Pd.le_refl _)) hb_3 hy_3 (KM_dev_kge _) (KM_dev_vge _)) ?_
            refine rts _ rfl (opD_extract lz rfl) ?_
            refine rts _ rfl (allocN ((updL_len _ _).trans hNs) zt165_w3b (by first | exact List.length_nil | (simp only [List.length_cons, List.length_nil, Nat.zero_add, Nat.reduceAdd] <;> rfl)) (by simp only [na, nb, nc, nd, nf, ng, nh, ni, nj, nk] <;> rfl)) ?_
            refine rts _ rfl (storeAN ((updL_len _ _).trans hNs) sz165_w3b lz (ls rfl lz) (ones_cons (one_pl rfl) (ones_cons (one_pl rfl) ones_nil)) rfl rfl (Nat.le_of_ble_eq_true rfl) (List.cons_ne_nil _ _) (bnd_cons (pl_bnd _ _ _) (bnd_cons (pl_bnd _ _ _) bnd_nil)) (by simp only [na, nb, nc, nd, nf, ng, nh, ni, nj, nk] <;> rfl) (by simp only [na, nb, nc, nd, nf, ng, nh, ni, nj, nk] <;> rfl)) ?_
            refine .nil ?_
            refine aw_keep [(0, _), (4, _), (17, _)] ⟨lg (lx (ls rfl (ls rfl (ls rfl oz)))), lg (lx lz), lg (lx (ls rfl (ls rfl (ls rfl (os rfl oz))))), trivial⟩ ?_
            refine aw_region (by decide) ?_
            refine rts _ rfl (opD_move oz) ?_
            refine rts _ rfl (opD_load_aggX (qs := [_, _]) ag165_w3b sz165_w3b (ls rfl (os rfl oz)) (loc_getN ((updL_len _ _).trans hNs) rfl) (Nat.le_of_ble_eq_true rfl) rfl) ?_
            replace hz_6 := bnd_some hz_6
            obtain ⟨x_7, hx_7, hz_6⟩ := hz_6
            refine rts _ rfl (opD_ple (q := pl (.tuple #[])) rfl (opD_to (X' := (s.updL [(g0, ⟨HOT, [mpf KM_dev x_7.safe_]⟩), (g1, ⟨HOT, [((mpf KM_dev p0.waits_).and (mxp KM_dev ls_3 c_3))]⟩), (g2, ⟨160, [pl (.int .i64 x_7.pages_), mref g0, mref g1, pl (.int .i64 x_7.left_), pl (.bool x_7.down_)]⟩)]).ext [⟨HOT, [itp g1 c_3 (sn_3 ++ [b_3])]⟩, ⟨165, [pl (.int .i64 y_3.1.page_), pl (.int .i64 y_3.1.part_)]⟩] []) (opD_call ht84_w3b (c_dsettle hx_7 (ud_len (m := 2) ((updL_len _ _).trans hNs) rfl ⟨by omega, ⟨by omega, ⟨by omega, trivial⟩⟩, ⟨by omega, ⟨by omega, trivial⟩, ⟨by omega, trivial, trivial⟩⟩⟩) (obj_get (k := 0) hU rfl) (obj_get (k := 1) hU rfl) (obj_get (k := 2) hU rfl) (and_le1 (Pd.le_refl _)) (fun _ _ => and_bnd ((mpf_bnd _ _) _ _) mxp_bnd)) ⟨le_of_eq (ls rfl lz), (le_of_eq lz).trans (agg_le ⟨(Pd.le_refl _), (Pd.le_refl _), trivial⟩), trivial⟩) (ul_obj (l := [(g0, ⟨HOT, [mpf KM_dev t_5.1]⟩), (g1, ⟨HOT, [((mpf KM_dev p0.waits_).and (mxp KM_dev ls_3 c_3))]⟩), (g2, ⟨160, [pl (.int .i64 x_7.pages_), mref g0, mref g1, pl (.int .i64 x_7.left_), pl (.bool x_7.down_)]⟩)]) (k := 0) hU (ul_obj (l := [(g0, ⟨HOT, [mpf KM_dev t_5.1]⟩), (g1, ⟨HOT, [((mpf KM_dev p0.waits_).and (mxp KM_dev ls_3 c_3))]⟩), (g2, ⟨160, [pl (.int .i64 x_7.pages_), mref g0, mref g1, pl (.int .i64 x_7.left_), pl (.bool x_7.down_)]⟩)]) (k := 1) hU (ul_obj (l := [(g0, ⟨HOT, [mpf KM_dev t_5.1]⟩), (g1, ⟨HOT, [((mpf KM_dev p0.waits_).and (mxp KM_dev ls_3 c_3))]⟩), (g2, ⟨160, [pl (.int .i64 t_5.2.1), mref g0, mref g1, pl (.int .i64 t_5.2.2.1), pl (.bool t_5.2.2.2)]⟩)]) (k := 2) hU rfl rfl (by simp only [na, nb, nc, nd, nf, ng, nh, ni, nj, nk] <;> rfl)) rfl (by simp only [na, nb, nc, nd, nf, ng, nh, ni, nj, nk] <;> rfl)) rfl (by simp only [na, nb, nc, nd, nf, ng, nh, ni, nj, nk] <;> rfl)))) ?_
            refine .nil ?_
            obtain rfl := some_of hz_6
            replace hk_3 := lpk_l hk_3
            refine wk_yesL [(g0, ⟨HOT, [mpf KM_dev x_7.safe_]⟩), (g1, ⟨HOT, [((mpf KM_dev p0.waits_).and (mxp KM_dev ls_3 c_3))]⟩), (g2, ⟨160, [pl (.int .i64 x_7.pages_), mref g0, mref g1, pl (.int .i64 x_7.left_), pl (.bool x_7.down_)]⟩)] hNs (by rfl) ⟨(bnd_cons ((mpf_bnd _ _) _ _) bnd_nil), (bnd_cons ((fun _ _ => and_bnd ((mpf_bnd _ _) _ _) mxp_bnd) _ _) bnd_nil), (bnd_cons (pl_bnd _ _ _) (bnd_cons (mref_bnd _ (by first | omega | (simp only [List.length_append, List.length_cons, List.length_nil]; omega))) (bnd_cons (mref_bnd _ (by first | omega | (simp only [List.length_append, List.length_cons, List.length_nil]; omega))) (bnd_cons (pl_bnd _ _ _) (bnd_cons (pl_bnd _ _ _) bnd_nil))))), trivial⟩ (l := [(0, ptr g2 0), (17, ptv (N + 0) 1 0)]) (bs' := [⟨HOT, [itp g1 c_3 (sn_3 ++ [b_3])]⟩]) ⟨le_of_eq (eg (ls rfl (ls rfl (ls rfl oz)))), le_of_eq (eg (ls rfl (ls rfl (ls rfl (os rfl (os rfl oz)))))), trivial⟩ (bnd_cons (ptr_bnd _ (by first | omega | (simp only [List.length_append, List.length_cons, List.length_nil]; omega))) (bnd_cons (ptv_bnd _ (by first | omega | (simp only [List.length_append, List.length_cons, List.length_nil]; omega))) bnd_nil)) (Nat.le_of_ble_eq_true rfl) (by simp only [na, nb, nc, nd, nf, ng, nh, ni, nj, nk] <;> rfl) (bxle_same bxle_nil) rfl (by simp only [na, nb, nc, nd, nf, ng, nh, ni, nj, nk] <;> rfl) (bl_cons (bnd_cons (itp_bnd _ (by first | omega | (simp only [List.length_append, List.length_cons, List.length_nil]; omega))) bnd_nil) bl_nil) ?_
            exact ⟨_, rest_lt hb_3.inc (y := (y_3, b_3)) hy_3 hn_3, (x_7.safe_, x_7.pages_, x_7.left_, x_7.down_), sn_3 ++ [b_3], ⟨le_of_eq (eg oz), le_of_eq (eg (os rfl oz)), trivial⟩, rfl, hk_3, rfl⟩
          · skip
            cases hc
      · rintro e st ⟨vz_4, hH, rfl, hk_3⟩
        clear h0
        subst hK_3
        have h0 := hk_3
        clear hk_3
        refine aw_keep _ hH ?_
        refine aw_weakMX (M' := mpf KM_dev p0.waits_) (obj_get (k := 1) hU rfl) (and_le1 (Pd.le_refl _)) (mpf_bnd _ _) (ul_obj (l := [(g0, ⟨HOT, [mpf KM_dev vz_4.1]⟩), (g1, ⟨HOT, [((mpf KM_dev p0.waits_).and (mxp KM_dev ls_3 c_3))]⟩), (g2, ⟨160, [pl (.int .i64 vz_4.2.1), mref g0, mref g1, pl (.int .i64 vz_4.2.2.1), pl (.bool vz_4.2.2.2)]⟩)]) (k := 1) hU rfl rfl (by simp only [na, nb, nc, nd, nf, ng, nh, ni, nj, nk] <;> rfl)) ?_
        refine aw_keep [(0, _)] ⟨lg oz, trivial⟩ ?_
        refine aw_seq ?_
        refine aw_region (by decide) ?_
        refine rts _ rfl (opD_move oz) ?_
        refine rts _ rfl (opD_nilCheck_ptr lz) ?_
        refine rts _ rfl (opD_fieldAddr fo160_2_w3b lz) ?_
        refine rts _ rfl (opD_load_one ag158_w3b lz (obj_get (k := 2) hU rfl) rfl) ?_
        refine rts _ rfl (opD_to (opD_clearG (K := KM_dev) Go.Proofs.Tryd.underlying158 lz (obj_get (k := 1) hU rfl) (Pd.le_refl _)) (ul_obj (l := [(g0, ⟨HOT, [mpf KM_dev vz_4.1]⟩), (g1, ⟨HOT, [mpf KM_dev p0.waits_]⟩), (g2, ⟨160, [pl (.int .i64 vz_4.2.1), mref g0, mref g1, pl (.int .i64 vz_4.2.2.1), pl (.bool vz_4.2.2.2)]⟩)]) (k := 1) hU rfl rfl (by simp only [na, nb, nc, nd, nf, ng, nh, ni, nj, nk] <;> rfl))) ?_
        refine .nil ?_
        refine aw_keep [] trivial ?_
        refine aw_seq ?_
        refine aw_region (by decide) ?_
        refine rts _ rfl (opD_assign (ev_const _ _)) ?_
        refine .nil ?_
        refine aw_keep [(2, _)] ⟨lg lz, trivial⟩ ?_
        refine aw_ret ?_
        obtain rfl := some_of h0
        exact done_updL ⟨(bnd_cons ((mpf_bnd _ _) _ _) bnd_nil), (bnd_cons ((mpf_bnd _ _) _ _) bnd_nil), (bnd_cons (pl_bnd _ _ _) (bnd_cons (mref_bnd _ (by first | omega | (simp only [List.length_append, List.length_cons, List.length_nil]; omega))) (bnd_cons (mref_bnd _ (by first | omega | (simp only [List.length_append, List.length_cons, List.length_nil]; omega))) (bnd_cons (pl_bnd _ _ _) (bnd_cons (pl_bnd _ _ _) bnd_nil))))), trivial⟩ (.inr rfl) ((res_one rfl (it_tmp oz)).le (Pd.le_refl _)) (pl_bnd _ _ _)

def F_dReadPage_b0 (p0 : Dev) (p1 : Int) (t_4 : (List Int) × Int) : Option (((List Int) × Int) ⊕ (((List Int)))) :=
  ifb (decide (t_4.2 < 8)) (bnd (F_dread p0 (IntKind.i64.wrap ((IntKind.i64.wrap (p1 * 8)) + t_4.2))) fun x_6 => grd ((List.replicate 64 (0 : Int)).length = 64) <| grd (x_6.length = 64) <| grd (x_6.length = 64) <| grd (Fits 1 (t_4.1.length + x_6.length)) <| some (.inl ((t_4.1 ++ x_6), IntKind.i64.wrap (t_4.2 + 1)))) (some (.inr t_4.1))
def F_dReadPage (fl : Nat) (p0 : Dev) (p1 : Int) : Option ((List Int) × (Option Int)) :=
  bnd (F_dPages p0) fun x_1 => bnd (F_dthere p0 p1 x_1) fun x_2 => ifb x_2.isSome (some ([], x_2)) (bnd (lp (F_dReadPage_b0 p0 p1) fl (([] : (List Int)), 0)) fun z_3 => some (z_3, none))
set_option maxRecDepth 100000 in
set_option maxHeartbeats 2000000 in
theorem c_dReadPage {fl : Nat} {p0 : Dev} {p1 : Int} {R : (List Int) × (Option Int)} {s : St} {M0 : Pd} {M1 : Pd} {g0 g1 g2 : Nat} (h0 : F_dReadPage fl p0 p1 = some R) (hU : UD s.boxes.length [g0, g1, g2]) (hB0 : s.boxes[g0]? = some ⟨HOT, [M0]⟩) (hB1 : s.boxes[g1]? = some ⟨HOT, [M1]⟩) (hB2 : s.boxes[g2]? = some ⟨160, [pl (.int .i64 p0.pages_), mref g0, mref g1, pl (.int .i64 p0.left_), pl (.bool p0.down_)]⟩) (hM0 : M0.le (mpf KM_dev p0.safe_)) (hMb0 : ∀ n m, M0.Bnd n m) (hM1 : M1.le (mpf KM_dev p0.waits_)) (hMb1 : ∀ n m, M1.Bnd n m) : AC Go.Proofs.Tryd.prog 46 [ptr g2 0, pl (.int .i64 p1)] s (tup [sl (kI .u8) none none R.1, pl (errV R.2)]) s := by
  obtain ⟨N, hNs⟩ : ∃ N, s.boxes.length = N := ⟨_, rfl⟩
  have hUN : UD N [g0, g1, g2] := hNs ▸ hU
  obtain ⟨hl0, ⟨hn01, ⟨hn02, -⟩⟩, ⟨hl1, ⟨hn12, -⟩, ⟨hl2, -, -⟩⟩⟩ := hUN
  unfold F_dReadPage at h0
  refine ac_of_aw s.boxes.length s.fr.length Go.Proofs.Tryd.func46 rfl (by simp [Go.Proofs.Tryd.ntmps46]) ?_
  refine aw_ext0 ?_
  refine aw_updL0 (l := [(g0, ⟨HOT, [M0]⟩), (g1, ⟨HOT, [M1]⟩), (g2, ⟨160, [pl (.int .i64 p0.pages_), mref g0, mref g1, pl (.int .i64 p0.left_), pl (.bool p0.down_)]⟩)]) ⟨hB0, hB1, hB2, trivial⟩ ?_
  refine aw_keep [(0, _), (1, _)] ⟨lg ez, lg (es ez), trivial⟩ ?_
  refine aw_seq ?_
  refine aw_region (by decide) ?_
  refine rts _ rfl (opD_assign (ev_const _ _)) ?_
  refine rts _ rfl (opD_assign (ev_const _ _)) ?_
  refine .nil ?_
  refine aw_keep [(0, _), (1, _)] ⟨lg (ls rfl (ls rfl oz)), lg (ls rfl (ls rfl (os rfl oz))), trivial⟩ ?_
  refine aw_seq ?_
  refine aw_seq ?_
  refine aw_region (by decide) ?_
  refine rts _ rfl (opD_move oz) ?_
  refine rts _ rfl (opD_move (ls rfl (os rfl oz))) ?_
  refine rts _ rfl (opD_move (ls rfl (ls rfl oz))) ?_
  replace h0 := bnd_some h0
  obtain ⟨x_1, hx_1, h0⟩ := h0
  refine rts _ rfl (opD_call ht42_w3b (c_dPages hx_1 (ud_len (m := 0) ((updL_len _ _).trans hNs) rfl ⟨by omega, ⟨by omega, ⟨by omega, trivial⟩⟩, ⟨by omega, ⟨by omega, trivial⟩, ⟨by omega, trivial, trivial⟩⟩⟩) (obj_get (k := 0) hU rfl) (obj_get (k := 1) hU rfl) (obj_get (k := 2) hU rfl) hM0 hMb0 hM1 hMb1) ⟨le_of_eq lz, trivial⟩) ?_
  replace h0 := bnd_some h0
  obtain ⟨x_2, hx_2, h0⟩ := h0
  refine rts _ rfl (opD_call ht81_w3b (c_dthere hx_2 (ud_len (m := 0) ((updL_len _ _).trans hNs) rfl ⟨by omega, ⟨by omega, ⟨by omega, trivial⟩⟩, ⟨by omega, ⟨by omega, trivial⟩, ⟨by omega, trivial, trivial⟩⟩⟩) (obj_get (k := 0) hU rfl) (obj_get (k := 1) hU rfl) (obj_get (k := 2) hU rfl) hM0 hMb0 hM1 hMb1) ⟨le_of_eq (ls rfl (ls rfl (ls rfl lz))), le_of_eq (ls rfl (ls rfl lz)), le_of_eq lz, trivial⟩) ?_
  refine rts _ rfl (opD_assign lz) ?_
  refine .nil ?_
  refine aw_keep [(0, _), (1, _), (6, _)] ⟨lg (ls rfl (ls rfl (ls rfl (ls rfl (ls rfl (ls rfl oz)))))), lg (ls rfl (ls rfl (ls rfl (ls rfl (ls rfl (ls rfl (os rfl oz))))))), lg lz, trivial⟩ ?_
  refine aw_seq ?_
  refine aw_region (by decide) ?_
  refine rts _ rfl (opD_move (os rfl (os rfl oz))) ?_
  refine rts _ rfl (opD_bin lz (ev_const _ _) (fun w => errV_guard _ w _) (fun w => errV_beq _ w)) ?_
  refine .nil ?_
  refine aw_keep [(0, _), (1, _), (6, _), (16, _)] ⟨lg (ls rfl (ls rfl oz)), lg (ls rfl (ls rfl (os rfl oz))), lg (ls rfl (ls rfl (os rfl (os rfl oz)))), lg lz, trivial⟩ ?_
  refine aw_cond _ (os rfl (os rfl (os rfl oz))) (fun hc => ?_) (fun hc => ?_)
  · skip
    replace h0 := ifb_t h0 hc
    clear hc
    refine aw_seq ?_
    refine aw_region (by decide) ?_
    refine rts _ rfl (opD_move (os rfl (os rfl oz))) ?_
    refine rts _ rfl (opD_assign (ev_const _ _)) ?_
    refine rts _ rfl (opD_assign (ls rfl lz)) ?_
    refine .nil ?_
    refine aw_keep [(4, _), (5, _)] ⟨lg (ls rfl lz), lg lz, trivial⟩ ?_
    refine aw_ret ?_
    obtain rfl := some_of h0
    exact done_updLS ⟨hB0, hB1, hB2, trivial⟩ (.inr rfl) ((res_list (rs := [_, _]) (ps := [_, _]) rfl rfl ⟨it_tmp oz, it_tmp (os rfl oz), trivial⟩).le (tup_le ⟨(le_nil rfl), (Pd.le_refl _), trivial⟩)) (tup_bnd (bnd_cons (sl_b (kb_I _)) (bnd_cons (pl_bnd _ _ _) bnd_nil)))
  · skip
    replace h0 := ifb_f h0 hc
    clear hc
    refine aw_skip ?_
    refine aw_keep [(0, _), (1, _)] ⟨lg oz, lg (os rfl oz), trivial⟩ ?_
    refine aw_seq ?_
    refine aw_region (by decide) ?_
    refine rts _ rfl (opD_assign (ev_const _ _)) ?_
    refine .nil ?_
    refine aw_keep [(0, _), (1, _), (7, _)] ⟨lg (ls rfl oz), lg (ls rfl (os rfl oz)), lg lz, trivial⟩ ?_
    refine aw_seq ?_
    refine aw_seq ?_
    refine aw_region (by decide) ?_
    refine rts _ rfl (opD_move (ev_const _ _)) ?_
    refine .nil ?_
    refine aw_keep [(0, _), (1, _), (7, _), (18, _)] ⟨lg (ls rfl oz), lg (ls rfl (os rfl oz)), lg (ls rfl (os rfl (os rfl oz))), lg lz, trivial⟩ ?_
    replace h0 := bnd_some h0
    obtain ⟨z_3, hz_3, h0⟩ := h0
    refine aw_mid (fun e st => ∃ v : (List Int), Holds e [(7, sl (kI .u8) none none v)] ∧ st = (s.updL [(g0, ⟨HOT, [M0]⟩), (g1, ⟨HOT, [M1]⟩), (g2, ⟨160, [pl (.int .i64 p0.pages_), mref g0, mref g1, pl (.int .i64 p0.left_), pl (.bool p0.down_)]⟩)]).ext [] [] ∧ v = z_3) ?_ ?_
    · skip
      refine aw_wkN ((updL_len _ _).trans hNs) 0 0 rfl rfl ?_
      refine aw_block ?_
      refine aw_fr ⟨5, 1, 0⟩ ?_
      refine aw_loop (fun n e st => ∃ v : (List Int) × Int, Holds e [(0, ptr g2 0), (1, pl (.int .i64 p1)), (7, sl (kI .u8) (some (s.fr.length + 0)) none v.1), (18, pl (.int .i64 v.2))] ∧ st = (s.updL [(g0, ⟨HOT, [M0]⟩), (g1, ⟨HOT, [M1]⟩), (g2, ⟨160, [pl (.int .i64 p0.pages_), mref g0, mref g1, pl (.int .i64 p0.left_), pl (.bool p0.down_)]⟩)]).ext [] [⟨5, 1, v.1.length⟩] ∧ lp (F_dReadPage_b0 p0 p1) n v = some z_3) fl ⟨(([] : (List Int)), 0), ⟨le_of_eq (eg oz), le_of_eq (eg (os rfl oz)), (le_of_eq (eg (os rfl (os rfl oz)))).trans (nil_own rfl), le_of_eq (eg (os rfl (os rfl (os rfl oz)))), trivial⟩, rfl, hz_3⟩ ?_
      rintro n e st ⟨t_4, hH, rfl, hz_3⟩
      replace hz_3 := lp_some hz_3
      obtain ⟨m_z_5, z_5, rfl, hz_5, hz_3⟩ := hz_3
      unfold F_dReadPage_b0 at hz_5
      refine aw_keep _ hH ?_
      refine aw_wkN ((updL_len _ _).trans hNs) 0 1 rfl rfl ?_
      refine aw_seq ?_
      refine aw_region (by decide) ?_
      refine rts _ rfl (opD_lss (os rfl (os rfl (os rfl oz))) (ev_const _ _)) ?_
      refine .nil ?_
      refine aw_keep [(0, _), (1, _), (7, _), (18, _), (19, _)] ⟨lg (ls rfl oz), lg (ls rfl (os rfl oz)), lg (ls rfl (os rfl (os rfl oz))), lg (ls rfl (os rfl (os rfl (os rfl oz)))), lg lz, trivial⟩ ?_
      refine aw_seq ?_
      refine aw_cond _ (os rfl (os rfl (os rfl (os rfl oz)))) (fun hc => ?_) (fun hc => ?_)
      · skip
        replace hz_5 := ifb_t hz_5 hc
        clear hc
        refine aw_skip ?_
        refine aw_keep [(0, _), (1, _), (7, _), (18, _)] ⟨lg oz, lg (os rfl oz), lg (os rfl (os rfl oz)), lg (os rfl (os rfl (os rfl oz))), trivial⟩ ?_
        refine aw_seq ?_
        refine aw_block ?_
        refine aw_seq ?_
        refine aw_region (by decide) ?_
        refine rts _ rfl (opD_move (os rfl (os rfl (os rfl oz)))) ?_
        refine rts _ rfl (opD_assign lz) ?_
        refine .nil ?_
        refine aw_keep [(0, _), (1, _), (7, _), (8, _), (18, _)] ⟨lg (ls rfl (ls rfl oz)), lg (ls rfl (ls rfl (os rfl oz))), lg (ls rfl (ls rfl (os rfl (os rfl oz)))), lg lz, lg (ls rfl (ls rfl (os rfl (os rfl (os rfl oz))))), trivial⟩ ?_
        refine aw_seq ?_
        refine aw_region (by decide) ?_
        refine rts _ rfl (opD_move oz) ?_
        refine rts _ rfl (opD_move (ls rfl (os rfl oz))) ?_
        refine rts _ rfl (opD_mul lz (ev_const _ _) rfl) ?_
        refine rts _ rfl (opD_move (ls rfl (ls rfl (ls rfl (os rfl (os rfl (os rfl oz))))))) ?_
        refine rts _ rfl (opD_add (ls rfl lz) lz rfl) ?_
        replace hz_5 := bnd_some hz_5
        obtain ⟨x_6, hx_6, hz_5⟩ := hz_5
        refine rts _ rfl (opD_call ht87_w3b (c_dread hx_6 (ud_len (m := 0) ((updL_len _ _).trans hNs) rfl ⟨by omega, ⟨by omega, ⟨by omega, trivial⟩⟩, ⟨by omega, ⟨by omega, trivial⟩, ⟨by omega, trivial, trivial⟩⟩⟩) (obj_get (k := 0) hU rfl) (obj_get (k := 1) hU rfl) (obj_get (k := 2) hU rfl) hM0 hMb0 hM1 hMb1) ⟨le_of_eq (ls rfl (ls rfl (ls rfl (ls rfl lz)))), le_of_eq lz, trivial⟩) ?_
        refine rts _ rfl (allocFN (k := kI .u8) (x0 := 0) (z := .int .u8 0) (m := 64) ((updL_len _ _).trans hNs) (by kernel_rfl) rfl (by first | exact List.length_nil | (simp only [List.length_cons, List.length_nil, Nat.zero_add, Nat.reduceAdd] <;> rfl)) (by simp only [na, nb, nc, nd, nf, ng, nh, ni, nj, nk] <;> rfl)) ?_
        replace hz_5 := grd_some hz_5
        obtain ⟨hg_21, hz_5⟩ := hz_5
        replace hz_5 := grd_some hz_5
        obtain ⟨hg_22, hz_5⟩ := hz_5
        refine rts _ rfl (storeWF (k := kI .u8) ((updL_len _ _).trans hNs) sz163_w3b lz (ls rfl lz) rfl rfl hg_21 hg_22 (by decide) (kb_I _) (by simp only [na, nb, nc, nd, nf, ng, nh, ni, nj, nk] <;> rfl)) ?_
        refine .nil ?_
        refine aw_keep [(0, _), (1, _), (7, _), (9, _), (18, _)] ⟨lg (lx (ls rfl (ls rfl (ls rfl (ls rfl (ls rfl (ls rfl (ls rfl oz)))))))), lg (lx (ls rfl (ls rfl (ls rfl (ls rfl (ls rfl (ls rfl (ls rfl (os rfl oz))))))))), lg (lx (ls rfl (ls rfl (ls rfl (ls rfl (ls rfl (ls rfl (ls rfl (os rfl (os rfl oz)))))))))), lg (lx lz), lg (lx (ls rfl (ls rfl (ls rfl (ls rfl (ls rfl (ls rfl (ls rfl (os rfl (os rfl (os rfl (os rfl oz)))))))))))), trivial⟩ ?_
        refine aw_region (by decide) ?_
        refine rts _ rfl (opD_move (os rfl (os rfl oz))) ?_
        replace hz_5 := grd_some hz_5
        obtain ⟨hg_23, hz_5⟩ := hz_5
        refine rts _ rfl (opD_to (opD_sliceArr (k := kI .u8) Go.Proofs.Tryd.underlying163 sz5_w3b (by decide) rfl (ls rfl (os rfl (os rfl (os rfl oz)))) (loc_getN ((updL_len _ _).trans hNs) rfl) hg_23 (by decide)) (ul_loc (k := 0) ((updL_len _ _).trans hNs) rfl (by simp only [na, nb, nc, nd, nf, ng, nh, ni, nj, nk] <;> rfl))) ?_
        replace hz_5 := grd_some hz_5
        obtain ⟨hg_24, hz_5⟩ := hz_5
        refine rts _ rfl (opD_appendX Go.Proofs.Tryd.underlying33 el5_w3b (ls rfl lz) lz rfl hg_24.1 hg_24.2 rfl (by simp only [na, nb, nc, nd, nf, ng, nh, ni, nj, nk] <;> rfl)) ?_
        refine rts _ rfl (opD_assign lz) ?_
        refine .nil ?_
        refine aw_keep [(0, _), (1, _), (7, _), (18, _)] ⟨lg (ls rfl (ls rfl (ls rfl (ls rfl oz)))), lg (ls rfl (ls rfl (ls rfl (ls rfl (os rfl oz))))), lg lz, lg (ls rfl (ls rfl (ls rfl (ls rfl (os rfl (os rfl (os rfl (os rfl oz)))))))), trivial⟩ ?_
        refine aw_region (by decide) ?_
        refine rts _ rfl (opD_add (os rfl (os rfl (os rfl oz))) (ev_const _ _) rfl) ?_
        refine rts _ rfl (opD_move lz) ?_
        refine .nil ?_
        obtain rfl := some_of hz_5
        replace hz_3 := ocs_l hz_3
        refine wk_yesL [(g0, ⟨HOT, [M0]⟩), (g1, ⟨HOT, [M1]⟩), (g2, ⟨160, [pl (.int .i64 p0.pages_), mref g0, mref g1, pl (.int .i64 p0.left_), pl (.bool p0.down_)]⟩)] hNs (by rfl) ⟨(bnd_cons (hMb0 _ _) bnd_nil), (bnd_cons (hMb1 _ _) bnd_nil), (bnd_cons (pl_bnd _ _ _) (bnd_cons (mref_bnd _ (by first | omega | (simp only [List.length_append, List.length_cons, List.length_nil]; omega))) (bnd_cons (mref_bnd _ (by first | omega | (simp only [List.length_append, List.length_cons, List.length_nil]; omega))) (bnd_cons (pl_bnd _ _ _) (bnd_cons (pl_bnd _ _ _) bnd_nil))))), trivial⟩ (l := [(0, ptr g2 0), (1, pl (.int .i64 p1)), (7, sl (kI .u8) (some (s.fr.length + 0)) none (t_4.1 ++ x_6)), (18, pl (.int .i64 (IntKind.i64.wrap (t_4.2 + 1))))]) (bs' := []) ⟨le_of_eq (eg (ls rfl (ls rfl oz))), le_of_eq (eg (ls rfl (ls rfl (os rfl oz)))), le_of_eq (eg (ls rfl (ls rfl (os rfl (os rfl oz))))), le_of_eq (eg lz), trivial⟩ (bnd_cons (ptr_bnd _ (by first | omega | (simp only [List.length_append, List.length_cons, List.length_nil]; omega))) (bnd_cons (pl_bnd _ _ _) (bnd_cons (sl_ob (kb_I _) (by first | omega | (simp only [List.length_append, List.length_cons, List.length_nil, ext_fr_length, upd_fr_length]; omega))) (bnd_cons (pl_bnd _ _ _) bnd_nil)))) (Nat.le_of_ble_eq_true rfl) (by simp only [na, nb, nc, nd, nf, ng, nh, ni, nj, nk] <;> rfl) bxle_nil rfl (by simp only [na, nb, nc, nd, nf, ng, nh, ni, nj, nk] <;> rfl) bl_nil ?_
        exact ⟨m_z_5, Nat.lt_succ_self _, ((t_4.1 ++ x_6), IntKind.i64.wrap (t_4.2 + 1)), ⟨le_of_eq (eg oz), le_of_eq (eg (os rfl oz)), le_of_eq (eg (os rfl (os rfl oz))), le_of_eq (eg (os rfl (os rfl (os rfl oz)))), trivial⟩, rfl, hz_3⟩
      · skip
        replace hz_5 := ifb_f hz_5 hc
        clear hc
        refine aw_exit ?_
        obtain rfl := some_of hz_5
        replace hz_3 := ocs_r hz_3
        refine wk_no ?_
        refine wk_yesL [(g0, ⟨HOT, [M0]⟩), (g1, ⟨HOT, [M1]⟩), (g2, ⟨160, [pl (.int .i64 p0.pages_), mref g0, mref g1, pl (.int .i64 p0.left_), pl (.bool p0.down_)]⟩)] hNs (by rfl) ⟨(bnd_cons (hMb0 _ _) bnd_nil), (bnd_cons (hMb1 _ _) bnd_nil), (bnd_cons (pl_bnd _ _ _) (bnd_cons (mref_bnd _ (by first | omega | (simp only [List.length_append, List.length_cons, List.length_nil]; omega))) (bnd_cons (mref_bnd _ (by first | omega | (simp only [List.length_append, List.length_cons, List.length_nil]; omega))) (bnd_cons (pl_bnd _ _ _) (bnd_cons (pl_bnd _ _ _) bnd_nil))))), trivial⟩ (l := [(7, sl (kI .u8) none none t_4.1)]) (bs' := []) ⟨(le_of_eq (eg (os rfl (os rfl oz)))).trans (sl_le _ (some (s.fr.length + 0)) none _), trivial⟩ (bnd_cons (sl_b (kb_I _)) bnd_nil) (Nat.le_of_ble_eq_true rfl) (by simp only [na, nb, nc, nd, nf, ng, nh, ni, nj, nk] <;> rfl) bxle_nil rfl (by simp only [na, nb, nc, nd, nf, ng, nh, ni, nj, nk] <;> rfl) bl_nil ?_
        exact ⟨t_4.1, ⟨le_of_eq (eg oz), trivial⟩, rfl, some_of hz_3⟩
    · rintro e st ⟨vz_3, hH, rfl, rfl⟩
      refine aw_keep _ hH ?_
      refine aw_keep [(7, _)] ⟨lg oz, trivial⟩ ?_
      refine aw_seq ?_
      refine aw_region (by decide) ?_
      refine rts _ rfl (opD_move oz) ?_
      refine rts _ rfl (opD_assign lz) ?_
      refine rts _ rfl (opD_assign (ev_const _ _)) ?_
      refine .nil ?_
      refine aw_keep [(4, _), (5, _)] ⟨lg (ls rfl lz), lg lz, trivial⟩ ?_
      refine aw_ret ?_
      obtain rfl := some_of h0
      exact done_updLS ⟨hB0, hB1, hB2, trivial⟩ (.inr rfl) ((res_list (rs := [_, _]) (ps := [_, _]) rfl rfl ⟨it_tmp oz, it_tmp (os rfl oz), trivial⟩).le (tup_le ⟨(Pd.le_refl _), (Pd.le_refl _), trivial⟩)) (tup_bnd (bnd_cons (sl_b (kb_I _)) (bnd_cons (pl_bnd _ _ _) bnd_nil)))
end Go.Proofs.YtjbgddpaclcjfaaDoor.Eng.A
