/- EU1: what functions do, walked; used by the laws of this seat. -/
import Derived.Test.YtmnhfpcbfdgbcaaDoorEW2
import Derived.Test.YtmnhfpcbfdgbcaaDoorEngX4
import Derived.Test.YtmnhfpcbfdgbcaaDoorEngX3
import Derived.Test.YtmnhfpcbfdgbcaaDoorEW1
import Derived.Test.YtmnhfpcbfdgbcaaDoorEW3
namespace Go.Proofs.YtmnhfpcbfdgbcaaDoor.Eng.A
set_option linter.unusedVariables false
set_option linter.unusedSimpArgs false
open Go.RowKit Go.Proofs.YtmnhfpcbfdgbcaaDoor.Plain Go.Proofs.YtmnhfpcbfdgbcaaDoor.Eng Go.Proofs.YtmnhfpcbfdgbcaaDoor.Eng.Pk Go.Proofs.YtmnhfpcbfdgbcaaDoor.Eng.Rd




def kE : Kn (Option Int) := ⟨1, fun o => [pl (errV o)], fun _ => rfl, fun o p hp g w v h => by simp at hp; subst hp; rw [show v = _ from h]; cases o <;> rfl⟩
theorem kb_E : KB kE := fun x n m p hp => by simp [kE] at hp; subst hp; exact pl_bnd _ _ _
theorem one_errV (o : Option Int) : (pl (errV o)).One := one_pl (by cases o <;> rfl)
theorem errV_eql (o : Option Int) (w : World) : (binOp .eql 34 (errV o) .nilIface).run Go.Proofs.Tryd.prog w = .ok (.bool o.isNone) w := by cases o <;> simp [errV, go_sem]
theorem errV_geql (o : Option Int) (w : World) (x : Operand) : (eqGuard .eql 34 x (.const .nilIface) (errV o) .nilIface).run Go.Proofs.Tryd.prog w = .ok () w := by cases o <;> simp [errV, go_sem]
theorem beq_dec (a b : Int) : (a == b) = decide (a = b) := rfl

structure Ent where
  Key : ByteArray
  Value : ByteArray
  deriving DecidableEq
instance : Inhabited Ent := ⟨⟨⟨#[]⟩, ⟨#[]⟩⟩⟩
def kEnt : Kn Ent := ⟨2, fun x => [pl (.string x.Key), pl (.string x.Value)], fun _ => rfl, fun x p hp => by
  have h : ∀ p ∈ [pl (.string x.Key), pl (.string x.Value)], Pd.One p := (ones_cons (one_pl rfl) (ones_cons (one_pl rfl) ones_nil))
  exact h p hp⟩
theorem kb_Ent : KB kEnt := fun x n m p hp => ((bnd_cons (pl_bnd _ _ _) (bnd_cons (pl_bnd _ _ _) bnd_nil)) : ∀ p ∈ [pl (.string x.Key), pl (.string x.Value)], p.Bnd n m) p hp

structure Rf where
  Slot : Int
  Gen : Int
  deriving DecidableEq
instance : Inhabited Rf := ⟨⟨0, 0⟩⟩
def kRf : Kn Rf := ⟨2, fun x => [pl (.int .i64 x.Slot), pl (.int .u64 x.Gen)], fun _ => rfl, fun x p hp => by
  have h : ∀ p ∈ [pl (.int .i64 x.Slot), pl (.int .u64 x.Gen)], Pd.One p := (ones_cons (one_pl rfl) (ones_cons (one_pl rfl) ones_nil))
  exact h p hp⟩
theorem kb_Rf : KB kRf := fun x n m p hp => ((bnd_cons (pl_bnd _ _ _) (bnd_cons (pl_bnd _ _ _) bnd_nil)) : ∀ p ∈ [pl (.int .i64 x.Slot), pl (.int .u64 x.Gen)], p.Bnd n m) p hp

structure Lin where
  Seq : Int
  Who : Int
  What : Int
  Code : Int
  Key : ByteArray
  deriving DecidableEq
instance : Inhabited Lin := ⟨⟨0, 0, 0, 0, ⟨#[]⟩⟩⟩
def kLin : Kn Lin := ⟨5, fun x => [pl (.int .u64 x.Seq), pl (.int .u64 x.Who), pl (.int .u8 x.What), pl (.int .u16 x.Code), pl (.string x.Key)], fun _ => rfl, fun x p hp => by
  have h : ∀ p ∈ [pl (.int .u64 x.Seq), pl (.int .u64 x.Who), pl (.int .u8 x.What), pl (.int .u16 x.Code), pl (.string x.Key)], Pd.One p := (ones_cons (one_pl rfl) (ones_cons (one_pl rfl) (ones_cons (one_pl rfl) (ones_cons (one_pl rfl) (ones_cons (one_pl rfl) ones_nil)))))
  exact h p hp⟩
theorem kb_Lin : KB kLin := fun x n m p hp => ((bnd_cons (pl_bnd _ _ _) (bnd_cons (pl_bnd _ _ _) (bnd_cons (pl_bnd _ _ _) (bnd_cons (pl_bnd _ _ _) (bnd_cons (pl_bnd _ _ _) bnd_nil))))) : ∀ p ∈ [pl (.int .u64 x.Seq), pl (.int .u64 x.Who), pl (.int .u8 x.What), pl (.int .u16 x.Code), pl (.string x.Key)], p.Bnd n m) p hp

structure Rpl where
  Code : Int
  N : Int
  Found : Bool
  Value : ByteArray
  Rows : (List Ent)
  Refs : (List Rf)
  Lines : (List Lin)
  deriving DecidableEq
instance : Inhabited Rpl := ⟨⟨0, 0, false, ⟨#[]⟩, [], [], []⟩⟩
def kRpl : Kn Rpl := ⟨7, fun x => [pl (.int .i64 x.Code), pl (.int .u64 x.N), pl (.bool x.Found), pl (.string x.Value), sl kEnt none none x.Rows, sl kRf none none x.Refs, sl kLin none none x.Lines], fun _ => rfl, fun x p hp => by
  have h : ∀ p ∈ [pl (.int .i64 x.Code), pl (.int .u64 x.N), pl (.bool x.Found), pl (.string x.Value), sl kEnt none none x.Rows, sl kRf none none x.Refs, sl kLin none none x.Lines], Pd.One p := (ones_cons (one_pl rfl) (ones_cons (one_pl rfl) (ones_cons (one_pl rfl) (ones_cons (one_pl rfl) (ones_cons (one_sl _ _ _ _) (ones_cons (one_sl _ _ _ _) (ones_cons (one_sl _ _ _ _) ones_nil)))))))
  exact h p hp⟩
theorem kb_Rpl : KB kRpl := fun x n m p hp => ((bnd_cons (pl_bnd _ _ _) (bnd_cons (pl_bnd _ _ _) (bnd_cons (pl_bnd _ _ _) (bnd_cons (pl_bnd _ _ _) (bnd_cons (sl_b kb_Ent) (bnd_cons (sl_b kb_Rf) (bnd_cons (sl_b kb_Lin) bnd_nil))))))) : ∀ p ∈ [pl (.int .i64 x.Code), pl (.int .u64 x.N), pl (.bool x.Found), pl (.string x.Value), sl kEnt none none x.Rows, sl kRf none none x.Refs, sl kLin none none x.Lines], p.Bnd n m) p hp
end Go.Proofs.YtmnhfpcbfdgbcaaDoor.Eng.A

namespace Go.Proofs.YtmnhfpcbfdgbcaaDoor.Eng.A
set_option linter.unusedVariables false
set_option linter.unusedSimpArgs false
open Go.RowKit Go.Proofs.YtmnhfpcbfdgbcaaDoor.Plain Go.Proofs.YtmnhfpcbfdgbcaaDoor.Eng Go.Proofs.YtmnhfpcbfdgbcaaDoor.Eng.Pk Go.Proofs.YtmnhfpcbfdgbcaaDoor.Eng.Rd

theorem fo109_0_U1 : fieldOff Go.Proofs.Tryd.prog 109 0 = some 0 := by kernel_rfl
theorem ag9_U1 : aggT Go.Proofs.Tryd.prog 9 = some false := by kernel_rfl
theorem fo109_1_U1 : fieldOff Go.Proofs.Tryd.prog 109 1 = some 1 := by kernel_rfl
theorem fo116_0_U1 : fieldOff Go.Proofs.Tryd.prog 116 0 = some 0 := by kernel_rfl
theorem ag3_U1 : aggT Go.Proofs.Tryd.prog 3 = some false := by kernel_rfl
theorem fo116_1_U1 : fieldOff Go.Proofs.Tryd.prog 116 1 = some 1 := by kernel_rfl
theorem ag22_U1 : aggT Go.Proofs.Tryd.prog 22 = some false := by kernel_rfl
theorem fo63_0_U1 : fieldOff Go.Proofs.Tryd.prog 63 0 = some 0 := by kernel_rfl
theorem fo63_1_U1 : fieldOff Go.Proofs.Tryd.prog 63 1 = some 1 := by kernel_rfl
theorem fo63_4_U1 : fieldOff Go.Proofs.Tryd.prog 63 4 = some 4 := by kernel_rfl
theorem sz109_U1 : sizeT Go.Proofs.Tryd.prog 109 = some 2 := by kernel_rfl
theorem ag109_U1 : aggT Go.Proofs.Tryd.prog 109 = some true := by kernel_rfl
theorem ht103_U1 : hasText Go.Proofs.Tryd.prog 103 = true := by kernel_rfl
theorem ht124_U1 : hasText Go.Proofs.Tryd.prog 124 = true := by kernel_rfl
theorem sz116_U1 : sizeT Go.Proofs.Tryd.prog 116 = some 2 := by kernel_rfl
theorem ag116_U1 : aggT Go.Proofs.Tryd.prog 116 = some true := by kernel_rfl
theorem ht105_U1 : hasText Go.Proofs.Tryd.prog 105 = true := by kernel_rfl
theorem ht125_U1 : hasText Go.Proofs.Tryd.prog 125 = true := by kernel_rfl
theorem sz63_U1 : sizeT Go.Proofs.Tryd.prog 63 = some 5 := by kernel_rfl
theorem ag63_U1 : aggT Go.Proofs.Tryd.prog 63 = some true := by kernel_rfl
theorem ht107_U1 : hasText Go.Proofs.Tryd.prog 107 = true := by kernel_rfl
theorem ht126_U1 : hasText Go.Proofs.Tryd.prog 126 = true := by kernel_rfl
theorem fo94_0_U1 : fieldOff Go.Proofs.Tryd.prog 94 0 = some 0 := by kernel_rfl
theorem fo94_1_U1 : fieldOff Go.Proofs.Tryd.prog 94 1 = some 1 := by kernel_rfl
theorem fo94_3_U1 : fieldOff Go.Proofs.Tryd.prog 94 3 = some 3 := by kernel_rfl
theorem cc107_U1 : Go.Proofs.Tryd.prog.concrete 107 = true := by kernel_rfl
theorem fo94_4_U1 : fieldOff Go.Proofs.Tryd.prog 94 4 = some 4 := by kernel_rfl
theorem ag91_U1 : aggT Go.Proofs.Tryd.prog 91 = some false := by kernel_rfl
theorem ht102_U1 : hasText Go.Proofs.Tryd.prog 102 = true := by kernel_rfl
theorem fo94_5_U1 : fieldOff Go.Proofs.Tryd.prog 94 5 = some 5 := by kernel_rfl
theorem ag92_U1 : aggT Go.Proofs.Tryd.prog 92 = some false := by kernel_rfl
theorem ht104_U1 : hasText Go.Proofs.Tryd.prog 104 = true := by kernel_rfl
theorem fo94_6_U1 : fieldOff Go.Proofs.Tryd.prog 94 6 = some 6 := by kernel_rfl
theorem ag55_U1 : aggT Go.Proofs.Tryd.prog 55 = some false := by kernel_rfl
theorem ht106_U1 : hasText Go.Proofs.Tryd.prog 106 = true := by kernel_rfl

def F_rowed (p0 : Ent) : Option (Bool) :=
  some ((decide (40 < (p0.Key.size : Int))) || (decide (2048 < (p0.Value.size : Int))))
set_option maxRecDepth 100000 in
set_option maxHeartbeats 2000000 in
theorem c_rowed {p0 : Ent} {R : Bool} (h0 : F_rowed p0 = some R) : Pure Go.Proofs.Tryd.prog 103 [agg [pl (.string p0.Key), pl (.string p0.Value)]] (pl (.bool R)) := by
  intro s
  unfold F_rowed at h0
  refine ac_of_aw s.boxes.length s.fr.length Go.Proofs.Tryd.func103 rfl (by simp [Go.Proofs.Tryd.ntmps103]) ?_
  refine aw_ext0 ?_
  refine aw_keep [(0, _)] ⟨lg ez, trivial⟩ ?_
  refine aw_seq ?_
  refine aw_region (by decide) ?_
  refine rts _ rfl (boxAN rfl oz (bnd_cons (pl_bnd _ _ _) (bnd_cons (pl_bnd _ _ _) bnd_nil)) (by first | exact List.length_nil | (simp only [List.length_cons, List.length_nil, Nat.zero_add, Nat.reduceAdd] <;> rfl)) (by simp only [na, nb, nc, nd, nf, ng, nh, ni, nj, nk] <;> rfl)) ?_
  refine rts _ rfl (opD_assign (ev_const _ _)) ?_
  refine .nil ?_
  refine aw_keep [(1, _)] ⟨lg (ls rfl lz), trivial⟩ ?_
  refine aw_seq ?_
  refine aw_region (by decide) ?_
  refine rts _ rfl (opD_fieldAddr fo109_0_U1 oz) ?_
  refine rts _ rfl (opD_load_one ag9_U1 lz (loc_getN rfl rfl) rfl) ?_
  refine rts _ rfl (opD_len_str Go.Proofs.Tryd.underlying9 lz) ?_
  refine rts _ rfl (opD_gtr lz (ev_const _ _)) ?_
  refine rts _ rfl (opD_move lz) ?_
  refine rtg _ rfl lz (fun hg1_5_1 => opD_fieldAddr fo109_1_U1 (ls rfl (ls rfl (ls rfl (ls rfl (ls rfl oz)))))) ?_
  refine rtg _ rfl (ls rfl lz) (fun hg1_6_2 => opD_load_one ag9_U1 (lz.trans (pif_pos hg1_6_2)) (loc_getN rfl rfl) rfl) ?_
  refine rtg _ rfl (ls rfl (ls rfl lz)) (fun hg1_7_3 => opD_len_str Go.Proofs.Tryd.underlying9 (lz.trans (pif_pos hg1_7_3))) ?_
  refine rtg _ rfl (ls rfl (ls rfl (ls rfl lz))) (fun hg1_8_4 => opD_gtr (lz.trans (pif_pos hg1_8_4)) (ev_const _ _)) ?_
  refine rts _ rfl (opD_or (ls rfl (ls rfl (ls rfl (ls rfl lz)))) lz) ?_
  refine rts _ rfl (opD_assign lz) ?_
  refine .nil ?_
  refine aw_keep [(2, _)] ⟨lg lz, trivial⟩ ?_
  refine aw_ret ?_
  obtain rfl := some_of h0
  exact done_ext (.inr rfl) ((res_one rfl (it_tmp oz)).le (Pd.le_refl _)) (pl_bnd _ _ _)

def F_named (p0 : Rf) : Option (Bool) :=
  some (((decide (p0.Slot < 0)) || (decide (64 ≤ p0.Slot))) || (decide (4611686018427387904 < p0.Gen)))
set_option maxRecDepth 100000 in
set_option maxHeartbeats 2000000 in
theorem c_named {p0 : Rf} {R : Bool} (h0 : F_named p0 = some R) : Pure Go.Proofs.Tryd.prog 105 [agg [pl (.int .i64 p0.Slot), pl (.int .u64 p0.Gen)]] (pl (.bool R)) := by
  intro s
  unfold F_named at h0
  refine ac_of_aw s.boxes.length s.fr.length Go.Proofs.Tryd.func105 rfl (by simp [Go.Proofs.Tryd.ntmps105]) ?_
  refine aw_ext0 ?_
  refine aw_keep [(0, _)] ⟨lg ez, trivial⟩ ?_
  refine aw_seq ?_
  refine aw_region (by decide) ?_
  refine rts _ rfl (boxAN rfl oz (bnd_cons (pl_bnd _ _ _) (bnd_cons (pl_bnd _ _ _) bnd_nil)) (by first | exact List.length_nil | (simp only [List.length_cons, List.length_nil, Nat.zero_add, Nat.reduceAdd] <;> rfl)) (by simp only [na, nb, nc, nd, nf, ng, nh, ni, nj, nk] <;> rfl)) ?_
  refine rts _ rfl (opD_assign (ev_const _ _)) ?_
  refine .nil ?_
  refine aw_keep [(1, _)] ⟨lg (ls rfl lz), trivial⟩ ?_
  refine aw_seq ?_
  refine aw_region (by decide) ?_
  refine rts _ rfl (opD_fieldAddr fo116_0_U1 oz) ?_
  refine rts _ rfl (opD_load_one ag3_U1 lz (loc_getN rfl rfl) rfl) ?_
  refine rts _ rfl (opD_lss lz (ev_const _ _)) ?_
  refine rts _ rfl (opD_move lz) ?_
  refine rtg _ rfl lz (fun hg1_4_1 => opD_fieldAddr fo116_0_U1 (ls rfl (ls rfl (ls rfl (ls rfl oz))))) ?_
  refine rtg _ rfl (ls rfl lz) (fun hg1_5_2 => opD_load_one ag3_U1 (lz.trans (pif_pos hg1_5_2)) (loc_getN rfl rfl) rfl) ?_
  refine rtg _ rfl (ls rfl (ls rfl lz)) (fun hg1_6_3 => opD_geq (lz.trans (pif_pos hg1_6_3)) (ev_const _ _)) ?_
  refine rts _ rfl (opD_or (ls rfl (ls rfl (ls rfl lz))) lz) ?_
  refine rts _ rfl (opD_move lz) ?_
  refine rtg _ rfl lz (fun hg1_9_4 => opD_fieldAddr fo116_1_U1 (ls rfl (ls rfl (ls rfl (ls rfl (ls rfl (ls rfl (ls rfl (ls rfl (ls rfl oz)))))))))) ?_
  refine rtg _ rfl (ls rfl lz) (fun hg1_10_5 => opD_load_one ag22_U1 (lz.trans (pif_pos hg1_10_5)) (loc_getN rfl rfl) rfl) ?_
  refine rtg _ rfl (ls rfl (ls rfl lz)) (fun hg1_11_6 => opD_gtr (lz.trans (pif_pos hg1_11_6)) (ev_const _ _)) ?_
  refine rts _ rfl (opD_or (ls rfl (ls rfl (ls rfl lz))) lz) ?_
  refine rts _ rfl (opD_assign lz) ?_
  refine .nil ?_
  refine aw_keep [(2, _)] ⟨lg lz, trivial⟩ ?_
  refine aw_ret ?_
  obtain rfl := some_of h0
  exact done_ext (.inr rfl) ((res_one rfl (it_tmp oz)).le (Pd.le_refl _)) (pl_bnd _ _ _)

def F_lined (p0 : Lin) : Option (Bool) :=
  some (((decide (4611686018427387904 < p0.Seq)) || (decide (4611686018427387904 < p0.Who))) || (decide (40 < (p0.Key.size : Int))))
set_option maxRecDepth 100000 in
set_option maxHeartbeats 2000000 in
theorem c_lined {p0 : Lin} {R : Bool} (h0 : F_lined p0 = some R) : Pure Go.Proofs.Tryd.prog 107 [agg [pl (.int .u64 p0.Seq), pl (.int .u64 p0.Who), pl (.int .u8 p0.What), pl (.int .u16 p0.Code), pl (.string p0.Key)]] (pl (.bool R)) := by
  intro s
  unfold F_lined at h0
  refine ac_of_aw s.boxes.length s.fr.length Go.Proofs.Tryd.func107 rfl (by simp [Go.Proofs.Tryd.ntmps107]) ?_
  refine aw_ext0 ?_
  refine aw_keep [(0, _)] ⟨lg ez, trivial⟩ ?_
  refine aw_seq ?_
  refine aw_region (by decide) ?_
  refine rts _ rfl (boxAN rfl oz (bnd_cons (pl_bnd _ _ _) (bnd_cons (pl_bnd _ _ _) (bnd_cons (pl_bnd _ _ _) (bnd_cons (pl_bnd _ _ _) (bnd_cons (pl_bnd _ _ _) bnd_nil))))) (by first | exact List.length_nil | (simp only [List.length_cons, List.length_nil, Nat.zero_add, Nat.reduceAdd] <;> rfl)) (by simp only [na, nb, nc, nd, nf, ng, nh, ni, nj, nk] <;> rfl)) ?_
  refine rts _ rfl (opD_assign (ev_const _ _)) ?_
  refine .nil ?_
  refine aw_keep [(1, _)] ⟨lg (ls rfl lz), trivial⟩ ?_
  refine aw_seq ?_
  refine aw_region (by decide) ?_
  refine rts _ rfl (opD_fieldAddr fo63_0_U1 oz) ?_
  refine rts _ rfl (opD_load_one ag22_U1 lz (loc_getN rfl rfl) rfl) ?_
  refine rts _ rfl (opD_gtr lz (ev_const _ _)) ?_
  refine rts _ rfl (opD_move lz) ?_
  refine rtg _ rfl lz (fun hg1_4_1 => opD_fieldAddr fo63_1_U1 (ls rfl (ls rfl (ls rfl (ls rfl oz))))) ?_
  refine rtg _ rfl (ls rfl lz) (fun hg1_5_2 => opD_load_one ag22_U1 (lz.trans (pif_pos hg1_5_2)) (loc_getN rfl rfl) rfl) ?_
  refine rtg _ rfl (ls rfl (ls rfl lz)) (fun hg1_6_3 => opD_gtr (lz.trans (pif_pos hg1_6_3)) (ev_const _ _)) ?_
  refine rts _ rfl (opD_or (ls rfl (ls rfl (ls rfl lz))) lz) ?_
  refine rts _ rfl (opD_move lz) ?_
  refine rtg _ rfl lz (fun hg1_9_4 => opD_fieldAddr fo63_4_U1 (ls rfl (ls rfl (ls rfl (ls rfl (ls rfl (ls rfl (ls rfl (ls rfl (ls rfl oz)))))))))) ?_
  refine rtg _ rfl (ls rfl lz) (fun hg1_10_5 => opD_load_one ag9_U1 (lz.trans (pif_pos hg1_10_5)) (loc_getN rfl rfl) rfl) ?_
  refine rtg _ rfl (ls rfl (ls rfl lz)) (fun hg1_11_6 => opD_len_str Go.Proofs.Tryd.underlying9 (lz.trans (pif_pos hg1_11_6))) ?_
  refine rtg _ rfl (ls rfl (ls rfl (ls rfl lz))) (fun hg1_12_7 => opD_gtr (lz.trans (pif_pos hg1_12_7)) (ev_const _ _)) ?_
  refine rts _ rfl (opD_or (ls rfl (ls rfl (ls rfl (ls rfl lz)))) lz) ?_
  refine rts _ rfl (opD_assign lz) ?_
  refine .nil ?_
  refine aw_keep [(2, _)] ⟨lg lz, trivial⟩ ?_
  refine aw_ret ?_
  obtain rfl := some_of h0
  exact done_ext (.inr rfl) ((res_one rfl (it_tmp oz)).le (Pd.le_refl _)) (pl_bnd _ _ _)

def F_flag (p0 : Bool) : Option (Int) :=
  ifb p0 (some 1) (some 0)
set_option maxRecDepth 100000 in
set_option maxHeartbeats 2000000 in
theorem c_flag {p0 : Bool} {R : Int} (h0 : F_flag p0 = some R) : Pure Go.Proofs.Tryd.prog 97 [pl (.bool p0)] (pl (.int .u8 R)) := by
  intro s
  unfold F_flag at h0
  refine ac_of_aw s.boxes.length s.fr.length Go.Proofs.Tryd.func97 rfl (by simp [Go.Proofs.Tryd.ntmps97]) ?_
  refine aw_ext0 ?_
  refine aw_keep [(0, _)] ⟨lg ez, trivial⟩ ?_
  refine aw_seq ?_
  refine aw_region (by decide) ?_
  refine rts _ rfl (opD_assign (ev_const _ _)) ?_
  refine .nil ?_
  refine aw_keep [(0, _)] ⟨lg (ls rfl oz), trivial⟩ ?_
  refine aw_seq ?_
  refine aw_seq ?_
  refine aw_region (by decide) ?_
  refine rts _ rfl (opD_move oz) ?_
  refine .nil ?_
  refine aw_keep [(3, _)] ⟨lg lz, trivial⟩ ?_
  refine aw_cond _ oz (fun hc => ?_) (fun hc => ?_)
  · skip
    replace h0 := ifb_t h0 hc
    clear hc
    refine aw_seq ?_
    refine aw_region (by decide) ?_
    refine rts _ rfl (opD_assign (ev_const _ _)) ?_
    refine .nil ?_
    refine aw_keep [(2, _)] ⟨lg lz, trivial⟩ ?_
    refine aw_ret ?_
    obtain rfl := some_of h0
    exact done_ext (.inr rfl) ((res_one rfl (it_tmp oz)).le (Pd.le_refl _)) (pl_bnd _ _ _)
  · skip
    replace h0 := ifb_f h0 hc
    clear hc
    refine aw_skip ?_
    refine aw_keep [] trivial ?_
    refine aw_seq ?_
    refine aw_region (by decide) ?_
    refine rts _ rfl (opD_assign (ev_const _ _)) ?_
    refine .nil ?_
    refine aw_keep [(2, _)] ⟨lg lz, trivial⟩ ?_
    refine aw_ret ?_
    obtain rfl := some_of h0
    exact done_ext (.inr rfl) ((res_one rfl (it_tmp oz)).le (Pd.le_refl _)) (pl_bnd _ _ _)

def F_idxE_b0 (p0 : (List Ent)) (t_2 : Int) : Option ((Int) ⊕ ((Int) ⊕ (Unit))) :=
  ifb (decide (t_2 < (p0.length : Int))) (ixb p0 t_2 fun x_4 => bnd (F_rowed x_4) fun x_5 => ifb x_5 (some (.inr (.inl t_2))) (some (.inl (IntKind.i64.wrap (t_2 + 1))))) (some (.inr (.inr ())))
def F_idxE (fl : Nat) (p0 : (List Ent)) : Option (Int) :=
  bnd (lp (F_idxE_b0 p0) fl 0) fun z_1 => ocs z_1 (fun qz_1_0 => some qz_1_0) fun z_1_0 => some (-1)
set_option maxRecDepth 100000 in
set_option maxHeartbeats 2000000 in
theorem c_idxE {fl : Nat} {p0 : (List Ent)} {R : Int} (h0 : F_idxE fl p0 = some R) : Pure Go.Proofs.Tryd.prog 124 [sl kEnt none none p0, pl (.func (.func 103) #[] #[])] (pl (.int .i64 R)) := by
  intro s
  unfold F_idxE at h0
  refine ac_of_aw s.boxes.length s.fr.length Go.Proofs.Tryd.func124 rfl (by simp [Go.Proofs.Tryd.ntmps124]) ?_
  refine aw_ext0 ?_
  refine aw_keep [(0, _), (1, _)] ⟨lg ez, lg (es ez), trivial⟩ ?_
  refine aw_seq ?_
  refine aw_region (by decide) ?_
  refine rts _ rfl (opD_assign (ev_const _ _)) ?_
  refine .nil ?_
  refine aw_keep [(0, _), (1, _)] ⟨lg (ls rfl oz), lg (ls rfl (os rfl oz)), trivial⟩ ?_
  refine aw_seq ?_
  refine aw_seq ?_
  refine aw_region (by decide) ?_
  refine rts _ rfl (opD_move oz) ?_
  refine rts _ rfl (opD_len_sl Go.Proofs.Tryd.underlying91 lz) ?_
  refine rts _ rfl (opD_move (ev_const _ _)) ?_
  refine .nil ?_
  refine aw_keep [(0, _), (1, _), (7, _), (8, _)] ⟨lg (ls rfl (ls rfl (ls rfl oz))), lg (ls rfl (ls rfl (ls rfl (os rfl oz)))), lg (ls rfl lz), lg lz, trivial⟩ ?_
  replace h0 := bnd_some h0
  obtain ⟨z_1, hz_1, h0⟩ := h0
  refine aw_mid (fun e st => ∃ v : Unit, Holds e [] ∧ st = s.ext [] [] ∧ (.inr v) = z_1) ?_ ?_
  · skip
    refine aw_wkN rfl 0 0 rfl rfl ?_
    refine aw_block ?_
    refine aw_loop (fun n e st => ∃ v : Int, Holds e [(0, sl kEnt none none p0), (1, pl (.func (.func 103) #[] #[])), (7, pl (.int .i64 (p0.length : Int))), (8, pl (.int .i64 v))] ∧ st = s.ext [] [] ∧ lp (F_idxE_b0 p0) n v = some z_1) fl ⟨0, ⟨le_of_eq (eg oz), le_of_eq (eg (os rfl oz)), le_of_eq (eg (os rfl (os rfl oz))), le_of_eq (eg (os rfl (os rfl (os rfl oz)))), trivial⟩, rfl, hz_1⟩ ?_
    rintro n e st ⟨t_2, hH, rfl, hz_1⟩
    replace hz_1 := lp_some hz_1
    obtain ⟨m_z_3, z_3, rfl, hz_3, hz_1⟩ := hz_1
    unfold F_idxE_b0 at hz_3
    refine aw_keep _ hH ?_
    refine aw_wkN rfl 0 0 rfl rfl ?_
    refine aw_seq ?_
    refine aw_region (by decide) ?_
    refine rts _ rfl (opD_lss (os rfl (os rfl (os rfl oz))) (os rfl (os rfl oz))) ?_
    refine .nil ?_
    refine aw_keep [(0, _), (1, _), (7, _), (8, _), (9, _)] ⟨lg (ls rfl oz), lg (ls rfl (os rfl oz)), lg (ls rfl (os rfl (os rfl oz))), lg (ls rfl (os rfl (os rfl (os rfl oz)))), lg lz, trivial⟩ ?_
    refine aw_seq ?_
    refine aw_cond _ (os rfl (os rfl (os rfl (os rfl oz)))) (fun hc => ?_) (fun hc => ?_)
    · skip
      replace hz_3 := ifb_t hz_3 hc
      clear hc
      refine aw_skip ?_
      refine aw_keep [(0, _), (1, _), (7, _), (8, _)] ⟨lg oz, lg (os rfl oz), lg (os rfl (os rfl oz)), lg (os rfl (os rfl (os rfl oz))), trivial⟩ ?_
      refine aw_seq ?_
      refine aw_block ?_
      refine aw_seq ?_
      refine aw_region (by decide) ?_
      refine rts _ rfl (opD_move (os rfl (os rfl (os rfl oz)))) ?_
      refine rts _ rfl (opD_assign lz) ?_
      refine .nil ?_
      refine aw_keep [(0, _), (1, _), (5, _), (7, _), (8, _)] ⟨lg (ls rfl (ls rfl oz)), lg (ls rfl (ls rfl (os rfl oz))), lg lz, lg (ls rfl (ls rfl (os rfl (os rfl oz)))), lg (ls rfl (ls rfl (os rfl (os rfl (os rfl oz))))), trivial⟩ ?_
      refine aw_seq ?_
      refine aw_region (by decide) ?_
      refine rts _ rfl (opD_move (os rfl oz)) ?_
      refine rts _ rfl (opD_move (ls rfl oz)) ?_
      refine rts _ rfl (opD_move (ls rfl (ls rfl (os rfl (os rfl oz))))) ?_
      replace hz_3 := ixb_some hz_3
      obtain ⟨x_4, hx_4, hbx_4, hz_3⟩ := hz_3
      refine rts _ rfl (opD_indexAddr_sl (i := t_2.toNat) Go.Proofs.Tryd.underlying91 sz109_U1 (ls rfl lz) lz hbx_4.2.2 hbx_4.2.1) ?_
      refine rts _ rfl (opD_load_el_aggX (qs := [_, _]) ag109_U1 sz109_U1 lz hx_4 (Nat.le_of_ble_eq_true rfl) rfl) ?_
      replace hz_3 := bnd_some hz_3
      obtain ⟨x_5, hx_5, hz_3⟩ := hz_3
      refine rts _ rfl (opD_pureD (ls rfl (ls rfl (ls rfl (ls rfl lz)))) ht103_U1 (c_rowed hx_5) ⟨(le_of_eq lz).trans (agg_le ⟨(Pd.le_refl _), (Pd.le_refl _), trivial⟩), trivial⟩) ?_
      refine .nil ?_
      refine aw_keep [(0, _), (1, _), (5, _), (7, _), (8, _), (16, _)] ⟨lg (ls rfl (ls rfl (ls rfl (ls rfl (ls rfl (ls rfl oz)))))), lg (ls rfl (ls rfl (ls rfl (ls rfl (ls rfl (ls rfl (os rfl oz))))))), lg (ls rfl (ls rfl (ls rfl (ls rfl (ls rfl (ls rfl (os rfl (os rfl oz)))))))), lg (ls rfl (ls rfl (ls rfl (ls rfl (ls rfl (ls rfl (os rfl (os rfl (os rfl oz))))))))), lg (ls rfl (ls rfl (ls rfl (ls rfl (ls rfl (ls rfl (os rfl (os rfl (os rfl (os rfl oz)))))))))), lg lz, trivial⟩ ?_
      refine aw_cond _ (os rfl (os rfl (os rfl (os rfl (os rfl oz))))) (fun hc => ?_) (fun hc => ?_)
      · skip
        replace hz_3 := ifb_t hz_3 hc
        clear hc
        refine aw_seq ?_
        refine aw_region (by decide) ?_
        refine rts _ rfl (opD_move (os rfl (os rfl oz))) ?_
        refine rts _ rfl (opD_assign lz) ?_
        refine .nil ?_
        refine aw_keep [(4, _)] ⟨lg lz, trivial⟩ ?_
        refine aw_ret ?_
        obtain rfl := some_of hz_3
        replace hz_1 := ocs_r hz_1
        obtain rfl := some_of hz_1
        replace h0 := ocs_l h0
        refine wk_no ?_
        refine wk_no ?_
        obtain rfl := some_of h0
        exact done_ext (.inr rfl) ((res_one rfl (it_tmp oz)).le (Pd.le_refl _)) (pl_bnd _ _ _)
      · skip
        replace hz_3 := ifb_f hz_3 hc
        clear hc
        refine aw_skip ?_
        refine aw_keep [(0, _), (1, _), (7, _), (8, _)] ⟨lg oz, lg (os rfl oz), lg (os rfl (os rfl (os rfl oz))), lg (os rfl (os rfl (os rfl (os rfl oz)))), trivial⟩ ?_
        refine aw_region (by decide) ?_
        refine rts _ rfl (opD_add (os rfl (os rfl (os rfl oz))) (ev_const _ _) rfl) ?_
        refine rts _ rfl (opD_move lz) ?_
        refine .nil ?_
        obtain rfl := some_of hz_3
        replace hz_1 := ocs_l hz_1
        refine wk_yesN rfl (l := [(0, sl kEnt none none p0), (1, pl (.func (.func 103) #[] #[])), (7, pl (.int .i64 (p0.length : Int))), (8, pl (.int .i64 (IntKind.i64.wrap (t_2 + 1))))]) (bs' := []) ⟨le_of_eq (eg (ls rfl (ls rfl oz))), le_of_eq (eg (ls rfl (ls rfl (os rfl oz)))), le_of_eq (eg (ls rfl (ls rfl (os rfl (os rfl oz))))), le_of_eq (eg lz), trivial⟩ (bnd_cons (sl_b kb_Ent) (bnd_cons (pl_bnd _ _ _) (bnd_cons (pl_bnd _ _ _) (bnd_cons (pl_bnd _ _ _) bnd_nil)))) (Nat.le_of_ble_eq_true rfl) (by simp only [na, nb, nc, nd, nf, ng, nh, ni, nj, nk] <;> rfl) bxle_nil rfl (by simp only [na, nb, nc, nd, nf, ng, nh, ni, nj, nk] <;> rfl) bl_nil ?_
        exact ⟨m_z_3, Nat.lt_succ_self _, IntKind.i64.wrap (t_2 + 1), ⟨le_of_eq (eg oz), le_of_eq (eg (os rfl oz)), le_of_eq (eg (os rfl (os rfl oz))), le_of_eq (eg (os rfl (os rfl (os rfl oz)))), trivial⟩, rfl, hz_1⟩
    · skip
      replace hz_3 := ifb_f hz_3 hc
      clear hc
      refine aw_exit ?_
      obtain rfl := some_of hz_3
      replace hz_1 := ocs_r hz_1
      refine wk_no ?_
      refine wk_yesN rfl (l := []) (bs' := []) trivial bnd_nil (Nat.le_of_ble_eq_true rfl) (by simp only [na, nb, nc, nd, nf, ng, nh, ni, nj, nk] <;> rfl) bxle_nil rfl (by simp only [na, nb, nc, nd, nf, ng, nh, ni, nj, nk] <;> rfl) bl_nil ?_
      exact ⟨(), trivial, rfl, some_of hz_1⟩
  · rintro e st ⟨vz_1, hH, rfl, rfl⟩
    refine aw_keep _ hH ?_
    replace h0 := ocs_r h0
    refine aw_keep [] trivial ?_
    refine aw_seq ?_
    refine aw_region (by decide) ?_
    refine rts _ rfl (opD_assign (ev_const _ _)) ?_
    refine .nil ?_
    refine aw_keep [(4, _)] ⟨lg lz, trivial⟩ ?_
    refine aw_ret ?_
    obtain rfl := some_of h0
    exact done_ext (.inr rfl) ((res_one rfl (it_tmp oz)).le (Pd.le_refl _)) (pl_bnd _ _ _)

def F_hasE (fl : Nat) (p0 : (List Ent)) : Option (Bool) :=
  bnd (F_idxE fl p0) fun x_1 => some (decide (0 ≤ x_1))
set_option maxRecDepth 100000 in
set_option maxHeartbeats 2000000 in
theorem c_hasE {fl : Nat} {p0 : (List Ent)} {R : Bool} (h0 : F_hasE fl p0 = some R) : Pure Go.Proofs.Tryd.prog 102 [sl kEnt none none p0, pl (.func (.func 103) #[] #[])] (pl (.bool R)) := by
  intro s
  unfold F_hasE at h0
  refine ac_of_aw s.boxes.length s.fr.length Go.Proofs.Tryd.func102 rfl (by simp [Go.Proofs.Tryd.ntmps102]) ?_
  refine aw_ext0 ?_
  refine aw_keep [(0, _), (1, _)] ⟨lg ez, lg (es ez), trivial⟩ ?_
  refine aw_seq ?_
  refine aw_region (by decide) ?_
  refine rts _ rfl (opD_assign (ev_const _ _)) ?_
  refine .nil ?_
  refine aw_keep [(0, _), (1, _)] ⟨lg (ls rfl oz), lg (ls rfl (os rfl oz)), trivial⟩ ?_
  refine aw_seq ?_
  refine aw_region (by decide) ?_
  refine rts _ rfl (opD_move oz) ?_
  refine rts _ rfl (opD_move (ls rfl (os rfl oz))) ?_
  replace h0 := bnd_some h0
  obtain ⟨x_1, hx_1, h0⟩ := h0
  refine rts _ rfl (opD_pure ht124_U1 (c_idxE hx_1) ⟨le_of_eq (ls rfl lz), le_of_eq lz, trivial⟩) ?_
  refine rts _ rfl (opD_geq lz (ev_const _ _)) ?_
  refine rts _ rfl (opD_assign lz) ?_
  refine .nil ?_
  refine aw_keep [(4, _)] ⟨lg lz, trivial⟩ ?_
  refine aw_ret ?_
  obtain rfl := some_of h0
  exact done_ext (.inr rfl) ((res_one rfl (it_tmp oz)).le (Pd.le_refl _)) (pl_bnd _ _ _)

def F_idxF_b0 (p0 : (List Rf)) (t_2 : Int) : Option ((Int) ⊕ ((Int) ⊕ (Unit))) :=
  ifb (decide (t_2 < (p0.length : Int))) (ixb p0 t_2 fun x_4 => bnd (F_named x_4) fun x_5 => ifb x_5 (some (.inr (.inl t_2))) (some (.inl (IntKind.i64.wrap (t_2 + 1))))) (some (.inr (.inr ())))
def F_idxF (fl : Nat) (p0 : (List Rf)) : Option (Int) :=
  bnd (lp (F_idxF_b0 p0) fl 0) fun z_1 => ocs z_1 (fun qz_1_0 => some qz_1_0) fun z_1_0 => some (-1)
set_option maxRecDepth 100000 in
set_option maxHeartbeats 2000000 in
theorem c_idxF {fl : Nat} {p0 : (List Rf)} {R : Int} (h0 : F_idxF fl p0 = some R) : Pure Go.Proofs.Tryd.prog 125 [sl kRf none none p0, pl (.func (.func 105) #[] #[])] (pl (.int .i64 R)) := by
  intro s
  unfold F_idxF at h0
  refine ac_of_aw s.boxes.length s.fr.length Go.Proofs.Tryd.func125 rfl (by simp [Go.Proofs.Tryd.ntmps125]) ?_
  refine aw_ext0 ?_
  refine aw_keep [(0, _), (1, _)] ⟨lg ez, lg (es ez), trivial⟩ ?_
  refine aw_seq ?_
  refine aw_region (by decide) ?_
  refine rts _ rfl (opD_assign (ev_const _ _)) ?_
  refine .nil ?_
  refine aw_keep [(0, _), (1, _)] ⟨lg (ls rfl oz), lg (ls rfl (os rfl oz)), trivial⟩ ?_
  refine aw_seq ?_
  refine aw_seq ?_
  refine aw_region (by decide) ?_
  refine rts _ rfl (opD_move oz) ?_
  refine rts _ rfl (opD_len_sl Go.Proofs.Tryd.underlying92 lz) ?_
  refine rts _ rfl (opD_move (ev_const _ _)) ?_
  refine .nil ?_
  refine aw_keep [(0, _), (1, _), (7, _), (8, _)] ⟨lg (ls rfl (ls rfl (ls rfl oz))), lg (ls rfl (ls rfl (ls rfl (os rfl oz)))), lg (ls rfl lz), lg lz, trivial⟩ ?_
  replace h0 := bnd_some h0
  obtain ⟨z_1, hz_1, h0⟩ := h0
  refine aw_mid (fun e st => ∃ v : Unit, Holds e [] ∧ st = s.ext [] [] ∧ (.inr v) = z_1) ?_ ?_
  · skip
    refine aw_wkN rfl 0 0 rfl rfl ?_
    refine aw_block ?_
    refine aw_loop (fun n e st => ∃ v : Int, Holds e [(0, sl kRf none none p0), (1, pl (.func (.func 105) #[] #[])), (7, pl (.int .i64 (p0.length : Int))), (8, pl (.int .i64 v))] ∧ st = s.ext [] [] ∧ lp (F_idxF_b0 p0) n v = some z_1) fl ⟨0, ⟨le_of_eq (eg oz), le_of_eq (eg (os rfl oz)), le_of_eq (eg (os rfl (os rfl oz))), le_of_eq (eg (os rfl (os rfl (os rfl oz)))), trivial⟩, rfl, hz_1⟩ ?_
    rintro n e st ⟨t_2, hH, rfl, hz_1⟩
    replace hz_1 := lp_some hz_1
    obtain ⟨m_z_3, z_3, rfl, hz_3, hz_1⟩ := hz_1
    unfold F_idxF_b0 at hz_3
    refine aw_keep _ hH ?_
    refine aw_wkN rfl 0 0 rfl rfl ?_
    refine aw_seq ?_
    refine aw_region (by decide) ?_
    refine rts _ rfl (opD_lss (os rfl (os rfl (os rfl oz))) (os rfl (os rfl oz))) ?_
    refine .nil ?_
    refine aw_keep [(0, _), (1, _), (7, _), (8, _), (9, _)] ⟨lg (ls rfl oz), lg (ls rfl (os rfl oz)), lg (ls rfl (os rfl (os rfl oz))), lg (ls rfl (os rfl (os rfl (os rfl oz)))), lg lz, trivial⟩ ?_
    refine aw_seq ?_
    refine aw_cond _ (os rfl (os rfl (os rfl (os rfl oz)))) (fun hc => ?_) (fun hc => ?_)
    · skip
      replace hz_3 := ifb_t hz_3 hc
      clear hc
      refine aw_skip ?_
      refine aw_keep [(0, _), (1, _), (7, _), (8, _)] ⟨lg oz, lg (os rfl oz), lg (os rfl (os rfl oz)), lg (os rfl (os rfl (os rfl oz))), trivial⟩ ?_
      refine aw_seq ?_
      refine aw_block ?_
      refine aw_seq ?_
      refine aw_region (by decide) ?_
      refine rts _ rfl (opD_move (os rfl (os rfl (os rfl oz)))) ?_
      refine rts _ rfl (opD_assign lz) ?_
      refine .nil ?_
      refine aw_keep [(0, _), (1, _), (5, _), (7, _), (8, _)] ⟨lg (ls rfl (ls rfl oz)), lg (ls rfl (ls rfl (os rfl oz))), lg lz, lg (ls rfl (ls rfl (os rfl (os rfl oz)))), lg (ls rfl (ls rfl (os rfl (os rfl (os rfl oz))))), trivial⟩ ?_
      refine aw_seq ?_
      refine aw_region (by decide) ?_
      refine rts _ rfl (opD_move (os rfl oz)) ?_
      refine rts _ rfl (opD_move (ls rfl oz)) ?_
      refine rts _ rfl (opD_move (ls rfl (ls rfl (os rfl (os rfl oz))))) ?_
      replace hz_3 := ixb_some hz_3
      obtain ⟨x_4, hx_4, hbx_4, hz_3⟩ := hz_3
      refine rts _ rfl (opD_indexAddr_sl (i := t_2.toNat) Go.Proofs.Tryd.underlying92 sz116_U1 (ls rfl lz) lz hbx_4.2.2 hbx_4.2.1) ?_
      refine rts _ rfl (opD_load_el_aggX (qs := [_, _]) ag116_U1 sz116_U1 lz hx_4 (Nat.le_of_ble_eq_true rfl) rfl) ?_
      replace hz_3 := bnd_some hz_3
      obtain ⟨x_5, hx_5, hz_3⟩ := hz_3
      refine rts _ rfl (opD_pureD (ls rfl (ls rfl (ls rfl (ls rfl lz)))) ht105_U1 (c_named hx_5) ⟨(le_of_eq lz).trans (agg_le ⟨(Pd.le_refl _), (Pd.le_refl _), trivial⟩), trivial⟩) ?_
      refine .nil ?_
      refine aw_keep [(0, _), (1, _), (5, _), (7, _), (8, _), (16, _)] ⟨lg (ls rfl (ls rfl (ls rfl (ls rfl (ls rfl (ls rfl oz)))))), lg (ls rfl (ls rfl (ls rfl (ls rfl (ls rfl (ls rfl (os rfl oz))))))), lg (ls rfl (ls rfl (ls rfl (ls rfl (ls rfl (ls rfl (os rfl (os rfl oz)))))))), lg (ls rfl (ls rfl (ls rfl (ls rfl (ls rfl (ls rfl (os rfl (os rfl (os rfl oz))))))))), lg (ls rfl (ls rfl (ls rfl (ls rfl (ls rfl (ls rfl (os rfl (os rfl (os rfl (os rfl oz)))))))))), lg lz, trivial⟩ ?_
      refine aw_cond _ (os rfl (os rfl (os rfl (os rfl (os rfl oz))))) (fun hc => ?_) (fun hc => ?_)
      · skip
        replace hz_3 := ifb_t hz_3 hc
        clear hc
        refine aw_seq ?_
        refine aw_region (by decide) ?_
        refine rts _ rfl (opD_move (os rfl (os rfl oz))) ?_
        refine rts _ rfl (opD_assign lz) ?_
        refine .nil ?_
        refine aw_keep [(4, _)] ⟨lg lz, trivial⟩ ?_
        refine aw_ret ?_
        obtain rfl := some_of hz_3
        replace hz_1 := ocs_r hz_1
        obtain rfl := some_of hz_1
        replace h0 := ocs_l h0
        refine wk_no ?_
        refine wk_no ?_
        obtain rfl := some_of h0
        exact done_ext (.inr rfl) ((res_one rfl (it_tmp oz)).le (Pd.le_refl _)) (pl_bnd _ _ _)
      · skip
        replace hz_3 := ifb_f hz_3 hc
        clear hc
        refine aw_skip ?_
        refine aw_keep [(0, _), (1, _), (7, _), (8, _)] ⟨lg oz, lg (os rfl oz), lg (os rfl (os rfl (os rfl oz))), lg (os rfl (os rfl (os rfl (os rfl oz)))), trivial⟩ ?_
        refine aw_region (by decide) ?_
        refine rts _ rfl (opD_add (os rfl (os rfl (os rfl oz))) (ev_const _ _) rfl) ?_
        refine rts _ rfl (opD_move lz) ?_
        refine .nil ?_
        obtain rfl := some_of hz_3
        replace hz_1 := ocs_l hz_1
        refine wk_yesN rfl (l := [(0, sl kRf none none p0), (1, pl (.func (.func 105) #[] #[])), (7, pl (.int .i64 (p0.length : Int))), (8, pl (.int .i64 (IntKind.i64.wrap (t_2 + 1))))]) (bs' := []) ⟨le_of_eq (eg (ls rfl (ls rfl oz))), le_of_eq (eg (ls rfl (ls rfl (os rfl oz)))), le_of_eq (eg (ls rfl (ls rfl (os rfl (os rfl oz))))), le_of_eq (eg lz), trivial⟩ (bnd_cons (sl_b kb_Rf) (bnd_cons (pl_bnd _ _ _) (bnd_cons (pl_bnd _ _ _) (bnd_cons (pl_bnd _ _ _) bnd_nil)))) (Nat.le_of_ble_eq_true rfl) (by simp only [na, nb, nc, nd, nf, ng, nh, ni, nj, nk] <;> rfl) bxle_nil rfl (by simp only [na, nb, nc, nd, nf, ng, nh, ni, nj, nk] <;> rfl) bl_nil ?_
        exact ⟨m_z_3, Nat.lt_succ_self _, IntKind.i64.wrap (t_2 + 1), ⟨le_of_eq (eg oz), le_of_eq (eg (os rfl oz)), le_of_eq (eg (os rfl (os rfl oz))), le_of_eq (eg (os rfl (os rfl (os rfl oz)))), trivial⟩, rfl, hz_1⟩
    · skip
      replace hz_3 := ifb_f hz_3 hc
      clear hc
      refine aw_exit ?_
      obtain rfl := some_of hz_3
      replace hz_1 := ocs_r hz_1
      refine wk_no ?_
      refine wk_yesN rfl (l := []) (bs' := []) trivial bnd_nil (Nat.le_of_ble_eq_true rfl) (by simp only [na, nb, nc, nd, nf, ng, nh, ni, nj, nk] <;> rfl) bxle_nil rfl (by simp only [na, nb, nc, nd, nf, ng, nh, ni, nj, nk] <;> rfl) bl_nil ?_
      exact ⟨(), trivial, rfl, some_of hz_1⟩
  · rintro e st ⟨vz_1, hH, rfl, rfl⟩
    refine aw_keep _ hH ?_
    replace h0 := ocs_r h0
    refine aw_keep [] trivial ?_
    refine aw_seq ?_
    refine aw_region (by decide) ?_
    refine rts _ rfl (opD_assign (ev_const _ _)) ?_
    refine .nil ?_
    refine aw_keep [(4, _)] ⟨lg lz, trivial⟩ ?_
    refine aw_ret ?_
    obtain rfl := some_of h0
    exact done_ext (.inr rfl) ((res_one rfl (it_tmp oz)).le (Pd.le_refl _)) (pl_bnd _ _ _)

def F_hasF (fl : Nat) (p0 : (List Rf)) : Option (Bool) :=
  bnd (F_idxF fl p0) fun x_1 => some (decide (0 ≤ x_1))
set_option maxRecDepth 100000 in
set_option maxHeartbeats 2000000 in
theorem c_hasF {fl : Nat} {p0 : (List Rf)} {R : Bool} (h0 : F_hasF fl p0 = some R) : Pure Go.Proofs.Tryd.prog 104 [sl kRf none none p0, pl (.func (.func 105) #[] #[])] (pl (.bool R)) := by
  intro s
  unfold F_hasF at h0
  refine ac_of_aw s.boxes.length s.fr.length Go.Proofs.Tryd.func104 rfl (by simp [Go.Proofs.Tryd.ntmps104]) ?_
  refine aw_ext0 ?_
  refine aw_keep [(0, _), (1, _)] ⟨lg ez, lg (es ez), trivial⟩ ?_
  refine aw_seq ?_
  refine aw_region (by decide) ?_
  refine rts _ rfl (opD_assign (ev_const _ _)) ?_
  refine .nil ?_
  refine aw_keep [(0, _), (1, _)] ⟨lg (ls rfl oz), lg (ls rfl (os rfl oz)), trivial⟩ ?_
  refine aw_seq ?_
  refine aw_region (by decide) ?_
  refine rts _ rfl (opD_move oz) ?_
  refine rts _ rfl (opD_move (ls rfl (os rfl oz))) ?_
  replace h0 := bnd_some h0
  obtain ⟨x_1, hx_1, h0⟩ := h0
  refine rts _ rfl (opD_pure ht125_U1 (c_idxF hx_1) ⟨le_of_eq (ls rfl lz), le_of_eq lz, trivial⟩) ?_
  refine rts _ rfl (opD_geq lz (ev_const _ _)) ?_
  refine rts _ rfl (opD_assign lz) ?_
  refine .nil ?_
  refine aw_keep [(4, _)] ⟨lg lz, trivial⟩ ?_
  refine aw_ret ?_
  obtain rfl := some_of h0
  exact done_ext (.inr rfl) ((res_one rfl (it_tmp oz)).le (Pd.le_refl _)) (pl_bnd _ _ _)

def F_idxL_b0 (p0 : (List Lin)) (t_2 : Int) : Option ((Int) ⊕ ((Int) ⊕ (Unit))) :=
  ifb (decide (t_2 < (p0.length : Int))) (ixb p0 t_2 fun x_4 => bnd (F_lined x_4) fun x_5 => ifb x_5 (some (.inr (.inl t_2))) (some (.inl (IntKind.i64.wrap (t_2 + 1))))) (some (.inr (.inr ())))
def F_idxL (fl : Nat) (p0 : (List Lin)) : Option (Int) :=
  bnd (lp (F_idxL_b0 p0) fl 0) fun z_1 => ocs z_1 (fun qz_1_0 => some qz_1_0) fun z_1_0 => some (-1)
set_option maxRecDepth 100000 in
set_option maxHeartbeats 2000000 in
theorem c_idxL {fl : Nat} {p0 : (List Lin)} {R : Int} (h0 : F_idxL fl p0 = some R) : Pure Go.Proofs.Tryd.prog 126 [sl kLin none none p0, pl (.func (.func 107) #[] #[])] (pl (.int .i64 R)) := by
  intro s
  unfold F_idxL at h0
  refine ac_of_aw s.boxes.length s.fr.length Go.Proofs.Tryd.func126 rfl (by simp [Go.Proofs.Tryd.ntmps126]) ?_
  refine aw_ext0 ?_
  refine aw_keep [(0, _), (1, _)] ⟨lg ez, lg (es ez), trivial⟩ ?_
  refine aw_seq ?_
  refine aw_region (by decide) ?_
  refine rts _ rfl (opD_assign (ev_const _ _)) ?_
  refine .nil ?_
  refine aw_keep [(0, _), (1, _)] ⟨lg (ls rfl oz), lg (ls rfl (os rfl oz)), trivial⟩ ?_
  refine aw_seq ?_
  refine aw_seq ?_
  refine aw_region (by decide) ?_
  refine rts _ rfl (opD_move oz) ?_
  refine rts _ rfl (opD_len_sl Go.Proofs.Tryd.underlying55 lz) ?_
  refine rts _ rfl (opD_move (ev_const _ _)) ?_
  refine .nil ?_
  refine aw_keep [(0, _), (1, _), (7, _), (8, _)] ⟨lg (ls rfl (ls rfl (ls rfl oz))), lg (ls rfl (ls rfl (ls rfl (os rfl oz)))), lg (ls rfl lz), lg lz, trivial⟩ ?_
  replace h0 := bnd_some h0
  obtain ⟨z_1, hz_1, h0⟩ := h0
  refine aw_mid (fun e st => ∃ v : Unit, Holds e [] ∧ st = s.ext [] [] ∧ (.inr v) = z_1) ?_ ?_
  · skip
    refine aw_wkN rfl 0 0 rfl rfl ?_
    refine aw_block ?_
    refine aw_loop (fun n e st => ∃ v : Int, Holds e [(0, sl kLin none none p0), (1, pl (.func (.func 107) #[] #[])), (7, pl (.int .i64 (p0.length : Int))), (8, pl (.int .i64 v))] ∧ st = s.ext [] [] ∧ lp (F_idxL_b0 p0) n v = some z_1) fl ⟨0, ⟨le_of_eq (eg oz), le_of_eq (eg (os rfl oz)), le_of_eq (eg (os rfl (os rfl oz))), le_of_eq (eg (os rfl (os rfl (os rfl oz)))), trivial⟩, rfl, hz_1⟩ ?_
    rintro n e st ⟨t_2, hH, rfl, hz_1⟩
    replace hz_1 := lp_some hz_1
    obtain ⟨m_z_3, z_3, rfl, hz_3, hz_1⟩ := hz_1
    unfold F_idxL_b0 at hz_3
    refine aw_keep _ hH ?_
    refine aw_wkN rfl 0 0 rfl rfl ?_
    refine aw_seq ?_
    refine aw_region (by decide) ?_
    refine rts _ rfl (opD_lss (os rfl (os rfl (os rfl oz))) (os rfl (os rfl oz))) ?_
    refine .nil ?_
    refine aw_keep [(0, _), (1, _), (7, _), (8, _), (9, _)] ⟨lg (ls rfl oz), lg (ls rfl (os rfl oz)), lg (ls rfl (os rfl (os rfl oz))), lg (ls rfl (os rfl (os rfl (os rfl oz)))), lg lz, trivial⟩ ?_
    refine aw_seq ?_
    refine aw_cond _ (os rfl (os rfl (os rfl (os rfl oz)))) (fun hc => ?_) (fun hc => ?_)
    · skip
      replace hz_3 := ifb_t hz_3 hc
      clear hc
      refine aw_skip ?_
      refine aw_keep [(0, _), (1, _), (7, _), (8, _)] ⟨lg oz, lg (os rfl oz), lg (os rfl (os rfl oz)), lg (os rfl (os rfl (os rfl oz))), trivial⟩ ?_
      refine aw_seq ?_
      refine aw_block ?_
      refine aw_seq ?_
      refine aw_region (by decide) ?_
      refine rts _ rfl (opD_move (os rfl (os rfl (os rfl oz)))) ?_
      refine rts _ rfl (opD_assign lz) ?_
      refine .nil ?_
      refine aw_keep [(0, _), (1, _), (5, _), (7, _), (8, _)] ⟨lg (ls rfl (ls rfl oz)), lg (ls rfl (ls rfl (os rfl oz))), lg lz, lg (ls rfl (ls rfl (os rfl (os rfl oz)))), lg (ls rfl (ls rfl (os rfl (os rfl (os rfl oz))))), trivial⟩ ?_
      refine aw_seq ?_
      refine aw_region (by decide) ?_
      refine rts _ rfl (opD_move (os rfl oz)) ?_
      refine rts _ rfl (opD_move (ls rfl oz)) ?_
      refine rts _ rfl (opD_move (ls rfl (ls rfl (os rfl (os rfl oz))))) ?_
      replace hz_3 := ixb_some hz_3
      obtain ⟨x_4, hx_4, hbx_4, hz_3⟩ := hz_3
      refine rts _ rfl (opD_indexAddr_sl (i := t_2.toNat) Go.Proofs.Tryd.underlying55 sz63_U1 (ls rfl lz) lz hbx_4.2.2 hbx_4.2.1) ?_
      refine rts _ rfl (opD_load_el_aggX (qs := [_, _, _, _, _]) ag63_U1 sz63_U1 lz hx_4 (Nat.le_of_ble_eq_true rfl) rfl) ?_
      replace hz_3 := bnd_some hz_3
      obtain ⟨x_5, hx_5, hz_3⟩ := hz_3
      refine rts _ rfl (opD_pureD (ls rfl (ls rfl (ls rfl (ls rfl lz)))) ht107_U1 (c_lined hx_5) ⟨(le_of_eq lz).trans (agg_le ⟨(Pd.le_refl _), (Pd.le_refl _), (Pd.le_refl _), (Pd.le_refl _), (Pd.le_refl _), trivial⟩), trivial⟩) ?_
      refine .nil ?_
      refine aw_keep [(0, _), (1, _), (5, _), (7, _), (8, _), (16, _)] ⟨lg (ls rfl (ls rfl (ls rfl (ls rfl (ls rfl (ls rfl oz)))))), lg (ls rfl (ls rfl (ls rfl (ls rfl (ls rfl (ls rfl (os rfl oz))))))), lg (ls rfl (ls rfl (ls rfl (ls rfl (ls rfl (ls rfl (os rfl (os rfl oz)))))))), lg (ls rfl (ls rfl (ls rfl (ls rfl (ls rfl (ls rfl (os rfl (os rfl (os rfl oz))))))))), lg (ls rfl (ls rfl (ls rfl (ls rfl (ls rfl (ls rfl (os rfl (os rfl (os rfl (os rfl oz)))))))))), lg lz, trivial⟩ ?_
      refine aw_cond _ (os rfl (os rfl (os rfl (os rfl (os rfl oz))))) (fun hc => ?_) (fun hc => ?_)
      · skip
        replace hz_3 := ifb_t hz_3 hc
        clear hc
        refine aw_seq ?_
        refine aw_region (by decide) ?_
        refine rts _ rfl (opD_move (os rfl (os rfl oz))) ?_
        refine rts _ rfl (opD_assign lz) ?_
        refine .nil ?_
        refine aw_keep [(4, _)] ⟨lg lz, trivial⟩ ?_
        refine aw_ret ?_
        obtain rfl := some_of hz_3
        replace hz_1 := ocs_r hz_1
        obtain rfl := some_of hz_1
        replace h0 := ocs_l h0
        refine wk_no ?_
        refine wk_no ?_
        obtain rfl := some_of h0
        exact done_ext (.inr rfl) ((res_one rfl (it_tmp oz)).le (Pd.le_refl _)) (pl_bnd _ _ _)
      · skip
        replace hz_3 := ifb_f hz_3 hc
        clear hc
        refine aw_skip ?_
        refine aw_keep [(0, _), (1, _), (7, _), (8, _)] ⟨lg oz, lg (os rfl oz), lg (os rfl (os rfl (os rfl oz))), lg (os rfl (os rfl (os rfl (os rfl oz)))), trivial⟩ ?_
        refine aw_region (by decide) ?_
        refine rts _ rfl (opD_add (os rfl (os rfl (os rfl oz))) (ev_const _ _) rfl) ?_
        refine rts _ rfl (opD_move lz) ?_
        refine .nil ?_
        obtain rfl := some_of hz_3
        replace hz_1 := ocs_l hz_1
        refine wk_yesN rfl (l := [(0, sl kLin none none p0), (1, pl (.func (.func 107) #[] #[])), (7, pl (.int .i64 (p0.length : Int))), (8, pl (.int .i64 (IntKind.i64.wrap (t_2 + 1))))]) (bs' := []) ⟨le_of_eq (eg (ls rfl (ls rfl oz))), le_of_eq (eg (ls rfl (ls rfl (os rfl oz)))), le_of_eq (eg (ls rfl (ls rfl (os rfl (os rfl oz))))), le_of_eq (eg lz), trivial⟩ (bnd_cons (sl_b kb_Lin) (bnd_cons (pl_bnd _ _ _) (bnd_cons (pl_bnd _ _ _) (bnd_cons (pl_bnd _ _ _) bnd_nil)))) (Nat.le_of_ble_eq_true rfl) (by simp only [na, nb, nc, nd, nf, ng, nh, ni, nj, nk] <;> rfl) bxle_nil rfl (by simp only [na, nb, nc, nd, nf, ng, nh, ni, nj, nk] <;> rfl) bl_nil ?_
        exact ⟨m_z_3, Nat.lt_succ_self _, IntKind.i64.wrap (t_2 + 1), ⟨le_of_eq (eg oz), le_of_eq (eg (os rfl oz)), le_of_eq (eg (os rfl (os rfl oz))), le_of_eq (eg (os rfl (os rfl (os rfl oz)))), trivial⟩, rfl, hz_1⟩
    · skip
      replace hz_3 := ifb_f hz_3 hc
      clear hc
      refine aw_exit ?_
      obtain rfl := some_of hz_3
      replace hz_1 := ocs_r hz_1
      refine wk_no ?_
      refine wk_yesN rfl (l := []) (bs' := []) trivial bnd_nil (Nat.le_of_ble_eq_true rfl) (by simp only [na, nb, nc, nd, nf, ng, nh, ni, nj, nk] <;> rfl) bxle_nil rfl (by simp only [na, nb, nc, nd, nf, ng, nh, ni, nj, nk] <;> rfl) bl_nil ?_
      exact ⟨(), trivial, rfl, some_of hz_1⟩
  · rintro e st ⟨vz_1, hH, rfl, rfl⟩
    refine aw_keep _ hH ?_
    replace h0 := ocs_r h0
    refine aw_keep [] trivial ?_
    refine aw_seq ?_
    refine aw_region (by decide) ?_
    refine rts _ rfl (opD_assign (ev_const _ _)) ?_
    refine .nil ?_
    refine aw_keep [(4, _)] ⟨lg lz, trivial⟩ ?_
    refine aw_ret ?_
    obtain rfl := some_of h0
    exact done_ext (.inr rfl) ((res_one rfl (it_tmp oz)).le (Pd.le_refl _)) (pl_bnd _ _ _)

def F_hasL (fl : Nat) (p0 : (List Lin)) : Option (Bool) :=
  bnd (F_idxL fl p0) fun x_1 => some (decide (0 ≤ x_1))
set_option maxRecDepth 100000 in
set_option maxHeartbeats 2000000 in
theorem c_hasL {fl : Nat} {p0 : (List Lin)} {R : Bool} (h0 : F_hasL fl p0 = some R) : Pure Go.Proofs.Tryd.prog 106 [sl kLin none none p0, pl (.func (.func 107) #[] #[])] (pl (.bool R)) := by
  intro s
  unfold F_hasL at h0
  refine ac_of_aw s.boxes.length s.fr.length Go.Proofs.Tryd.func106 rfl (by simp [Go.Proofs.Tryd.ntmps106]) ?_
  refine aw_ext0 ?_
  refine aw_keep [(0, _), (1, _)] ⟨lg ez, lg (es ez), trivial⟩ ?_
  refine aw_seq ?_
  refine aw_region (by decide) ?_
  refine rts _ rfl (opD_assign (ev_const _ _)) ?_
  refine .nil ?_
  refine aw_keep [(0, _), (1, _)] ⟨lg (ls rfl oz), lg (ls rfl (os rfl oz)), trivial⟩ ?_
  refine aw_seq ?_
  refine aw_region (by decide) ?_
  refine rts _ rfl (opD_move oz) ?_
  refine rts _ rfl (opD_move (ls rfl (os rfl oz))) ?_
  replace h0 := bnd_some h0
  obtain ⟨x_1, hx_1, h0⟩ := h0
  refine rts _ rfl (opD_pure ht126_U1 (c_idxL hx_1) ⟨le_of_eq (ls rfl lz), le_of_eq lz, trivial⟩) ?_
  refine rts _ rfl (opD_geq lz (ev_const _ _)) ?_
  refine rts _ rfl (opD_assign lz) ?_
  refine .nil ?_
  refine aw_keep [(4, _)] ⟨lg lz, trivial⟩ ?_
  refine aw_ret ?_
  obtain rfl := some_of h0
  exact done_ext (.inr rfl) ((res_one rfl (it_tmp oz)).le (Pd.le_refl _)) (pl_bnd _ _ _)

def F_rcheck (fl : Nat) (p0 : Rpl) : Option ((Option Int)) :=
  ifb ((((decide (p0.Code < 0)) || (decide (65535 < p0.Code))) || (decide (4611686018427387904 < p0.N))) || (decide (2048 < (p0.Value.size : Int)))) (some (some 1)) (bnd (gif ((decide (64 < (p0.Rows.length : Int))) == false) (F_hasE fl p0.Rows)) fun x_1 => ifb ((decide (64 < (p0.Rows.length : Int))) || x_1) (some (some 1)) (bnd (gif ((decide (64 < (p0.Refs.length : Int))) == false) (F_hasF fl p0.Refs)) fun x_2 => ifb ((decide (64 < (p0.Refs.length : Int))) || x_2) (some (some 1)) (bnd (gif ((decide (32 < (p0.Lines.length : Int))) == false) (F_hasL fl p0.Lines)) fun x_3 => ifb ((decide (32 < (p0.Lines.length : Int))) || x_3) (some (some 1)) (some none))))
set_option maxRecDepth 100000 in
set_option maxHeartbeats 2000000 in
theorem c_rcheck {fl : Nat} {p0 : Rpl} {R : (Option Int)} (h0 : F_rcheck fl p0 = some R) : Pure Go.Proofs.Tryd.prog 58 [agg [pl (.int .i64 p0.Code), pl (.int .u64 p0.N), pl (.bool p0.Found), pl (.string p0.Value), sl kEnt none none p0.Rows, sl kRf none none p0.Refs, sl kLin none none p0.Lines]] (pl (errV R)) := by
  intro s
  unfold F_rcheck at h0
  refine ac_of_aw s.boxes.length s.fr.length Go.Proofs.Tryd.func58 rfl (by simp [Go.Proofs.Tryd.ntmps58]) ?_
  refine aw_ext0 ?_
  refine aw_keep [(0, _)] ⟨lg ez, trivial⟩ ?_
  refine aw_seq ?_
  refine aw_region (by decide) ?_
  refine rts _ rfl (boxAN rfl oz (bnd_cons (pl_bnd _ _ _) (bnd_cons (pl_bnd _ _ _) (bnd_cons (pl_bnd _ _ _) (bnd_cons (pl_bnd _ _ _) (bnd_cons (sl_b kb_Ent) (bnd_cons (sl_b kb_Rf) (bnd_cons (sl_b kb_Lin) bnd_nil))))))) (by first | exact List.length_nil | (simp only [List.length_cons, List.length_nil, Nat.zero_add, Nat.reduceAdd] <;> rfl)) (by simp only [na, nb, nc, nd, nf, ng, nh, ni, nj, nk] <;> rfl)) ?_
  refine rts _ rfl (opD_assign (ev_const _ _)) ?_
  refine .nil ?_
  refine aw_keep [(1, _)] ⟨lg (ls rfl lz), trivial⟩ ?_
  refine aw_seq ?_
  refine aw_block ?_
  refine aw_seq ?_
  refine aw_region (by decide) ?_
  refine rts _ rfl (opD_fieldAddr fo94_0_U1 oz) ?_
  refine rts _ rfl (opD_load_one ag3_U1 lz (loc_getN rfl rfl) rfl) ?_
  refine rts _ rfl (opD_lss lz (ev_const _ _)) ?_
  refine rts _ rfl (opD_move lz) ?_
  refine rtg _ rfl lz (fun hg1_4_1 => opD_fieldAddr fo94_0_U1 (ls rfl (ls rfl (ls rfl (ls rfl oz))))) ?_
  refine rtg _ rfl (ls rfl lz) (fun hg1_5_2 => opD_load_one ag3_U1 (lz.trans (pif_pos hg1_5_2)) (loc_getN rfl rfl) rfl) ?_
  refine rtg _ rfl (ls rfl (ls rfl lz)) (fun hg1_6_3 => opD_gtr (lz.trans (pif_pos hg1_6_3)) (ev_const _ _)) ?_
  refine rts _ rfl (opD_or (ls rfl (ls rfl (ls rfl lz))) lz) ?_
  refine rts _ rfl (opD_move lz) ?_
  refine rtg _ rfl lz (fun hg1_9_4 => opD_fieldAddr fo94_1_U1 (ls rfl (ls rfl (ls rfl (ls rfl (ls rfl (ls rfl (ls rfl (ls rfl (ls rfl oz)))))))))) ?_
  refine rtg _ rfl (ls rfl lz) (fun hg1_10_5 => opD_load_one ag22_U1 (lz.trans (pif_pos hg1_10_5)) (loc_getN rfl rfl) rfl) ?_
  refine rtg _ rfl (ls rfl (ls rfl lz)) (fun hg1_11_6 => opD_gtr (lz.trans (pif_pos hg1_11_6)) (ev_const _ _)) ?_
  refine rts _ rfl (opD_or (ls rfl (ls rfl (ls rfl lz))) lz) ?_
  refine rts _ rfl (opD_move lz) ?_
  refine rtg _ rfl lz (fun hg1_14_7 => opD_fieldAddr fo94_3_U1 (ls rfl (ls rfl (ls rfl (ls rfl (ls rfl (ls rfl (ls rfl (ls rfl (ls rfl (ls rfl (ls rfl (ls rfl (ls rfl (ls rfl oz))))))))))))))) ?_
  refine rtg _ rfl (ls rfl lz) (fun hg1_15_8 => opD_load_one ag9_U1 (lz.trans (pif_pos hg1_15_8)) (loc_getN rfl rfl) rfl) ?_
  refine rtg _ rfl (ls rfl (ls rfl lz)) (fun hg1_16_9 => opD_len_str Go.Proofs.Tryd.underlying9 (lz.trans (pif_pos hg1_16_9))) ?_
  refine rtg _ rfl (ls rfl (ls rfl (ls rfl lz))) (fun hg1_17_10 => opD_gtr (lz.trans (pif_pos hg1_17_10)) (ev_const _ _)) ?_
  refine rts _ rfl (opD_or (ls rfl (ls rfl (ls rfl (ls rfl lz)))) lz) ?_
  refine rts _ rfl (opD_assign lz) ?_
  refine .nil ?_
  refine aw_keep [(1, _), (3, _)] ⟨lg (ls rfl (ls rfl (ls rfl (ls rfl (ls rfl (ls rfl (ls rfl (ls rfl (ls rfl (ls rfl (ls rfl (ls rfl (ls rfl (ls rfl (ls rfl (ls rfl (ls rfl (ls rfl (ls rfl (ls rfl oz)))))))))))))))))))), lg lz, trivial⟩ ?_
  refine aw_cond _ (os rfl oz) (fun hc => ?_) (fun hc => ?_)
  · skip
    replace h0 := ifb_t h0 hc
    clear hc
    refine aw_seq ?_
    refine aw_region (by decide) ?_
    refine rts _ rfl (opD_ple (q := pl (errV (some 1))) rfl (opD_makeInterface_pl cc107_U1 (ev_const _ _))) ?_
    refine rts _ rfl (opD_assign lz) ?_
    refine .nil ?_
    refine aw_keep [(2, _)] ⟨lg lz, trivial⟩ ?_
    refine aw_ret ?_
    obtain rfl := some_of h0
    exact done_ext (.inr rfl) ((res_one rfl (it_tmp oz)).le (Pd.le_refl _)) (pl_bnd _ _ _)
  · skip
    replace h0 := ifb_f h0 hc
    clear hc
    refine aw_seq ?_
    refine aw_region (by decide) ?_
    refine rts _ rfl (opD_fieldAddr fo94_4_U1 oz) ?_
    refine rts _ rfl (opD_load_one ag91_U1 lz (loc_getN rfl rfl) rfl) ?_
    refine rts _ rfl (opD_len_sl Go.Proofs.Tryd.underlying91 lz) ?_
    refine rts _ rfl (opD_gtr lz (ev_const _ _)) ?_
    refine rts _ rfl (opD_move lz) ?_
    refine rtg _ rfl lz (fun hg3_5_11 => opD_fieldAddr fo94_4_U1 (ls rfl (ls rfl (ls rfl (ls rfl (ls rfl oz)))))) ?_
    refine rtg _ rfl (ls rfl lz) (fun hg3_6_12 => opD_load_one ag91_U1 (lz.trans (pif_pos hg3_6_12)) (loc_getN rfl rfl) rfl) ?_
    replace h0 := bnd_some h0
    obtain ⟨x_1, hx_1, h0⟩ := h0
    refine rtg _ rfl (ls rfl (ls rfl lz)) (fun hg3_7_13 => opD_pure ht102_U1 (c_hasE (gif_some hx_1 hg3_7_13)) ⟨le_of_eq (lz.trans (pif_pos hg3_7_13)), le_of_eq (ev_func _ _), trivial⟩) ?_
    refine rts _ rfl (opD_or (ls rfl (ls rfl (ls rfl lz))) lz) ?_
    refine rts _ rfl (opD_assign lz) ?_
    refine .nil ?_
    refine aw_keep [(1, _), (24, _)] ⟨lg (ls rfl (ls rfl (ls rfl (ls rfl (ls rfl (ls rfl (ls rfl (ls rfl (ls rfl (ls rfl oz)))))))))), lg lz, trivial⟩ ?_
    refine aw_cond _ (os rfl oz) (fun hc => ?_) (fun hc => ?_)
    · skip
      replace h0 := ifb_t h0 hc
      clear hc
      refine aw_seq ?_
      refine aw_region (by decide) ?_
      refine rts _ rfl (opD_ple (q := pl (errV (some 1))) rfl (opD_makeInterface_pl cc107_U1 (ev_const _ _))) ?_
      refine rts _ rfl (opD_assign lz) ?_
      refine .nil ?_
      refine aw_keep [(2, _)] ⟨lg lz, trivial⟩ ?_
      refine aw_ret ?_
      obtain rfl := some_of h0
      exact done_ext (.inr rfl) ((res_one rfl (it_tmp oz)).le (Pd.le_refl _)) (pl_bnd _ _ _)
    · skip
      replace h0 := ifb_f h0 hc
      clear hc
      refine aw_seq ?_
      refine aw_region (by decide) ?_
      refine rts _ rfl (opD_fieldAddr fo94_5_U1 oz) ?_
      refine rts _ rfl (opD_load_one ag92_U1 lz (loc_getN rfl rfl) rfl) ?_
      refine rts _ rfl (opD_len_sl Go.Proofs.Tryd.underlying92 lz) ?_
      refine rts _ rfl (opD_gtr lz (ev_const _ _)) ?_
      refine rts _ rfl (opD_move lz) ?_
      refine rtg _ rfl lz (fun hg5_5_14 => opD_fieldAddr fo94_5_U1 (ls rfl (ls rfl (ls rfl (ls rfl (ls rfl oz)))))) ?_
      refine rtg _ rfl (ls rfl lz) (fun hg5_6_15 => opD_load_one ag92_U1 (lz.trans (pif_pos hg5_6_15)) (loc_getN rfl rfl) rfl) ?_
      replace h0 := bnd_some h0
      obtain ⟨x_2, hx_2, h0⟩ := h0
      refine rtg _ rfl (ls rfl (ls rfl lz)) (fun hg5_7_16 => opD_pure ht104_U1 (c_hasF (gif_some hx_2 hg5_7_16)) ⟨le_of_eq (lz.trans (pif_pos hg5_7_16)), le_of_eq (ev_func _ _), trivial⟩) ?_
      refine rts _ rfl (opD_or (ls rfl (ls rfl (ls rfl lz))) lz) ?_
      refine rts _ rfl (opD_assign lz) ?_
      refine .nil ?_
      refine aw_keep [(1, _), (35, _)] ⟨lg (ls rfl (ls rfl (ls rfl (ls rfl (ls rfl (ls rfl (ls rfl (ls rfl (ls rfl (ls rfl oz)))))))))), lg lz, trivial⟩ ?_
      refine aw_cond _ (os rfl oz) (fun hc => ?_) (fun hc => ?_)
      · skip
        replace h0 := ifb_t h0 hc
        clear hc
        refine aw_seq ?_
        refine aw_region (by decide) ?_
        refine rts _ rfl (opD_ple (q := pl (errV (some 1))) rfl (opD_makeInterface_pl cc107_U1 (ev_const _ _))) ?_
        refine rts _ rfl (opD_assign lz) ?_
        refine .nil ?_
        refine aw_keep [(2, _)] ⟨lg lz, trivial⟩ ?_
        refine aw_ret ?_
        obtain rfl := some_of h0
        exact done_ext (.inr rfl) ((res_one rfl (it_tmp oz)).le (Pd.le_refl _)) (pl_bnd _ _ _)
      · skip
        replace h0 := ifb_f h0 hc
        clear hc
        refine aw_seq ?_
        refine aw_region (by decide) ?_
        refine rts _ rfl (opD_fieldAddr fo94_6_U1 oz) ?_
        refine rts _ rfl (opD_load_one ag55_U1 lz (loc_getN rfl rfl) rfl) ?_
        refine rts _ rfl (opD_len_sl Go.Proofs.Tryd.underlying55 lz) ?_
        refine rts _ rfl (opD_gtr lz (ev_const _ _)) ?_
        refine rts _ rfl (opD_move lz) ?_
        refine rtg _ rfl lz (fun hg7_5_17 => opD_fieldAddr fo94_6_U1 (ls rfl (ls rfl (ls rfl (ls rfl (ls rfl oz)))))) ?_
        refine rtg _ rfl (ls rfl lz) (fun hg7_6_18 => opD_load_one ag55_U1 (lz.trans (pif_pos hg7_6_18)) (loc_getN rfl rfl) rfl) ?_
        replace h0 := bnd_some h0
        obtain ⟨x_3, hx_3, h0⟩ := h0
        refine rtg _ rfl (ls rfl (ls rfl lz)) (fun hg7_7_19 => opD_pure ht106_U1 (c_hasL (gif_some hx_3 hg7_7_19)) ⟨le_of_eq (lz.trans (pif_pos hg7_7_19)), le_of_eq (ev_func _ _), trivial⟩) ?_
        refine rts _ rfl (opD_or (ls rfl (ls rfl (ls rfl lz))) lz) ?_
        refine rts _ rfl (opD_assign lz) ?_
        refine .nil ?_
        refine aw_keep [(46, _)] ⟨lg lz, trivial⟩ ?_
        refine aw_cond _ oz (fun hc => ?_) (fun hc => ?_)
        · skip
          replace h0 := ifb_t h0 hc
          clear hc
          refine aw_seq ?_
          refine aw_region (by decide) ?_
          refine rts _ rfl (opD_ple (q := pl (errV (some 1))) rfl (opD_makeInterface_pl cc107_U1 (ev_const _ _))) ?_
          refine rts _ rfl (opD_assign lz) ?_
          refine .nil ?_
          refine aw_keep [(2, _)] ⟨lg lz, trivial⟩ ?_
          refine aw_ret ?_
          obtain rfl := some_of h0
          exact done_ext (.inr rfl) ((res_one rfl (it_tmp oz)).le (Pd.le_refl _)) (pl_bnd _ _ _)
        · skip
          replace h0 := ifb_f h0 hc
          clear hc
          refine aw_skip ?_
          refine aw_keep [] trivial ?_
          refine aw_seq ?_
          refine aw_region (by decide) ?_
          refine rts _ rfl (opD_assign (ev_const _ _)) ?_
          refine .nil ?_
          refine aw_keep [(2, _)] ⟨lg lz, trivial⟩ ?_
          refine aw_ret ?_
          obtain rfl := some_of h0
          exact done_ext (.inr rfl) ((res_one rfl (it_tmp oz)).le (Pd.le_refl _)) (pl_bnd _ _ _)
end Go.Proofs.YtmnhfpcbfdgbcaaDoor.Eng.A

namespace Go.Proofs.YtmnhfpcbfdgbcaaDoor.Eng.A
set_option linter.unusedVariables false
set_option linter.unusedSimpArgs false
open Go.RowKit Go.Proofs.YtmnhfpcbfdgbcaaDoor.Plain Go.Proofs.YtmnhfpcbfdgbcaaDoor.Eng Go.Proofs.YtmnhfpcbfdgbcaaDoor.Eng.Pk Go.Proofs.YtmnhfpcbfdgbcaaDoor.Eng.Rd



open Go.Proofs.YtmnhfpcbfdgbcaaDoor.Eng.Pb Go.Proofs.YtmnhfpcbfdgbcaaDoor.Eng.Rf06 Go.Proofs.YtmnhfpcbfdgbcaaDoor.Eng.Er

structure Rdr where
  b_ : (List Int)
  wrong_ : Bool
  deriving DecidableEq
instance : Inhabited Rdr := ⟨⟨[], false⟩⟩
def kRdr : Kn Rdr := ⟨2, fun x => [sl (kI .u8) none none x.b_, pl (.bool x.wrong_)], fun _ => rfl, fun x p hp => by
  have h : ∀ p ∈ [sl (kI .u8) none none x.b_, pl (.bool x.wrong_)], Pd.One p := (ones_cons (one_sl _ _ _ _) (ones_cons (one_pl rfl) ones_nil))
  exact h p hp⟩
theorem kb_Rdr : KB kRdr := fun x n m p hp => ((bnd_cons (sl_b (kb_I _)) (bnd_cons (pl_bnd _ _ _) bnd_nil)) : ∀ p ∈ [sl (kI .u8) none none x.b_, pl (.bool x.wrong_)], p.Bnd n m) p hp


instance (l : List Int) : Decidable (Bts l) := inferInstanceAs (Decidable (∀ x ∈ l, _))
def U64 (n : Int) : Prop := 0 ≤ n ∧ n < 18446744073709551616
instance (n : Int) : Decidable (U64 n) := inferInstanceAs (Decidable (_ ∧ _))
theorem u64n {n : Int} (h : U64 n) : pl (.int .u64 n) = pl (.int .u64 ((n.toNat : Nat) : Int)) := by have := h.1; congr 2; omega
def Wrd (n : Nat) : Prop := n + 10 ≤ 140737488355328
instance (n : Nat) : Decidable (Wrd n) := inferInstanceAs (Decidable (_ ≤ _))
theorem own1_arg {f : FuncId} {p p' : Pd} {ps : List Pd} {α : Type} {k : Kn α} {te : TypeId} {nl : Option Bool} {l : List α} (h : p = p') (h2 : Own1 Go.Proofs.Tryd.prog f (p' :: ps) k te nl l) : Own1 Go.Proofs.Tryd.prog f (p :: ps) k te nl l := h ▸ h2
def oClone {α : Type} (b : Nat) (l : List α) : Option (List α) := grd (Fits b l.length ∧ l.length ≤ 140737488355328) (some l)
def oByte (l : List Int) (c : Int) : Option (List Int) := grd (Wrd l.length) (some (l ++ [c]))
def oNum (l : List Int) (n : Int) : Option (List Int) := grd (Wrd l.length ∧ U64 n) (some (l ++ vb n.toNat))
def oBytes (l m : List Int) : Option (List Int) := grd (Wrd (l.length + m.length)) (some (l ++ (vb m.length ++ m)))
theorem c_oByte {p0 : List Int} {p1 : Int} {R : List Int} (h0 : oByte p0 p1 = some R) : Own1 Go.Proofs.Tryd.prog 19 [sl (kI .u8) none none p0, pl (.int .u8 p1)] (kI .u8) 5 none R := by
  obtain ⟨h1, h0⟩ := grd_some h0; obtain rfl := some_of h0; exact pk_byte h1
theorem c_oNum {p0 : List Int} {p1 : Int} {R : List Int} (h0 : oNum p0 p1 = some R) : Own1 Go.Proofs.Tryd.prog 21 [sl (kI .u8) none none p0, pl (.int .u64 p1)] (kI .u8) 5 none R := by
  obtain ⟨h1, h0⟩ := grd_some h0; obtain rfl := some_of h0; rw [u64n h1.2]; exact pk_num h1.1 (by have := h1.2.2; have := h1.2.1; omega)
theorem c_oPut {p0 : List Int} {p1 : Int} {R : List Int} (h0 : oNum p0 p1 = some R) : Own1 Go.Proofs.Tryd.prog 87 [sl (kI .u8) none none p0, pl (.int .u64 p1)] (kI .u8) 5 none R := by
  obtain ⟨h1, h0⟩ := grd_some h0; obtain rfl := some_of h0; rw [u64n h1.2]; exact put h1.1 (by have := h1.2.2; have := h1.2.1; omega)
theorem c_oRput {p0 : List Int} {p1 : Int} {R : List Int} (h0 : oNum p0 p1 = some R) : Own1 Go.Proofs.Tryd.prog 29 [sl (kI .u8) none none p0, pl (.int .u64 p1)] (kI .u8) 5 none R := by
  obtain ⟨h1, h0⟩ := grd_some h0; obtain rfl := some_of h0; rw [u64n h1.2]; exact rput h1.1 (by have := h1.2.2; have := h1.2.1; omega)
theorem c_oBytes {p0 p1 R : List Int} (h0 : oBytes p0 p1 = some R) : Own1 Go.Proofs.Tryd.prog 20 [sl (kI .u8) none none p0, sl (kI .u8) none none p1] (kI .u8) 5 none R := by
  obtain ⟨h1, h0⟩ := grd_some h0; obtain rfl := some_of h0; exact pk_bytes h1
theorem c_oRputs {p0 p1 R : List Int} (h0 : oBytes p0 p1 = some R) : Own1 Go.Proofs.Tryd.prog 30 [sl (kI .u8) none none p0, sl (kI .u8) none none p1] (kI .u8) 5 none R := by
  obtain ⟨h1, h0⟩ := grd_some h0; obtain rfl := some_of h0; exact rputs h1
theorem c_oCloneB {p0 R : List Int} (h0 : oClone 1 p0 = some R) : Own1 Go.Proofs.Tryd.prog 86 [sl (kI .u8) none none p0] (kI .u8) 5 none R := by
  obtain ⟨h1, h0⟩ := grd_some h0; obtain rfl := some_of h0; exact clone_b h1.1.1 h1.2
theorem len_oByte {p0 : List Int} {p1 : Int} {R : List Int} (h0 : oByte p0 p1 = some R) : p0.length ≤ R.length := by
  obtain ⟨h1, h0⟩ := grd_some h0; obtain rfl := some_of h0; simp
theorem len_oNum {p0 : List Int} {p1 : Int} {R : List Int} (h0 : oNum p0 p1 = some R) : p0.length ≤ R.length := by
  obtain ⟨h1, h0⟩ := grd_some h0; obtain rfl := some_of h0; simp
theorem len_oBytes {p0 p1 R : List Int} (h0 : oBytes p0 p1 = some R) : p0.length ≤ R.length := by
  obtain ⟨h1, h0⟩ := grd_some h0; obtain rfl := some_of h0; simp
/-! Readers -/
def oNew (l : List Int) : Option Rdr := grd (Wrd l.length) (some ⟨l, false⟩)
theorem c_oNew {p0 : List Int} {R : Rdr} (h0 : oNew p0 = some R) (s : St) : AC Go.Proofs.Tryd.prog 22 [sl (kI .u8) none none p0] s (ptr s.boxes.length 0) (s.ext [⟨164, [sl (kI .u8) none none R.b_, pl (.bool R.wrong_)]⟩] []) := by
  obtain ⟨h1, h0⟩ := grd_some h0; obtain rfl := some_of h0; exact rd_new h1 s
def RdOk (r : Rdr) : Prop := Bts r.b_ ∧ r.b_.length ≤ 140737488355328
instance (r : Rdr) : Decidable (RdOk r) := inferInstanceAs (Decidable (_ ∧ _))
def rdr (x : List Int × Bool) : Rdr := ⟨x.1, x.2⟩
def oRNum (r : Rdr) (m : Int) : Option (Int × Rdr) := grd (RdOk r ∧ U64 m) (some (((rdNum m.toNat r.b_ r.wrong_).1 : Int), rdr (rdNum m.toNat r.b_ r.wrong_).2))
def oRByte (r : Rdr) : Option (Int × Rdr) := some ((rdByte r.b_ r.wrong_).1, rdr (rdByte r.b_ r.wrong_).2)
def I64 (n : Int) : Prop := -9223372036854775808 ≤ n ∧ n < 9223372036854775808
instance (n : Int) : Decidable (I64 n) := inferInstanceAs (Decidable (_ ∧ _))
def oRBytes (r : Rdr) (m : Int) : Option (List Int × Rdr) := grd (RdOk r ∧ I64 m) (some ((rdBytes m.toNat r.b_ r.wrong_).1, rdr (rdBytes m.toNat r.b_ r.wrong_).2))
def oRDone (r : Rdr) : Option (Option Int) := some (rdDone r.wrong_ r.b_)
def oRLeft (r : Rdr) : Option Int := some r.b_.length
theorem c_oRNum {p0 : Rdr} {p1 : Int} {R : Int × Rdr} {s : St} {g : Nat} (h0 : oRNum p0 p1 = some R) (hG : s.boxes[g]? = some ⟨164, [sl (kI .u8) none none p0.b_, pl (.bool p0.wrong_)]⟩) : AC Go.Proofs.Tryd.prog 23 [ptr g 0, pl (.int .u64 p1)] s (pl (.int .u64 R.1)) (s.upd g ⟨164, [sl (kI .u8) none none R.2.b_, pl (.bool R.2.wrong_)]⟩) := by
  obtain ⟨h1, h0⟩ := grd_some h0; obtain rfl := some_of h0
  rw [u64n h1.2]; exact rd_num hG h1.1.1 (Nat.le_trans h1.1.2 (by decide)) (by have := h1.2.2; have := h1.2.1; omega)
theorem c_oRByte {p0 : Rdr} {R : Int × Rdr} {s : St} {g : Nat} (h0 : oRByte p0 = some R) (hG : s.boxes[g]? = some ⟨164, [sl (kI .u8) none none p0.b_, pl (.bool p0.wrong_)]⟩) : AC Go.Proofs.Tryd.prog 25 [ptr g 0] s (pl (.int .u8 R.1)) (s.upd g ⟨164, [sl (kI .u8) none none R.2.b_, pl (.bool R.2.wrong_)]⟩) := by
  obtain rfl := some_of h0; exact rd_byte hG
theorem c_oRBytes {p0 : Rdr} {p1 : Int} {R : List Int × Rdr} {s : St} {g : Nat} (h0 : oRBytes p0 p1 = some R) (hG : s.boxes[g]? = some ⟨164, [sl (kI .u8) none none p0.b_, pl (.bool p0.wrong_)]⟩) : AC Go.Proofs.Tryd.prog 24 [ptr g 0, pl (.int .i64 p1)] s (sl (kI .u8) none none R.1) (s.upd g ⟨164, [sl (kI .u8) none none R.2.b_, pl (.bool R.2.wrong_)]⟩) := by
  obtain ⟨h1, h0⟩ := grd_some h0; obtain rfl := some_of h0; exact rd_bytesI hG h1.1.1 h1.1.2 h1.2
theorem c_oRDone {p0 : Rdr} {R : Option Int} {s : St} {g : Nat} (h0 : oRDone p0 = some R) (hG : s.boxes[g]? = some ⟨164, [sl (kI .u8) none none p0.b_, pl (.bool p0.wrong_)]⟩) : AC Go.Proofs.Tryd.prog 26 [ptr g 0] s (pl (errV R)) s := by
  obtain rfl := some_of h0; exact rd_done hG
theorem c_oRLeft {p0 : Rdr} {R : Int} {s : St} {g : Nat} (h0 : oRLeft p0 = some R) (hG : s.boxes[g]? = some ⟨164, [sl (kI .u8) none none p0.b_, pl (.bool p0.wrong_)]⟩) : AC Go.Proofs.Tryd.prog 28 [ptr g 0] s (pl (.int .i64 R)) s := by
  obtain rfl := some_of h0; exact rd_left hG
/-! The document's readers -/
def oDNum (r : Rdr) (m : Int) : Option (Rdr × Int) := grd (RdOk r ∧ U64 m) (some (rdr (rdNum m.toNat r.b_ false).2, ((rdNum m.toNat r.b_ false).1 : Int)))
def oDByte (r : Rdr) : Option (Rdr × Int) := some (rdr (rdByte r.b_ false).2, (rdByte r.b_ false).1)
def oDBytes (r : Rdr) (m : Int) : Option (Rdr × List Int) := grd (RdOk r ∧ I64 m) (some (rdr (rdBytes m.toNat r.b_ false).2, (rdBytes m.toNat r.b_ false).1))
def oDDone (r : Rdr) : Option Bool := some (!r.wrong_ && decide ((r.b_.length : Int) = 0))
theorem c_oDNum {p0 : Rdr} {p1 : Int} {R : Rdr × Int} (h0 : oDNum p0 p1 = some R) : Pure Go.Proofs.Tryd.prog 32 [agg [sl (kI .u8) none none p0.b_, pl (.bool p0.wrong_)], pl (.int .u64 p1)] (tup [agg [sl (kI .u8) none none R.1.b_, pl (.bool R.1.wrong_)], pl (.int .u64 R.2)]) := by
  obtain ⟨h1, h0⟩ := grd_some h0; obtain rfl := some_of h0
  rw [u64n h1.2]; exact ref_num h1.1.1 (Nat.le_trans h1.1.2 (by decide)) (by have := h1.2.2; have := h1.2.1; omega)
theorem c_oDByte {p0 : Rdr} {R : Rdr × Int} (h0 : oDByte p0 = some R) : Pure Go.Proofs.Tryd.prog 31 [agg [sl (kI .u8) none none p0.b_, pl (.bool p0.wrong_)]] (tup [agg [sl (kI .u8) none none R.1.b_, pl (.bool R.1.wrong_)], pl (.int .u8 R.2)]) := by
  obtain rfl := some_of h0; exact ref_byte
theorem c_oDBytes {p0 : Rdr} {p1 : Int} {R : Rdr × List Int} (h0 : oDBytes p0 p1 = some R) : Pure Go.Proofs.Tryd.prog 33 [agg [sl (kI .u8) none none p0.b_, pl (.bool p0.wrong_)], pl (.int .i64 p1)] (tup [agg [sl (kI .u8) none none R.1.b_, pl (.bool R.1.wrong_)], sl (kI .u8) none none R.2]) := by
  obtain ⟨h1, h0⟩ := grd_some h0; obtain rfl := some_of h0
  exact ref_bytes h1.1.1 (Nat.le_trans h1.1.2 (by decide)) ⟨h1.2.1, by have := h1.2.2; omega⟩
theorem c_oDDone {p0 : Rdr} {R : Bool} (h0 : oDDone p0 = some R) : Pure Go.Proofs.Tryd.prog 34 [agg [sl (kI .u8) none none p0.b_, pl (.bool p0.wrong_)]] (pl (.bool R)) := by
  obtain rfl := some_of h0; exact ref_done
end Go.Proofs.YtmnhfpcbfdgbcaaDoor.Eng.A
