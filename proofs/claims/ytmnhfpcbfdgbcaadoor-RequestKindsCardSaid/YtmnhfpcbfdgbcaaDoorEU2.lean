/- EU2: what functions do, walked; used by the laws of this seat. -/
import Derived.Test.YtmnhfpcbfdgbcaaDoorEU1
namespace Go.Proofs.YtmnhfpcbfdgbcaaDoor.Eng.A
set_option linter.unusedVariables false
set_option linter.unusedSimpArgs false
open Go.RowKit Go.Proofs.YtmnhfpcbfdgbcaaDoor.Plain Go.Proofs.YtmnhfpcbfdgbcaaDoor.Eng Go.Proofs.YtmnhfpcbfdgbcaaDoor.Eng.Pk Go.Proofs.YtmnhfpcbfdgbcaaDoor.Eng.Rd

theorem ag4_U4 : aggT Go.Proofs.Tryd.prog 4 = some false := by kernel_rfl
theorem ag22_U4 : aggT Go.Proofs.Tryd.prog 22 = some false := by kernel_rfl
theorem ag5_U4 : aggT Go.Proofs.Tryd.prog 5 = some false := by kernel_rfl
theorem ag9_U4 : aggT Go.Proofs.Tryd.prog 9 = some false := by kernel_rfl
theorem ag116_U4 : aggT Go.Proofs.Tryd.prog 116 = some true := by kernel_rfl
theorem sz116_U4 : sizeT Go.Proofs.Tryd.prog 116 = some 2 := by kernel_rfl
theorem ag3_U4 : aggT Go.Proofs.Tryd.prog 3 = some false := by kernel_rfl
theorem cc107_U4 : Go.Proofs.Tryd.prog.concrete 107 = true := by kernel_rfl
theorem fo118_1_U4 : fieldOff Go.Proofs.Tryd.prog 118 1 = some 1 := by kernel_rfl
theorem ht21_U4 : hasText Go.Proofs.Tryd.prog 21 = true := by kernel_rfl
theorem fo118_2_U4 : fieldOff Go.Proofs.Tryd.prog 118 2 = some 2 := by kernel_rfl
theorem fo118_4_U4 : fieldOff Go.Proofs.Tryd.prog 118 4 = some 5 := by kernel_rfl
theorem fo118_3_U4 : fieldOff Go.Proofs.Tryd.prog 118 3 = some 3 := by kernel_rfl
theorem fo116_0_U4 : fieldOff Go.Proofs.Tryd.prog 116 0 = some 0 := by kernel_rfl
theorem ht19_U4 : hasText Go.Proofs.Tryd.prog 19 = true := by kernel_rfl
theorem fo116_1_U4 : fieldOff Go.Proofs.Tryd.prog 116 1 = some 1 := by kernel_rfl
theorem mixed_U4 : Go.Proofs.Tryd.prog.follows .mixedOrders = true := by kernel_rfl
theorem fo118_5_U4 : fieldOff Go.Proofs.Tryd.prog 118 5 = some 6 := by kernel_rfl
theorem ht20_U4 : hasText Go.Proofs.Tryd.prog 20 = true := by kernel_rfl
theorem fo118_6_U4 : fieldOff Go.Proofs.Tryd.prog 118 6 = some 7 := by kernel_rfl
theorem fo118_7_U4 : fieldOff Go.Proofs.Tryd.prog 118 7 = some 8 := by kernel_rfl
theorem fo118_8_U4 : fieldOff Go.Proofs.Tryd.prog 118 8 = some 9 := by kernel_rfl
theorem fo118_9_U4 : fieldOff Go.Proofs.Tryd.prog 118 9 = some 10 := by kernel_rfl
theorem ht23_U4 : hasText Go.Proofs.Tryd.prog 23 = true := by kernel_rfl
theorem sz22_U4 : sizeT Go.Proofs.Tryd.prog 22 = some 1 := by kernel_rfl
theorem ht25_U4 : hasText Go.Proofs.Tryd.prog 25 = true := by kernel_rfl
theorem pt116_U4 : placesT Go.Proofs.Tryd.prog 116 2 = some [(0, 1), (1, 1)] := by kernel_rfl
theorem zt116_U4 : zeroT Go.Proofs.Tryd.prog 116 = some [.int .i64 0, .int .u64 0] := by kernel_rfl
theorem ht24_U4 : hasText Go.Proofs.Tryd.prog 24 = true := by kernel_rfl
theorem sz9_U4 : sizeT Go.Proofs.Tryd.prog 9 = some 1 := by kernel_rfl
theorem sz5_U4 : sizeT Go.Proofs.Tryd.prog 5 = some 1 := by kernel_rfl
theorem sz4_U4 : sizeT Go.Proofs.Tryd.prog 4 = some 1 := by kernel_rfl
theorem fo118_0_U4 : fieldOff Go.Proofs.Tryd.prog 118 0 = some 0 := by kernel_rfl
theorem ht69_U4 : hasText Go.Proofs.Tryd.prog 69 = true := by kernel_rfl
theorem ht127_U4 : hasText Go.Proofs.Tryd.prog 127 = true := by kernel_rfl
theorem zt118_U4 : zeroT Go.Proofs.Tryd.prog 118 = some [.int .u8 0, .int .u64 0, .int .u64 0, .int .i64 0, .int .u64 0, .int .u64 0, .string ⟨#[]⟩, .string ⟨#[]⟩, .int .u8 0, .int .u64 0, .bool false] := by kernel_rfl
theorem ht22_U4 : hasText Go.Proofs.Tryd.prog 22 = true := by kernel_rfl
theorem pt118_U4 : placesT Go.Proofs.Tryd.prog 118 10 = some [(0, 1), (1, 1), (2, 1), (3, 2), (5, 1), (6, 1), (7, 1), (8, 1), (9, 1), (10, 1)] := by kernel_rfl
theorem sz118_U4 : sizeT Go.Proofs.Tryd.prog 118 = some 11 := by kernel_rfl
theorem ht128_U4 : hasText Go.Proofs.Tryd.prog 128 = true := by kernel_rfl
theorem ag118_U4 : aggT Go.Proofs.Tryd.prog 118 = some true := by kernel_rfl
theorem ht26_U4 : hasText Go.Proofs.Tryd.prog 26 = true := by kernel_rfl
theorem ht114_U4 : hasText Go.Proofs.Tryd.prog 114 = true := by kernel_rfl
theorem ht111_U4 : hasText Go.Proofs.Tryd.prog 111 = true := by kernel_rfl
theorem ht113_U4 : hasText Go.Proofs.Tryd.prog 113 = true := by kernel_rfl
theorem ht71_U4 : hasText Go.Proofs.Tryd.prog 71 = true := by kernel_rfl

structure Rq where
  Kind : Int
  Space : Int
  Handle : Int
  Ref : Rf
  To : Int
  Key : ByteArray
  Value : ByteArray
  Rights : Int
  Most : Int
  Flag : Bool
  deriving DecidableEq
instance : Inhabited Rq := ⟨⟨0, 0, 0, default, 0, ⟨#[]⟩, ⟨#[]⟩, 0, 0, false⟩⟩
def kRq : Kn Rq := ⟨11, fun x => [pl (.int .u8 x.Kind), pl (.int .u64 x.Space), pl (.int .u64 x.Handle), pl (.int .i64 x.Ref.Slot), pl (.int .u64 x.Ref.Gen), pl (.int .u64 x.To), pl (.string x.Key), pl (.string x.Value), pl (.int .u8 x.Rights), pl (.int .u64 x.Most), pl (.bool x.Flag)], fun _ => rfl, fun x p hp => by
  have h : ∀ p ∈ [pl (.int .u8 x.Kind), pl (.int .u64 x.Space), pl (.int .u64 x.Handle), pl (.int .i64 x.Ref.Slot), pl (.int .u64 x.Ref.Gen), pl (.int .u64 x.To), pl (.string x.Key), pl (.string x.Value), pl (.int .u8 x.Rights), pl (.int .u64 x.Most), pl (.bool x.Flag)], Pd.One p := (ones_cons (one_pl rfl) (ones_cons (one_pl rfl) (ones_cons (one_pl rfl) (ones_cons (one_pl rfl) (ones_cons (one_pl rfl) (ones_cons (one_pl rfl) (ones_cons (one_pl rfl) (ones_cons (one_pl rfl) (ones_cons (one_pl rfl) (ones_cons (one_pl rfl) (ones_cons (one_pl rfl) ones_nil)))))))))))
  exact h p hp⟩
theorem kb_Rq : KB kRq := fun x n m p hp => ((bnd_cons (pl_bnd _ _ _) (bnd_cons (pl_bnd _ _ _) (bnd_cons (pl_bnd _ _ _) (bnd_cons (pl_bnd _ _ _) (bnd_cons (pl_bnd _ _ _) (bnd_cons (pl_bnd _ _ _) (bnd_cons (pl_bnd _ _ _) (bnd_cons (pl_bnd _ _ _) (bnd_cons (pl_bnd _ _ _) (bnd_cons (pl_bnd _ _ _) (bnd_cons (pl_bnd _ _ _) bnd_nil))))))))))) : ∀ p ∈ [pl (.int .u8 x.Kind), pl (.int .u64 x.Space), pl (.int .u64 x.Handle), pl (.int .i64 x.Ref.Slot), pl (.int .u64 x.Ref.Gen), pl (.int .u64 x.To), pl (.string x.Key), pl (.string x.Value), pl (.int .u8 x.Rights), pl (.int .u64 x.Most), pl (.bool x.Flag)], p.Bnd n m) p hp

theorem eq_Rq (a0 : Int) (a1 : Int) (a2 : Int) (a3 : Int) (a4 : Int) (a5 : Int) (a6 : ByteArray) (a7 : ByteArray) (a8 : Int) (a9 : Int) (a10 : Bool) (b0 : Int) (b1 : Int) (b2 : Int) (b3 : Int) (b4 : Int) (b5 : Int) (b6 : ByteArray) (b7 : ByteArray) (b8 : Int) (b9 : Int) (b10 : Bool) (w : World) : (binOp .eql 118 (.agg [.int .u8 a0, .int .u64 a1, .int .u64 a2, .int .i64 a3, .int .u64 a4, .int .u64 a5, .string a6, .string a7, .int .u8 a8, .int .u64 a9, .bool a10].toArray) (.agg [.int .u8 b0, .int .u64 b1, .int .u64 b2, .int .i64 b3, .int .u64 b4, .int .u64 b5, .string b6, .string b7, .int .u8 b8, .int .u64 b9, .bool b10].toArray)).run Go.Proofs.Tryd.prog w = .ok (.bool (decide (a0 = b0) && (decide (a1 = b1) && (decide (a2 = b2) && (decide (a3 = b3) && (decide (a4 = b4) && (decide (a5 = b5) && (decide (a6 = b6) && (decide (a7 = b7) && (decide (a8 = b8) && (decide (a9 = b9) && (decide (a10 = b10) && true)))))))))))) w ∧ (binOp .neq 118 (.agg [.int .u8 a0, .int .u64 a1, .int .u64 a2, .int .i64 a3, .int .u64 a4, .int .u64 a5, .string a6, .string a7, .int .u8 a8, .int .u64 a9, .bool a10].toArray) (.agg [.int .u8 b0, .int .u64 b1, .int .u64 b2, .int .i64 b3, .int .u64 b4, .int .u64 b5, .string b6, .string b7, .int .u8 b8, .int .u64 b9, .bool b10].toArray)).run Go.Proofs.Tryd.prog w = .ok (.bool (!(decide (a0 = b0) && (decide (a1 = b1) && (decide (a2 = b2) && (decide (a3 = b3) && (decide (a4 = b4) && (decide (a5 = b5) && (decide (a6 = b6) && (decide (a7 = b7) && (decide (a8 = b8) && (decide (a9 = b9) && (decide (a10 = b10) && true))))))))))))) w := by
  have h := eqS (P := Go.Proofs.Tryd.prog) (t := 118) (xs := [.int .u8 a0, .int .u64 a1, .int .u64 a2, .int .i64 a3, .int .u64 a4, .int .u64 a5, .string a6, .string a7, .int .u8 a8, .int .u64 a9, .bool a10].toArray) (ys := [.int .u8 b0, .int .u64 b1, .int .u64 b2, .int .i64 b3, .int .u64 b4, .int .u64 b5, .string b6, .string b7, .int .u8 b8, .int .u64 b9, .bool b10].toArray) (w := w) Go.Proofs.Tryd.underlying118 (by kernel_rfl) (eqf_cons (by decide) (run_part_one ag5_U4 rfl w) (run_part_one ag5_U4 rfl w) (run_equalIn_int w _ _ _ _ _ _ Go.Proofs.Tryd.underlying5) (eqf_cons (by decide) (run_part_one ag22_U4 rfl w) (run_part_one ag22_U4 rfl w) (run_equalIn_int w _ _ _ _ _ _ Go.Proofs.Tryd.underlying22) (eqf_cons (by decide) (run_part_one ag22_U4 rfl w) (run_part_one ag22_U4 rfl w) (run_equalIn_int w _ _ _ _ _ _ Go.Proofs.Tryd.underlying22) (eqf_cons (by decide) (run_part_agg ag116_U4 sz116_U4 _ _ w) (run_part_agg ag116_U4 sz116_U4 _ _ w) (eqn Go.Proofs.Tryd.underlying116 (by kernel_rfl) (eqf_cons (by decide) (run_part_one ag3_U4 rfl w) (run_part_one ag3_U4 rfl w) (run_equalIn_int w _ _ _ _ _ _ Go.Proofs.Tryd.underlying3) (eqf_cons (by decide) (run_part_one ag22_U4 rfl w) (run_part_one ag22_U4 rfl w) (run_equalIn_int w _ _ _ _ _ _ Go.Proofs.Tryd.underlying22) eqf_nil))) (eqf_cons (by decide) (run_part_one ag22_U4 rfl w) (run_part_one ag22_U4 rfl w) (run_equalIn_int w _ _ _ _ _ _ Go.Proofs.Tryd.underlying22) (eqf_cons (by decide) (run_part_one ag9_U4 rfl w) (run_part_one ag9_U4 rfl w) (run_equalIn_string w _ _ _ _ Go.Proofs.Tryd.underlying9) (eqf_cons (by decide) (run_part_one ag9_U4 rfl w) (run_part_one ag9_U4 rfl w) (run_equalIn_string w _ _ _ _ Go.Proofs.Tryd.underlying9) (eqf_cons (by decide) (run_part_one ag5_U4 rfl w) (run_part_one ag5_U4 rfl w) (run_equalIn_int w _ _ _ _ _ _ Go.Proofs.Tryd.underlying5) (eqf_cons (by decide) (run_part_one ag22_U4 rfl w) (run_part_one ag22_U4 rfl w) (run_equalIn_int w _ _ _ _ _ _ Go.Proofs.Tryd.underlying22) (eqf_cons (by decide) (run_part_one ag4_U4 rfl w) (run_part_one ag4_U4 rfl w) (run_equalIn_bool w _ _ _ _ Go.Proofs.Tryd.underlying4) eqf_nil))))))))))
  simp only [str_beq, beq_dec, Bool.and_assoc, Bool.true_and] at h
  exact h

theorem eq_Rq_g (op : BinOp) (t u : Operand) (xs ys : Array Value) (w : World) : (eqGuard op 118 t u (.agg xs) (.agg ys)).run Go.Proofs.Tryd.prog w = .ok () w := run_eqGuard_agg w op 118 t u _ _ (by kernel_rfl)

def F_qform (p0 : Int) : Option (ByteArray) :=
  ifb (decide (p0 = 1)) (some ⟨#[115, 102]⟩) (bnd (ifb (decide (p0 = 2)) (some (decide (p0 = 2))) (ifb (decide (p0 = 4)) (some (decide (p0 = 4))) (some (decide (p0 = 5))))) fun z_1 => ifb z_1 (some ⟨#[104, 99, 107]⟩) (ifb (decide (p0 = 3)) (some ⟨#[104, 99, 107, 118]⟩) (ifb (decide (p0 = 6)) (some ⟨#[104, 99, 107, 109, 102]⟩) (bnd (ifb (decide (p0 = 7)) (some (decide (p0 = 7))) (some (decide (p0 = 8)))) fun z_2 => ifb z_2 (some ⟨#[104]⟩) (ifb (decide (p0 = 9)) (some ⟨#[115, 99, 116, 107, 114]⟩) (ifb (decide (p0 = 10)) (some ⟨#[115, 99]⟩) (ifb (decide (p0 = 11)) (some ⟨#[115]⟩) (ifb (decide (p0 = 12)) (some ⟨#[115, 99, 109]⟩) (some ⟨#[]⟩)))))))))
set_option maxRecDepth 100000 in
set_option maxHeartbeats 2000000 in
theorem c_qform {p0 : Int} {R : ByteArray} (h0 : F_qform p0 = some R) : Pure Go.Proofs.Tryd.prog 69 [pl (.int .u8 p0)] (pl (.string R)) := by
  intro s
  unfold F_qform at h0
  refine ac_of_aw s.boxes.length s.fr.length Go.Proofs.Tryd.func69 rfl (by simp [Go.Proofs.Tryd.ntmps69]) ?_
  refine aw_ext0 ?_
  refine aw_keep [(0, _)] ⟨lg ez, trivial⟩ ?_
  refine aw_seq ?_
  refine aw_region (by decide) ?_
  refine rts _ rfl (opD_assign (ev_const _ _)) ?_
  refine .nil ?_
  refine aw_keep [(0, _)] ⟨lg (ls rfl oz), trivial⟩ ?_
  refine aw_seq ?_
  refine aw_seq ?_
  refine aw_region (by decide) ?_
  refine rts _ rfl (opD_move oz) ?_
  refine .nil ?_
  refine aw_keep [(3, _)] ⟨lg lz, trivial⟩ ?_
  refine aw_block ?_
  refine aw_seq ?_
  refine aw_region (by decide) ?_
  refine rts _ rfl (opD_eql oz (ev_const _ _)) ?_
  refine rts _ rfl (opD_assign lz) ?_
  refine .nil ?_
  refine aw_keep [(3, _), (4, _)] ⟨lg (ls rfl (ls rfl oz)), lg lz, trivial⟩ ?_
  refine aw_cond _ (os rfl oz) (fun hc => ?_) (fun hc => ?_)
  · skip
    replace h0 := ifb_t h0 hc
    clear hc
    refine aw_seq ?_
    refine aw_region (by decide) ?_
    refine rts _ rfl (opD_assign (ev_const _ _)) ?_
    refine .nil ?_
    refine aw_keep [(2, _)] ⟨lg lz, trivial⟩ ?_
    refine aw_ret ?_
    obtain rfl := some_of h0
    exact done_ext (.inr rfl) ((res_one rfl (it_tmp oz)).le (Pd.le_refl _)) (pl_bnd _ _ _)
  · skip
    replace h0 := ifb_f h0 hc
    clear hc
    refine aw_seq ?_
    refine aw_seq ?_
    refine aw_region (by decide) ?_
    refine rts _ rfl (opD_eql oz (ev_const _ _)) ?_
    refine rts _ rfl (opD_assign lz) ?_
    refine .nil ?_
    refine aw_keep [(3, _), (6, _)] ⟨lg (ls rfl (ls rfl oz)), lg lz, trivial⟩ ?_
    replace h0 := bnd_some h0
    obtain ⟨z_1, hz_1, h0⟩ := h0
    refine aw_mid (fun e st => ∃ v : Bool, Holds e [(3, pl (.int .u8 p0)), (6, pl (.bool v))] ∧ st = s.ext [] [] ∧ v = z_1) ?_ ?_
    · skip
      refine aw_wkN rfl 0 0 rfl rfl ?_
      refine aw_cond _ (os rfl oz) (fun hc => ?_) (fun hc => ?_)
      · skip
        replace hz_1 := ifb_t hz_1 hc
        clear hc
        refine aw_skip ?_
        refine wk_yesN rfl (l := [(3, pl (.int .u8 p0)), (6, pl (.bool (decide (p0 = 2))))]) (bs' := []) ⟨le_of_eq (eg oz), le_of_eq (eg (os rfl oz)), trivial⟩ (bnd_cons (pl_bnd _ _ _) (bnd_cons (pl_bnd _ _ _) bnd_nil)) (Nat.le_of_ble_eq_true rfl) (by simp only [na, nb, nc, nd, nf, ng, nh, ni, nj, nk] <;> rfl) bxle_nil rfl (by simp only [na, nb, nc, nd, nf, ng, nh, ni, nj, nk] <;> rfl) bl_nil ?_
        exact ⟨(decide (p0 = 2)), ⟨le_of_eq (eg oz), le_of_eq (eg (os rfl oz)), trivial⟩, rfl, some_of hz_1⟩
      · skip
        replace hz_1 := ifb_f hz_1 hc
        clear hc
        refine aw_seq ?_
        refine aw_region (by decide) ?_
        refine rts _ rfl (opD_eql oz (ev_const _ _)) ?_
        refine rts _ rfl (opD_assign lz) ?_
        refine .nil ?_
        refine aw_keep [(3, _), (6, _)] ⟨lg (ls rfl (ls rfl oz)), lg lz, trivial⟩ ?_
        refine aw_cond _ (os rfl oz) (fun hc => ?_) (fun hc => ?_)
        · skip
          replace hz_1 := ifb_t hz_1 hc
          clear hc
          refine aw_skip ?_
          refine wk_yesN rfl (l := [(3, pl (.int .u8 p0)), (6, pl (.bool (decide (p0 = 4))))]) (bs' := []) ⟨le_of_eq (eg oz), le_of_eq (eg (os rfl oz)), trivial⟩ (bnd_cons (pl_bnd _ _ _) (bnd_cons (pl_bnd _ _ _) bnd_nil)) (Nat.le_of_ble_eq_true rfl) (by simp only [na, nb, nc, nd, nf, ng, nh, ni, nj, nk] <;> rfl) bxle_nil rfl (by simp only [na, nb, nc, nd, nf, ng, nh, ni, nj, nk] <;> rfl) bl_nil ?_
          exact ⟨(decide (p0 = 4)), ⟨le_of_eq (eg oz), le_of_eq (eg (os rfl oz)), trivial⟩, rfl, some_of hz_1⟩
        · skip
          replace hz_1 := ifb_f hz_1 hc
          clear hc
          refine aw_region (by decide) ?_
          refine rts _ rfl (opD_eql oz (ev_const _ _)) ?_
          refine rts _ rfl (opD_assign lz) ?_
          refine .nil ?_
          refine wk_yesN rfl (l := [(3, pl (.int .u8 p0)), (6, pl (.bool (decide (p0 = 5))))]) (bs' := []) ⟨le_of_eq (eg (ls rfl (ls rfl oz))), le_of_eq (eg lz), trivial⟩ (bnd_cons (pl_bnd _ _ _) (bnd_cons (pl_bnd _ _ _) bnd_nil)) (Nat.le_of_ble_eq_true rfl) (by simp only [na, nb, nc, nd, nf, ng, nh, ni, nj, nk] <;> rfl) bxle_nil rfl (by simp only [na, nb, nc, nd, nf, ng, nh, ni, nj, nk] <;> rfl) bl_nil ?_
          exact ⟨(decide (p0 = 5)), ⟨le_of_eq (eg oz), le_of_eq (eg (os rfl oz)), trivial⟩, rfl, some_of hz_1⟩
    · rintro e st ⟨vz_1, hH, rfl, rfl⟩
      refine aw_keep _ hH ?_
      refine aw_keep [(3, _), (6, _)] ⟨lg oz, lg (os rfl oz), trivial⟩ ?_
      refine aw_cond _ (os rfl oz) (fun hc => ?_) (fun hc => ?_)
      · skip
        replace h0 := ifb_t h0 hc
        clear hc
        refine aw_seq ?_
        refine aw_region (by decide) ?_
        refine rts _ rfl (opD_assign (ev_const _ _)) ?_
        refine .nil ?_
        refine aw_keep [(2, _)] ⟨lg lz, trivial⟩ ?_
        refine aw_ret ?_
        obtain rfl := some_of h0
        exact done_ext (.inr rfl) ((res_one rfl (it_tmp oz)).le (Pd.le_refl _)) (pl_bnd _ _ _)
      · skip
        replace h0 := ifb_f h0 hc
        clear hc
        refine aw_seq ?_
        refine aw_region (by decide) ?_
        refine rts _ rfl (opD_eql oz (ev_const _ _)) ?_
        refine rts _ rfl (opD_assign lz) ?_
        refine .nil ?_
        refine aw_keep [(3, _), (10, _)] ⟨lg (ls rfl (ls rfl oz)), lg lz, trivial⟩ ?_
        refine aw_cond _ (os rfl oz) (fun hc => ?_) (fun hc => ?_)
        · skip
          replace h0 := ifb_t h0 hc
          clear hc
          refine aw_seq ?_
          refine aw_region (by decide) ?_
          refine rts _ rfl (opD_assign (ev_const _ _)) ?_
          refine .nil ?_
          refine aw_keep [(2, _)] ⟨lg lz, trivial⟩ ?_
          refine aw_ret ?_
          obtain rfl := some_of h0
          exact done_ext (.inr rfl) ((res_one rfl (it_tmp oz)).le (Pd.le_refl _)) (pl_bnd _ _ _)
        · skip
          replace h0 := ifb_f h0 hc
          clear hc
          refine aw_seq ?_
          refine aw_region (by decide) ?_
          refine rts _ rfl (opD_eql oz (ev_const _ _)) ?_
          refine rts _ rfl (opD_assign lz) ?_
          refine .nil ?_
          refine aw_keep [(3, _), (12, _)] ⟨lg (ls rfl (ls rfl oz)), lg lz, trivial⟩ ?_
          refine aw_cond _ (os rfl oz) (fun hc => ?_) (fun hc => ?_)
          · skip
            replace h0 := ifb_t h0 hc
            clear hc
            refine aw_seq ?_
            refine aw_region (by decide) ?_
            refine rts _ rfl (opD_assign (ev_const _ _)) ?_
            refine .nil ?_
            refine aw_keep [(2, _)] ⟨lg lz, trivial⟩ ?_
            refine aw_ret ?_
            obtain rfl := some_of h0
            exact done_ext (.inr rfl) ((res_one rfl (it_tmp oz)).le (Pd.le_refl _)) (pl_bnd _ _ _)
          · skip
            replace h0 := ifb_f h0 hc
            clear hc
            refine aw_seq ?_
            refine aw_seq ?_
            refine aw_region (by decide) ?_
            refine rts _ rfl (opD_eql oz (ev_const _ _)) ?_
            refine rts _ rfl (opD_assign lz) ?_
            refine .nil ?_
            refine aw_keep [(3, _), (14, _)] ⟨lg (ls rfl (ls rfl oz)), lg lz, trivial⟩ ?_
            replace h0 := bnd_some h0
            obtain ⟨z_2, hz_2, h0⟩ := h0
            refine aw_mid (fun e st => ∃ v : Bool, Holds e [(3, pl (.int .u8 p0)), (14, pl (.bool v))] ∧ st = s.ext [] [] ∧ v = z_2) ?_ ?_
            · skip
              refine aw_wkN rfl 0 0 rfl rfl ?_
              refine aw_cond _ (os rfl oz) (fun hc => ?_) (fun hc => ?_)
              · skip
                replace hz_2 := ifb_t hz_2 hc
                clear hc
                refine aw_skip ?_
                refine wk_yesN rfl (l := [(3, pl (.int .u8 p0)), (14, pl (.bool (decide (p0 = 7))))]) (bs' := []) ⟨le_of_eq (eg oz), le_of_eq (eg (os rfl oz)), trivial⟩ (bnd_cons (pl_bnd _ _ _) (bnd_cons (pl_bnd _ _ _) bnd_nil)) (Nat.le_of_ble_eq_true rfl) (by simp only [na, nb, nc, nd, nf, ng, nh, ni, nj, nk] <;> rfl) bxle_nil rfl (by simp only [na, nb, nc, nd, nf, ng, nh, ni, nj, nk] <;> rfl) bl_nil ?_
                exact ⟨(decide (p0 = 7)), ⟨le_of_eq (eg oz), le_of_eq (eg (os rfl oz)), trivial⟩, rfl, some_of hz_2⟩
              · skip
                replace hz_2 := ifb_f hz_2 hc
                clear hc
                refine aw_region (by decide) ?_
                refine rts _ rfl (opD_eql oz (ev_const _ _)) ?_
                refine rts _ rfl (opD_assign lz) ?_
                refine .nil ?_
                refine wk_yesN rfl (l := [(3, pl (.int .u8 p0)), (14, pl (.bool (decide (p0 = 8))))]) (bs' := []) ⟨le_of_eq (eg (ls rfl (ls rfl oz))), le_of_eq (eg lz), trivial⟩ (bnd_cons (pl_bnd _ _ _) (bnd_cons (pl_bnd _ _ _) bnd_nil)) (Nat.le_of_ble_eq_true rfl) (by simp only [na, nb, nc, nd, nf, ng, nh, ni, nj, nk] <;> rfl) bxle_nil rfl (by simp only [na, nb, nc, nd, nf, ng, nh, ni, nj, nk] <;> rfl) bl_nil ?_
                exact ⟨(decide (p0 = 8)), ⟨le_of_eq (eg oz), le_of_eq (eg (os rfl oz)), trivial⟩, rfl, some_of hz_2⟩
            · rintro e st ⟨vz_2, hH, rfl, rfl⟩
              refine aw_keep _ hH ?_
              refine aw_keep [(3, _), (14, _)] ⟨lg oz, lg (os rfl oz), trivial⟩ ?_
              refine aw_cond _ (os rfl oz) (fun hc => ?_) (fun hc => ?_)
              · skip
                replace h0 := ifb_t h0 hc
                clear hc
                refine aw_seq ?_
                refine aw_region (by decide) ?_
                refine rts _ rfl (opD_assign (ev_const _ _)) ?_
                refine .nil ?_
                refine aw_keep [(2, _)] ⟨lg lz, trivial⟩ ?_
                refine aw_ret ?_
                obtain rfl := some_of h0
                exact done_ext (.inr rfl) ((res_one rfl (it_tmp oz)).le (Pd.le_refl _)) (pl_bnd _ _ _)
              · skip
                replace h0 := ifb_f h0 hc
                clear hc
                refine aw_seq ?_
                refine aw_region (by decide) ?_
                refine rts _ rfl (opD_eql oz (ev_const _ _)) ?_
                refine rts _ rfl (opD_assign lz) ?_
                refine .nil ?_
                refine aw_keep [(3, _), (17, _)] ⟨lg (ls rfl (ls rfl oz)), lg lz, trivial⟩ ?_
                refine aw_cond _ (os rfl oz) (fun hc => ?_) (fun hc => ?_)
                · skip
                  replace h0 := ifb_t h0 hc
                  clear hc
                  refine aw_seq ?_
                  refine aw_region (by decide) ?_
                  refine rts _ rfl (opD_assign (ev_const _ _)) ?_
                  refine .nil ?_
                  refine aw_keep [(2, _)] ⟨lg lz, trivial⟩ ?_
                  refine aw_ret ?_
                  obtain rfl := some_of h0
                  exact done_ext (.inr rfl) ((res_one rfl (it_tmp oz)).le (Pd.le_refl _)) (pl_bnd _ _ _)
                · skip
                  replace h0 := ifb_f h0 hc
                  clear hc
                  refine aw_seq ?_
                  refine aw_region (by decide) ?_
                  refine rts _ rfl (opD_eql oz (ev_const _ _)) ?_
                  refine rts _ rfl (opD_assign lz) ?_
                  refine .nil ?_
                  refine aw_keep [(3, _), (19, _)] ⟨lg (ls rfl (ls rfl oz)), lg lz, trivial⟩ ?_
                  refine aw_cond _ (os rfl oz) (fun hc => ?_) (fun hc => ?_)
                  · skip
                    replace h0 := ifb_t h0 hc
                    clear hc
                    refine aw_seq ?_
                    refine aw_region (by decide) ?_
                    refine rts _ rfl (opD_assign (ev_const _ _)) ?_
                    refine .nil ?_
                    refine aw_keep [(2, _)] ⟨lg lz, trivial⟩ ?_
                    refine aw_ret ?_
                    obtain rfl := some_of h0
                    exact done_ext (.inr rfl) ((res_one rfl (it_tmp oz)).le (Pd.le_refl _)) (pl_bnd _ _ _)
                  · skip
                    replace h0 := ifb_f h0 hc
                    clear hc
                    refine aw_seq ?_
                    refine aw_region (by decide) ?_
                    refine rts _ rfl (opD_eql oz (ev_const _ _)) ?_
                    refine rts _ rfl (opD_assign lz) ?_
                    refine .nil ?_
                    refine aw_keep [(3, _), (21, _)] ⟨lg (ls rfl (ls rfl oz)), lg lz, trivial⟩ ?_
                    refine aw_cond _ (os rfl oz) (fun hc => ?_) (fun hc => ?_)
                    · skip
                      replace h0 := ifb_t h0 hc
                      clear hc
                      refine aw_seq ?_
                      refine aw_region (by decide) ?_
                      refine rts _ rfl (opD_assign (ev_const _ _)) ?_
                      refine .nil ?_
                      refine aw_keep [(2, _)] ⟨lg lz, trivial⟩ ?_
                      refine aw_ret ?_
                      obtain rfl := some_of h0
                      exact done_ext (.inr rfl) ((res_one rfl (it_tmp oz)).le (Pd.le_refl _)) (pl_bnd _ _ _)
                    · skip
                      replace h0 := ifb_f h0 hc
                      clear hc
                      refine aw_seq ?_
                      refine aw_region (by decide) ?_
                      refine rts _ rfl (opD_eql oz (ev_const _ _)) ?_
                      refine rts _ rfl (opD_assign lz) ?_
                      refine .nil ?_
                      refine aw_keep [(23, _)] ⟨lg lz, trivial⟩ ?_
                      refine aw_cond _ oz (fun hc => ?_) (fun hc => ?_)
                      · skip
                        replace h0 := ifb_t h0 hc
                        clear hc
                        refine aw_seq ?_
                        refine aw_region (by decide) ?_
                        refine rts _ rfl (opD_assign (ev_const _ _)) ?_
                        refine .nil ?_
                        refine aw_keep [(2, _)] ⟨lg lz, trivial⟩ ?_
                        refine aw_ret ?_
                        obtain rfl := some_of h0
                        exact done_ext (.inr rfl) ((res_one rfl (it_tmp oz)).le (Pd.le_refl _)) (pl_bnd _ _ _)
                      · skip
                        replace h0 := ifb_f h0 hc
                        clear hc
                        refine aw_skip ?_
                        refine aw_keep [] trivial ?_
                        refine aw_seq ?_
                        refine aw_region (by decide) ?_
                        refine rts _ rfl (opD_assign (ev_const _ _)) ?_
                        refine .nil ?_
                        refine aw_keep [(2, _)] ⟨lg lz, trivial⟩ ?_
                        refine aw_ret ?_
                        obtain rfl := some_of h0
                        exact done_ext (.inr rfl) ((res_one rfl (it_tmp oz)).le (Pd.le_refl _)) (pl_bnd _ _ _)

def F_rtchk (p0 : Int) : Option ((Option Int)) :=
  ifb (decide (63 < p0)) (some (some 1)) (some none)
set_option maxRecDepth 100000 in
set_option maxHeartbeats 2000000 in
theorem c_rtchk {p0 : Int} {R : (Option Int)} (h0 : F_rtchk p0 = some R) : Pure Go.Proofs.Tryd.prog 114 [pl (.int .u8 p0)] (pl (errV R)) := by
  intro s
  unfold F_rtchk at h0
  refine ac_of_aw s.boxes.length s.fr.length Go.Proofs.Tryd.func114 rfl (by simp [Go.Proofs.Tryd.ntmps114]) ?_
  refine aw_ext0 ?_
  refine aw_keep [(0, _)] ⟨lg ez, trivial⟩ ?_
  refine aw_seq ?_
  refine aw_region (by decide) ?_
  refine rts _ rfl (opD_assign (ev_const _ _)) ?_
  refine .nil ?_
  refine aw_keep [(0, _)] ⟨lg (ls rfl oz), trivial⟩ ?_
  refine aw_seq ?_
  refine aw_seq ?_
  refine aw_region (by decide) ?_
  refine rts _ rfl (opD_move oz) ?_
  refine rts _ rfl (opD_gtr lz (ev_const _ _)) ?_
  refine .nil ?_
  refine aw_keep [(4, _)] ⟨lg lz, trivial⟩ ?_
  refine aw_cond _ oz (fun hc => ?_) (fun hc => ?_)
  · skip
    replace h0 := ifb_t h0 hc
    clear hc
    refine aw_seq ?_
    refine aw_region (by decide) ?_
    refine rts _ rfl (opD_ple (q := pl (errV (some 1))) rfl (opD_makeInterface_pl cc107_U4 (ev_const _ _))) ?_
    refine rts _ rfl (opD_assign lz) ?_
    refine .nil ?_
    refine aw_keep [(2, _)] ⟨lg lz, trivial⟩ ?_
    refine aw_ret ?_
    obtain rfl := some_of h0
    exact done_ext (.inr rfl) ((res_one rfl (it_tmp oz)).le (Pd.le_refl _)) (pl_bnd _ _ _)
  · skip
    replace h0 := ifb_f h0 hc
    clear hc
    refine aw_skip ?_
    refine aw_keep [] trivial ?_
    refine aw_seq ?_
    refine aw_region (by decide) ?_
    refine rts _ rfl (opD_assign (ev_const _ _)) ?_
    refine .nil ?_
    refine aw_keep [(2, _)] ⟨lg lz, trivial⟩ ?_
    refine aw_ret ?_
    obtain rfl := some_of h0
    exact done_ext (.inr rfl) ((res_one rfl (it_tmp oz)).le (Pd.le_refl _)) (pl_bnd _ _ _)

def F_qput (p0 : Rq) (p1 : (List Int)) (p2 : Int) : Option ((List Int)) :=
  ifb (decide (p2 = 115)) (bnd (oNum p1 p0.Space) fun x_1 => some x_1) (ifb (decide (p2 = 104)) (bnd (oNum p1 p0.Handle) fun x_2 => some x_2) (ifb (decide (p2 = 116)) (bnd (oNum p1 p0.To) fun x_3 => some x_3) (ifb (decide (p2 = 99)) (bnd (oByte p1 (IntKind.u8.wrap (p0.Ref.Slot))) fun x_4 => bnd (oNum x_4 p0.Ref.Gen) fun x_5 => some x_5) (ifb (decide (p2 = 107)) (bnd (oBytes p1 (bytesOf p0.Key)) fun x_6 => some x_6) (ifb (decide (p2 = 118)) (bnd (oBytes p1 (bytesOf p0.Value)) fun x_7 => some x_7) (ifb (decide (p2 = 114)) (bnd (oByte p1 p0.Rights) fun x_8 => some x_8) (ifb (decide (p2 = 109)) (bnd (oNum p1 p0.Most) fun x_9 => some x_9) (ifb p0.Flag (bnd (oByte p1 1) fun x_10 => some x_10) (bnd (oByte p1 0) fun x_11 => some x_11)))))))))
set_option maxRecDepth 100000 in
set_option maxHeartbeats 2000000 in
theorem c_qput {p0 : Rq} {p1 : (List Int)} {p2 : Int} {R : (List Int)} {s : St} {g : Nat} (h0 : F_qput p0 p1 p2 = some R) (hG : s.boxes[g]? = some ⟨118, [pl (.int .u8 p0.Kind), pl (.int .u64 p0.Space), pl (.int .u64 p0.Handle), pl (.int .i64 p0.Ref.Slot), pl (.int .u64 p0.Ref.Gen), pl (.int .u64 p0.To), pl (.string p0.Key), pl (.string p0.Value), pl (.int .u8 p0.Rights), pl (.int .u64 p0.Most), pl (.bool p0.Flag)]⟩) : AC Go.Proofs.Tryd.prog 127 [ptr g 0, sl (kI .u8) none none p1, pl (.int .u8 p2)] s (sl (kI .u8) none none R) s := by
  have hlt := (List.getElem?_eq_some_iff.1 hG).1
  unfold F_qput at h0
  refine ac_of_aw s.boxes.length s.fr.length Go.Proofs.Tryd.func127 rfl (by simp [Go.Proofs.Tryd.ntmps127]) ?_
  refine aw_ext0 ?_
  refine aw_upd0 hG ?_
  obtain ⟨N, hNs⟩ : ∃ N, s.boxes.length = N := ⟨_, rfl⟩
  refine aw_keep [(0, _), (1, _), (2, _)] ⟨lg ez, lg (es ez), lg (es (es ez)), trivial⟩ ?_
  refine aw_seq ?_
  refine aw_region (by decide) ?_
  refine rts _ rfl (opD_assign (ev_const _ _)) ?_
  refine .nil ?_
  refine aw_keep [(0, _), (1, _), (2, _)] ⟨lg (ls rfl oz), lg (ls rfl (os rfl oz)), lg (ls rfl (os rfl (os rfl oz))), trivial⟩ ?_
  refine aw_seq ?_
  refine aw_seq ?_
  refine aw_region (by decide) ?_
  refine rts _ rfl (opD_move (os rfl (os rfl oz))) ?_
  refine .nil ?_
  refine aw_keep [(0, _), (1, _), (7, _)] ⟨lg (ls rfl oz), lg (ls rfl (os rfl oz)), lg lz, trivial⟩ ?_
  refine aw_block ?_
  refine aw_seq ?_
  refine aw_region (by decide) ?_
  refine rts _ rfl (opD_eql (os rfl (os rfl oz)) (ev_const _ _)) ?_
  refine rts _ rfl (opD_assign lz) ?_
  refine .nil ?_
  refine aw_keep [(0, _), (1, _), (7, _), (8, _)] ⟨lg (ls rfl (ls rfl oz)), lg (ls rfl (ls rfl (os rfl oz))), lg (ls rfl (ls rfl (os rfl (os rfl oz)))), lg lz, trivial⟩ ?_
  refine aw_cond _ (os rfl (os rfl (os rfl oz))) (fun hc => ?_) (fun hc => ?_)
  · skip
    replace h0 := ifb_t h0 hc
    clear hc
    refine aw_seq ?_
    refine aw_region (by decide) ?_
    refine rts _ rfl (opD_move (os rfl oz)) ?_
    refine rts _ rfl (opD_move (ls rfl oz)) ?_
    refine rts _ rfl (opD_nilCheck_ptr lz) ?_
    refine rts _ rfl (opD_fieldAddr fo118_1_U4 lz) ?_
    refine rts _ rfl (opD_load_one ag22_U4 lz (updx_get hlt) rfl) ?_
    replace h0 := bnd_some h0
    obtain ⟨x_1, hx_1, h0⟩ := h0
    refine rts _ rfl (opD_own1 ht21_U4 (c_oNum hx_1) ⟨le_of_eq (ls rfl (ls rfl (ls rfl (ls rfl lz)))), le_of_eq lz, trivial⟩ (by first | exact List.length_nil | (simp only [List.length_cons, List.length_nil, Nat.zero_add, Nat.reduceAdd] <;> rfl)) (by simp only [na, nb, nc, nd, nf, ng, nh, ni, nj, nk] <;> rfl)) ?_
    refine rts _ rfl (opD_assign lz) ?_
    refine .nil ?_
    refine aw_keep [(6, _)] ⟨lg lz, trivial⟩ ?_
    refine aw_ret ?_
    obtain rfl := some_of h0
    exact done_updS hG (.inr rfl) ((res_one rfl (it_tmp oz)).le (sl_any _ _ _ _)) (sl_b (kb_I _))
  · skip
    replace h0 := ifb_f h0 hc
    clear hc
    refine aw_seq ?_
    refine aw_region (by decide) ?_
    refine rts _ rfl (opD_eql (os rfl (os rfl oz)) (ev_const _ _)) ?_
    refine rts _ rfl (opD_assign lz) ?_
    refine .nil ?_
    refine aw_keep [(0, _), (1, _), (7, _), (16, _)] ⟨lg (ls rfl (ls rfl oz)), lg (ls rfl (ls rfl (os rfl oz))), lg (ls rfl (ls rfl (os rfl (os rfl oz)))), lg lz, trivial⟩ ?_
    refine aw_cond _ (os rfl (os rfl (os rfl oz))) (fun hc => ?_) (fun hc => ?_)
    · skip
      replace h0 := ifb_t h0 hc
      clear hc
      refine aw_seq ?_
      refine aw_region (by decide) ?_
      refine rts _ rfl (opD_move (os rfl oz)) ?_
      refine rts _ rfl (opD_move (ls rfl oz)) ?_
      refine rts _ rfl (opD_nilCheck_ptr lz) ?_
      refine rts _ rfl (opD_fieldAddr fo118_2_U4 lz) ?_
      refine rts _ rfl (opD_load_one ag22_U4 lz (updx_get hlt) rfl) ?_
      replace h0 := bnd_some h0
      obtain ⟨x_2, hx_2, h0⟩ := h0
      refine rts _ rfl (opD_own1 ht21_U4 (c_oNum hx_2) ⟨le_of_eq (ls rfl (ls rfl (ls rfl (ls rfl lz)))), le_of_eq lz, trivial⟩ (by first | exact List.length_nil | (simp only [List.length_cons, List.length_nil, Nat.zero_add, Nat.reduceAdd] <;> rfl)) (by simp only [na, nb, nc, nd, nf, ng, nh, ni, nj, nk] <;> rfl)) ?_
      refine rts _ rfl (opD_assign lz) ?_
      refine .nil ?_
      refine aw_keep [(6, _)] ⟨lg lz, trivial⟩ ?_
      refine aw_ret ?_
      obtain rfl := some_of h0
      exact done_updS hG (.inr rfl) ((res_one rfl (it_tmp oz)).le (sl_any _ _ _ _)) (sl_b (kb_I _))
    · skip
      replace h0 := ifb_f h0 hc
      clear hc
      refine aw_seq ?_
      refine aw_region (by decide) ?_
      refine rts _ rfl (opD_eql (os rfl (os rfl oz)) (ev_const _ _)) ?_
      refine rts _ rfl (opD_assign lz) ?_
      refine .nil ?_
      refine aw_keep [(0, _), (1, _), (7, _), (24, _)] ⟨lg (ls rfl (ls rfl oz)), lg (ls rfl (ls rfl (os rfl oz))), lg (ls rfl (ls rfl (os rfl (os rfl oz)))), lg lz, trivial⟩ ?_
      refine aw_cond _ (os rfl (os rfl (os rfl oz))) (fun hc => ?_) (fun hc => ?_)
      · skip
        replace h0 := ifb_t h0 hc
        clear hc
        refine aw_seq ?_
        refine aw_region (by decide) ?_
        refine rts _ rfl (opD_move (os rfl oz)) ?_
        refine rts _ rfl (opD_move (ls rfl oz)) ?_
        refine rts _ rfl (opD_nilCheck_ptr lz) ?_
        refine rts _ rfl (opD_fieldAddr fo118_4_U4 lz) ?_
        refine rts _ rfl (opD_load_one ag22_U4 lz (updx_get hlt) rfl) ?_
        replace h0 := bnd_some h0
        obtain ⟨x_3, hx_3, h0⟩ := h0
        refine rts _ rfl (opD_own1 ht21_U4 (c_oNum hx_3) ⟨le_of_eq (ls rfl (ls rfl (ls rfl (ls rfl lz)))), le_of_eq lz, trivial⟩ (by first | exact List.length_nil | (simp only [List.length_cons, List.length_nil, Nat.zero_add, Nat.reduceAdd] <;> rfl)) (by simp only [na, nb, nc, nd, nf, ng, nh, ni, nj, nk] <;> rfl)) ?_
        refine rts _ rfl (opD_assign lz) ?_
        refine .nil ?_
        refine aw_keep [(6, _)] ⟨lg lz, trivial⟩ ?_
        refine aw_ret ?_
        obtain rfl := some_of h0
        exact done_updS hG (.inr rfl) ((res_one rfl (it_tmp oz)).le (sl_any _ _ _ _)) (sl_b (kb_I _))
      · skip
        replace h0 := ifb_f h0 hc
        clear hc
        refine aw_seq ?_
        refine aw_region (by decide) ?_
        refine rts _ rfl (opD_eql (os rfl (os rfl oz)) (ev_const _ _)) ?_
        refine rts _ rfl (opD_assign lz) ?_
        refine .nil ?_
        refine aw_keep [(0, _), (1, _), (7, _), (32, _)] ⟨lg (ls rfl (ls rfl oz)), lg (ls rfl (ls rfl (os rfl oz))), lg (ls rfl (ls rfl (os rfl (os rfl oz)))), lg lz, trivial⟩ ?_
        refine aw_cond _ (os rfl (os rfl (os rfl oz))) (fun hc => ?_) (fun hc => ?_)
        · skip
          replace h0 := ifb_t h0 hc
          clear hc
          refine aw_seq ?_
          refine aw_drawn [false, false, false, false, false, false, false, true, false, false, false, false, false, true, false] [[0], [0], [0], [0], [0], [0], [0], [0, 1], [0, 1], [0, 1], [0, 1], [0, 1], [0, 1], [1, 2], [2]] mixed_U4 (by decide +kernel) ?_
          refine dtp _ rfl (fun s => opD_move (os rfl oz)) ?_
          refine dtp _ rfl (fun s => opD_move (ls rfl oz)) ?_
          refine dtp _ rfl (fun s => opD_nilCheck_ptr lz) ?_
          refine dtp _ rfl (fun s => opD_fieldAddr fo118_3_U4 lz) ?_
          refine dtp _ rfl (fun s => opD_fieldAddr fo116_0_U4 lz) ?_
          refine dtlG1 ag3_U4 lz (updx_get hlt) rfl rfl ?_
          refine dtp _ rfl (fun s => opD_conv_int Go.Proofs.Tryd.underlying3 Go.Proofs.Tryd.underlying5 lz rfl) ?_
          replace h0 := bnd_some h0
          obtain ⟨x_4, hx_4, h0⟩ := h0
          refine dta _ rfl (opD_own1 ht19_U4 (c_oByte hx_4) ⟨le_of_eq (ls rfl (ls rfl (ls rfl (ls rfl (ls rfl (ls rfl lz)))))), le_of_eq lz, trivial⟩ (by first | exact List.length_nil | (simp only [List.length_cons, List.length_nil, Nat.zero_add, Nat.reduceAdd] <;> rfl)) (by simp only [na, nb, nc, nd, nf, ng, nh, ni, nj, nk] <;> rfl)) ?_
          refine dtp _ rfl (fun s => opD_move (ls rfl (ls rfl (ls rfl (ls rfl (ls rfl (ls rfl (ls rfl (ls rfl oz))))))))) ?_
          refine dtp _ rfl (fun s => opD_nilCheck_ptr lz) ?_
          refine dtp _ rfl (fun s => opD_fieldAddr fo118_3_U4 lz) ?_
          refine dtp _ rfl (fun s => opD_fieldAddr fo116_1_U4 lz) ?_
          refine dtlG1 ag22_U4 lz (updx_get hlt) rfl rfl ?_
          replace h0 := bnd_some h0
          obtain ⟨x_5, hx_5, h0⟩ := h0
          refine dta _ rfl (opD_adopt (j := 0) (kb_I _) (opD_own1 ht21_U4 (c_oNum hx_5) ⟨(le_of_eq (ls rfl (ls rfl (ls rfl (ls rfl (ls rfl lz)))))).trans (sl_any _ _ _ _), le_of_eq lz, trivial⟩ (by first | exact List.length_nil | (simp only [List.length_cons, List.length_nil, Nat.zero_add, Nat.reduceAdd] <;> rfl)) rfl) (by first | exact List.length_nil | (simp only [List.length_cons, List.length_nil, Nat.zero_add, Nat.reduceAdd] <;> rfl)) rfl (len_oNum hx_5) (by simp only [na, nb, nc, nd, nf, ng, nh, ni, nj, nk] <;> rfl)) ?_
          refine dtp _ rfl (fun s => opD_assign lz) ?_
          refine .nil ?_
          dsimp only [List.nil_append, List.cons_append]
          refine ⟨rfl, ⟨trivial, trivial, trivial, trivial, trivial, ⟨(by first | exact loc_getN ((upd_boxes_length _ _ _).trans hNs) rfl | exact updx_get hlt | exact upd2_g hgh hlt | exact upd2_h hlt2), trivial⟩, trivial, trivial, trivial, trivial, trivial, trivial, ⟨(by first | exact loc_getN ((upd_boxes_length _ _ _).trans hNs) rfl | exact updx_get hlt | exact upd2_g hgh hlt | exact upd2_h hlt2), (by first | exact loc_getN ((upd_boxes_length _ _ _).trans hNs) rfl | exact updx_get hlt | exact upd2_g hgh hlt | exact upd2_h hlt2), trivial⟩, trivial, trivial, trivial⟩, ?_⟩
          refine aw_keep [(6, _)] ⟨lg lz, trivial⟩ ?_
          refine aw_ret ?_
          obtain rfl := some_of h0
          exact done_updS hG (.inr rfl) ((res_one rfl (it_tmp oz)).le (sl_any _ _ _ _)) (sl_b (kb_I _))
        · skip
          replace h0 := ifb_f h0 hc
          clear hc
          refine aw_seq ?_
          refine aw_region (by decide) ?_
          refine rts _ rfl (opD_eql (os rfl (os rfl oz)) (ev_const _ _)) ?_
          refine rts _ rfl (opD_assign lz) ?_
          refine .nil ?_
          refine aw_keep [(0, _), (1, _), (7, _), (48, _)] ⟨lg (ls rfl (ls rfl oz)), lg (ls rfl (ls rfl (os rfl oz))), lg (ls rfl (ls rfl (os rfl (os rfl oz)))), lg lz, trivial⟩ ?_
          refine aw_cond _ (os rfl (os rfl (os rfl oz))) (fun hc => ?_) (fun hc => ?_)
          · skip
            replace h0 := ifb_t h0 hc
            clear hc
            refine aw_seq ?_
            refine aw_region (by decide) ?_
            refine rts _ rfl (opD_move (os rfl oz)) ?_
            refine rts _ rfl (opD_move (ls rfl oz)) ?_
            refine rts _ rfl (opD_nilCheck_ptr lz) ?_
            refine rts _ rfl (opD_fieldAddr fo118_5_U4 lz) ?_
            refine rts _ rfl (opD_load_one ag9_U4 lz (updx_get hlt) rfl) ?_
            refine rts _ rfl (opD_str_bytes Go.Proofs.Tryd.underlying9 Go.Proofs.Tryd.underlying23 Go.Proofs.Tryd.underlying5 lz) ?_
            replace h0 := bnd_some h0
            obtain ⟨x_6, hx_6, h0⟩ := h0
            refine rts _ rfl (opD_own1 ht20_U4 (c_oBytes hx_6) ⟨le_of_eq (ls rfl (ls rfl (ls rfl (ls rfl (ls rfl lz))))), (le_of_eq lz).trans (sl_any _ _ _ _), trivial⟩ (by first | exact List.length_nil | (simp only [List.length_cons, List.length_nil, Nat.zero_add, Nat.reduceAdd] <;> rfl)) (by simp only [na, nb, nc, nd, nf, ng, nh, ni, nj, nk] <;> rfl)) ?_
            refine rts _ rfl (opD_assign lz) ?_
            refine .nil ?_
            refine aw_keep [(6, _)] ⟨lg lz, trivial⟩ ?_
            refine aw_ret ?_
            obtain rfl := some_of h0
            exact done_updS hG (.inr rfl) ((res_one rfl (it_tmp oz)).le (sl_any _ _ _ _)) (sl_b (kb_I _))
          · skip
            replace h0 := ifb_f h0 hc
            clear hc
            refine aw_seq ?_
            refine aw_region (by decide) ?_
            refine rts _ rfl (opD_eql (os rfl (os rfl oz)) (ev_const _ _)) ?_
            refine rts _ rfl (opD_assign lz) ?_
            refine .nil ?_
            refine aw_keep [(0, _), (1, _), (7, _), (57, _)] ⟨lg (ls rfl (ls rfl oz)), lg (ls rfl (ls rfl (os rfl oz))), lg (ls rfl (ls rfl (os rfl (os rfl oz)))), lg lz, trivial⟩ ?_
            refine aw_cond _ (os rfl (os rfl (os rfl oz))) (fun hc => ?_) (fun hc => ?_)
            · skip
              replace h0 := ifb_t h0 hc
              clear hc
              refine aw_seq ?_
              refine aw_region (by decide) ?_
              refine rts _ rfl (opD_move (os rfl oz)) ?_
              refine rts _ rfl (opD_move (ls rfl oz)) ?_
              refine rts _ rfl (opD_nilCheck_ptr lz) ?_
              refine rts _ rfl (opD_fieldAddr fo118_6_U4 lz) ?_
              refine rts _ rfl (opD_load_one ag9_U4 lz (updx_get hlt) rfl) ?_
              refine rts _ rfl (opD_str_bytes Go.Proofs.Tryd.underlying9 Go.Proofs.Tryd.underlying23 Go.Proofs.Tryd.underlying5 lz) ?_
              replace h0 := bnd_some h0
              obtain ⟨x_7, hx_7, h0⟩ := h0
              refine rts _ rfl (opD_own1 ht20_U4 (c_oBytes hx_7) ⟨le_of_eq (ls rfl (ls rfl (ls rfl (ls rfl (ls rfl lz))))), (le_of_eq lz).trans (sl_any _ _ _ _), trivial⟩ (by first | exact List.length_nil | (simp only [List.length_cons, List.length_nil, Nat.zero_add, Nat.reduceAdd] <;> rfl)) (by simp only [na, nb, nc, nd, nf, ng, nh, ni, nj, nk] <;> rfl)) ?_
              refine rts _ rfl (opD_assign lz) ?_
              refine .nil ?_
              refine aw_keep [(6, _)] ⟨lg lz, trivial⟩ ?_
              refine aw_ret ?_
              obtain rfl := some_of h0
              exact done_updS hG (.inr rfl) ((res_one rfl (it_tmp oz)).le (sl_any _ _ _ _)) (sl_b (kb_I _))
            · skip
              replace h0 := ifb_f h0 hc
              clear hc
              refine aw_seq ?_
              refine aw_region (by decide) ?_
              refine rts _ rfl (opD_eql (os rfl (os rfl oz)) (ev_const _ _)) ?_
              refine rts _ rfl (opD_assign lz) ?_
              refine .nil ?_
              refine aw_keep [(0, _), (1, _), (7, _), (66, _)] ⟨lg (ls rfl (ls rfl oz)), lg (ls rfl (ls rfl (os rfl oz))), lg (ls rfl (ls rfl (os rfl (os rfl oz)))), lg lz, trivial⟩ ?_
              refine aw_cond _ (os rfl (os rfl (os rfl oz))) (fun hc => ?_) (fun hc => ?_)
              · skip
                replace h0 := ifb_t h0 hc
                clear hc
                refine aw_seq ?_
                refine aw_region (by decide) ?_
                refine rts _ rfl (opD_move (os rfl oz)) ?_
                refine rts _ rfl (opD_move (ls rfl oz)) ?_
                refine rts _ rfl (opD_nilCheck_ptr lz) ?_
                refine rts _ rfl (opD_fieldAddr fo118_7_U4 lz) ?_
                refine rts _ rfl (opD_load_one ag5_U4 lz (updx_get hlt) rfl) ?_
                replace h0 := bnd_some h0
                obtain ⟨x_8, hx_8, h0⟩ := h0
                refine rts _ rfl (opD_own1 ht19_U4 (c_oByte hx_8) ⟨le_of_eq (ls rfl (ls rfl (ls rfl (ls rfl lz)))), le_of_eq lz, trivial⟩ (by first | exact List.length_nil | (simp only [List.length_cons, List.length_nil, Nat.zero_add, Nat.reduceAdd] <;> rfl)) (by simp only [na, nb, nc, nd, nf, ng, nh, ni, nj, nk] <;> rfl)) ?_
                refine rts _ rfl (opD_assign lz) ?_
                refine .nil ?_
                refine aw_keep [(6, _)] ⟨lg lz, trivial⟩ ?_
                refine aw_ret ?_
                obtain rfl := some_of h0
                exact done_updS hG (.inr rfl) ((res_one rfl (it_tmp oz)).le (sl_any _ _ _ _)) (sl_b (kb_I _))
              · skip
                replace h0 := ifb_f h0 hc
                clear hc
                refine aw_seq ?_
                refine aw_region (by decide) ?_
                refine rts _ rfl (opD_eql (os rfl (os rfl oz)) (ev_const _ _)) ?_
                refine rts _ rfl (opD_assign lz) ?_
                refine .nil ?_
                refine aw_keep [(0, _), (1, _), (74, _)] ⟨lg (ls rfl (ls rfl oz)), lg (ls rfl (ls rfl (os rfl oz))), lg lz, trivial⟩ ?_
                refine aw_cond _ (os rfl (os rfl oz)) (fun hc => ?_) (fun hc => ?_)
                · skip
                  replace h0 := ifb_t h0 hc
                  clear hc
                  refine aw_seq ?_
                  refine aw_region (by decide) ?_
                  refine rts _ rfl (opD_move (os rfl oz)) ?_
                  refine rts _ rfl (opD_move (ls rfl oz)) ?_
                  refine rts _ rfl (opD_nilCheck_ptr lz) ?_
                  refine rts _ rfl (opD_fieldAddr fo118_8_U4 lz) ?_
                  refine rts _ rfl (opD_load_one ag22_U4 lz (updx_get hlt) rfl) ?_
                  replace h0 := bnd_some h0
                  obtain ⟨x_9, hx_9, h0⟩ := h0
                  refine rts _ rfl (opD_own1 ht21_U4 (c_oNum hx_9) ⟨le_of_eq (ls rfl (ls rfl (ls rfl (ls rfl lz)))), le_of_eq lz, trivial⟩ (by first | exact List.length_nil | (simp only [List.length_cons, List.length_nil, Nat.zero_add, Nat.reduceAdd] <;> rfl)) (by simp only [na, nb, nc, nd, nf, ng, nh, ni, nj, nk] <;> rfl)) ?_
                  refine rts _ rfl (opD_assign lz) ?_
                  refine .nil ?_
                  refine aw_keep [(6, _)] ⟨lg lz, trivial⟩ ?_
                  refine aw_ret ?_
                  obtain rfl := some_of h0
                  exact done_updS hG (.inr rfl) ((res_one rfl (it_tmp oz)).le (sl_any _ _ _ _)) (sl_b (kb_I _))
                · skip
                  replace h0 := ifb_f h0 hc
                  clear hc
                  refine aw_skip ?_
                  refine aw_keep [(0, _), (1, _)] ⟨lg oz, lg (os rfl oz), trivial⟩ ?_
                  refine aw_seq ?_
                  refine aw_seq ?_
                  refine aw_region (by decide) ?_
                  refine rts _ rfl (opD_move oz) ?_
                  refine rts _ rfl (opD_nilCheck_ptr lz) ?_
                  refine rts _ rfl (opD_fieldAddr fo118_9_U4 lz) ?_
                  refine rts _ rfl (opD_load_one ag4_U4 lz (updx_get hlt) rfl) ?_
                  refine .nil ?_
                  refine aw_keep [(1, _), (85, _)] ⟨lg (ls rfl (ls rfl (ls rfl (ls rfl (os rfl oz))))), lg lz, trivial⟩ ?_
                  refine aw_cond _ (os rfl oz) (fun hc => ?_) (fun hc => ?_)
                  · skip
                    replace h0 := ifb_t h0 hc
                    clear hc
                    refine aw_seq ?_
                    refine aw_region (by decide) ?_
                    refine rts _ rfl (opD_move oz) ?_
                    replace h0 := bnd_some h0
                    obtain ⟨x_10, hx_10, h0⟩ := h0
                    refine rts _ rfl (opD_own1 ht19_U4 (c_oByte hx_10) ⟨le_of_eq lz, le_of_eq (ev_const _ _), trivial⟩ (by first | exact List.length_nil | (simp only [List.length_cons, List.length_nil, Nat.zero_add, Nat.reduceAdd] <;> rfl)) (by simp only [na, nb, nc, nd, nf, ng, nh, ni, nj, nk] <;> rfl)) ?_
                    refine rts _ rfl (opD_assign lz) ?_
                    refine .nil ?_
                    refine aw_keep [(6, _)] ⟨lg lz, trivial⟩ ?_
                    refine aw_ret ?_
                    obtain rfl := some_of h0
                    exact done_updS hG (.inr rfl) ((res_one rfl (it_tmp oz)).le (sl_any _ _ _ _)) (sl_b (kb_I _))
                  · skip
                    replace h0 := ifb_f h0 hc
                    clear hc
                    refine aw_skip ?_
                    refine aw_keep [(1, _)] ⟨lg oz, trivial⟩ ?_
                    refine aw_seq ?_
                    refine aw_region (by decide) ?_
                    refine rts _ rfl (opD_move oz) ?_
                    replace h0 := bnd_some h0
                    obtain ⟨x_11, hx_11, h0⟩ := h0
                    refine rts _ rfl (opD_own1 ht19_U4 (c_oByte hx_11) ⟨le_of_eq lz, le_of_eq (ev_const _ _), trivial⟩ (by first | exact List.length_nil | (simp only [List.length_cons, List.length_nil, Nat.zero_add, Nat.reduceAdd] <;> rfl)) (by simp only [na, nb, nc, nd, nf, ng, nh, ni, nj, nk] <;> rfl)) ?_
                    refine rts _ rfl (opD_assign lz) ?_
                    refine .nil ?_
                    refine aw_keep [(6, _)] ⟨lg lz, trivial⟩ ?_
                    refine aw_ret ?_
                    obtain rfl := some_of h0
                    exact done_updS hG (.inr rfl) ((res_one rfl (it_tmp oz)).le (sl_any _ _ _ _)) (sl_b (kb_I _))

def F_qtake (p0 : Rq) (p1 : Rdr) (p2 : Int) : Option (Rq × Rdr) :=
  ifb (decide (p2 = 115)) (bnd (oRNum p1 4611686018427387904) fun x_1 => some ((⟨p0.Kind, x_1.1, p0.Handle, p0.Ref, p0.To, p0.Key, p0.Value, p0.Rights, p0.Most, p0.Flag⟩ : Rq), x_1.2)) (ifb (decide (p2 = 104)) (bnd (oRNum p1 4611686018427387904) fun x_2 => some ((⟨p0.Kind, p0.Space, x_2.1, p0.Ref, p0.To, p0.Key, p0.Value, p0.Rights, p0.Most, p0.Flag⟩ : Rq), x_2.2)) (ifb (decide (p2 = 116)) (bnd (oRNum p1 4611686018427387904) fun x_3 => some ((⟨p0.Kind, p0.Space, p0.Handle, p0.Ref, x_3.1, p0.Key, p0.Value, p0.Rights, p0.Most, p0.Flag⟩ : Rq), x_3.2)) (ifb (decide (p2 = 99)) (bnd (oRByte p1) fun x_4 => bnd (oRNum x_4.2 4611686018427387904) fun x_5 => some ((⟨p0.Kind, p0.Space, p0.Handle, (⟨IntKind.i64.wrap (x_4.1), x_5.1⟩ : Rf), p0.To, p0.Key, p0.Value, p0.Rights, p0.Most, p0.Flag⟩ : Rq), x_5.2)) (ifb (decide (p2 = 107)) (bnd (oRBytes p1 39) fun x_6 => some ((⟨p0.Kind, p0.Space, p0.Handle, p0.Ref, p0.To, (strOf x_6.1), p0.Value, p0.Rights, p0.Most, p0.Flag⟩ : Rq), x_6.2)) (ifb (decide (p2 = 118)) (bnd (oRBytes p1 2048) fun x_7 => some ((⟨p0.Kind, p0.Space, p0.Handle, p0.Ref, p0.To, p0.Key, (strOf x_7.1), p0.Rights, p0.Most, p0.Flag⟩ : Rq), x_7.2)) (ifb (decide (p2 = 114)) (bnd (oRByte p1) fun x_8 => some ((⟨p0.Kind, p0.Space, p0.Handle, p0.Ref, p0.To, p0.Key, p0.Value, x_8.1, p0.Most, p0.Flag⟩ : Rq), x_8.2)) (ifb (decide (p2 = 109)) (bnd (oRNum p1 65536) fun x_9 => some ((⟨p0.Kind, p0.Space, p0.Handle, p0.Ref, p0.To, p0.Key, p0.Value, p0.Rights, x_9.1, p0.Flag⟩ : Rq), x_9.2)) (ifb (decide (p2 = 102)) (bnd (oRByte p1) fun x_10 => some ((⟨p0.Kind, p0.Space, p0.Handle, p0.Ref, p0.To, p0.Key, p0.Value, p0.Rights, p0.Most, (decide (x_10.1 = 1))⟩ : Rq), x_10.2)) (some (p0, p1))))))))))
set_option maxRecDepth 100000 in
set_option maxHeartbeats 2000000 in
theorem c_qtake {p0 : Rq} {p1 : Rdr} {p2 : Int} {R : Rq × Rdr} {s : St} {g h : Nat} (h0 : F_qtake p0 p1 p2 = some R) (hgh : g ≠ h) (hG : s.boxes[g]? = some ⟨118, [pl (.int .u8 p0.Kind), pl (.int .u64 p0.Space), pl (.int .u64 p0.Handle), pl (.int .i64 p0.Ref.Slot), pl (.int .u64 p0.Ref.Gen), pl (.int .u64 p0.To), pl (.string p0.Key), pl (.string p0.Value), pl (.int .u8 p0.Rights), pl (.int .u64 p0.Most), pl (.bool p0.Flag)]⟩) (hH : s.boxes[h]? = some ⟨164, [sl (kI .u8) none none p1.b_, pl (.bool p1.wrong_)]⟩) : AC Go.Proofs.Tryd.prog 128 [ptr g 0, ptr h 0, pl (.int .u8 p2)] s (pl (.tuple #[])) ((s.upd g ⟨118, [pl (.int .u8 R.1.Kind), pl (.int .u64 R.1.Space), pl (.int .u64 R.1.Handle), pl (.int .i64 R.1.Ref.Slot), pl (.int .u64 R.1.Ref.Gen), pl (.int .u64 R.1.To), pl (.string R.1.Key), pl (.string R.1.Value), pl (.int .u8 R.1.Rights), pl (.int .u64 R.1.Most), pl (.bool R.1.Flag)]⟩).upd h ⟨164, [sl (kI .u8) none none R.2.b_, pl (.bool R.2.wrong_)]⟩) := by
  have hlt := (List.getElem?_eq_some_iff.1 hG).1
  have hlt2 := (List.getElem?_eq_some_iff.1 hH).1
  unfold F_qtake at h0
  refine ac_of_aw s.boxes.length s.fr.length Go.Proofs.Tryd.func128 rfl (by simp [Go.Proofs.Tryd.ntmps128]) ?_
  refine aw_ext0 ?_
  refine aw_upd00 hgh hG hH ?_
  obtain ⟨N, hNs⟩ : ∃ N, s.boxes.length = N := ⟨_, rfl⟩
  refine aw_keep [(0, _), (1, _), (2, _)] ⟨lg ez, lg (es ez), lg (es (es ez)), trivial⟩ ?_
  refine aw_seq ?_
  refine aw_region (by decide) ?_
  refine rts _ rfl (opD_move (os rfl (os rfl oz))) ?_
  refine .nil ?_
  refine aw_keep [(0, _), (1, _), (6, _)] ⟨lg (ls rfl oz), lg (ls rfl (os rfl oz)), lg lz, trivial⟩ ?_
  refine aw_block ?_
  refine aw_seq ?_
  refine aw_region (by decide) ?_
  refine rts _ rfl (opD_eql (os rfl (os rfl oz)) (ev_const _ _)) ?_
  refine rts _ rfl (opD_assign lz) ?_
  refine .nil ?_
  refine aw_keep [(0, _), (1, _), (6, _), (7, _)] ⟨lg (ls rfl (ls rfl oz)), lg (ls rfl (ls rfl (os rfl oz))), lg (ls rfl (ls rfl (os rfl (os rfl oz)))), lg lz, trivial⟩ ?_
  refine aw_cond _ (os rfl (os rfl (os rfl oz))) (fun hc => ?_) (fun hc => ?_)
  · skip
    replace h0 := ifb_t h0 hc
    clear hc
    refine aw_region (by decide) ?_
    refine rts _ rfl (opD_move oz) ?_
    refine rts _ rfl (opD_move (ls rfl (os rfl oz))) ?_
    replace h0 := bnd_some h0
    obtain ⟨x_1, hx_1, h0⟩ := h0
    refine rts _ rfl (call2h ht23_U4 (fun s h => c_oRNum hx_1 h) hlt2 ⟨le_of_eq lz, le_of_eq (ev_const _ _), trivial⟩) ?_
    refine rts _ rfl (opD_nilCheck_ptr (ls rfl (ls rfl lz))) ?_
    refine rts _ rfl (opD_fieldAddr fo118_1_U4 lz) ?_
    refine rts _ rfl (store2g (A' := ⟨118, [pl (.int .u8 p0.Kind), pl (.int .u64 x_1.1), pl (.int .u64 p0.Handle), pl (.int .i64 p0.Ref.Slot), pl (.int .u64 p0.Ref.Gen), pl (.int .u64 p0.To), pl (.string p0.Key), pl (.string p0.Value), pl (.int .u8 p0.Rights), pl (.int .u64 p0.Most), pl (.bool p0.Flag)]⟩) sz22_U4 lz ((le_of_eq (ls rfl (ls rfl lz))).trans (Pd.le_refl _)) (one_pl rfl) hgh hlt (Nat.le_of_ble_eq_true rfl) (pl_bnd _ _ _) rfl) ?_
    refine .nil ?_
    obtain rfl := some_of h0
    exact done_upd2 (.inl rfl) (res_0 rfl) (pl_bnd _ _ _) (bnd_cons (pl_bnd _ _ _) (bnd_cons (pl_bnd _ _ _) (bnd_cons (pl_bnd _ _ _) (bnd_cons (pl_bnd _ _ _) (bnd_cons (pl_bnd _ _ _) (bnd_cons (pl_bnd _ _ _) (bnd_cons (pl_bnd _ _ _) (bnd_cons (pl_bnd _ _ _) (bnd_cons (pl_bnd _ _ _) (bnd_cons (pl_bnd _ _ _) (bnd_cons (pl_bnd _ _ _) bnd_nil))))))))))) (bnd_cons (sl_b (kb_I _)) (bnd_cons (pl_bnd _ _ _) bnd_nil))
  · skip
    replace h0 := ifb_f h0 hc
    clear hc
    refine aw_seq ?_
    refine aw_region (by decide) ?_
    refine rts _ rfl (opD_eql (os rfl (os rfl oz)) (ev_const _ _)) ?_
    refine rts _ rfl (opD_assign lz) ?_
    refine .nil ?_
    refine aw_keep [(0, _), (1, _), (6, _), (14, _)] ⟨lg (ls rfl (ls rfl oz)), lg (ls rfl (ls rfl (os rfl oz))), lg (ls rfl (ls rfl (os rfl (os rfl oz)))), lg lz, trivial⟩ ?_
    refine aw_cond _ (os rfl (os rfl (os rfl oz))) (fun hc => ?_) (fun hc => ?_)
    · skip
      replace h0 := ifb_t h0 hc
      clear hc
      refine aw_region (by decide) ?_
      refine rts _ rfl (opD_move oz) ?_
      refine rts _ rfl (opD_move (ls rfl (os rfl oz))) ?_
      replace h0 := bnd_some h0
      obtain ⟨x_2, hx_2, h0⟩ := h0
      refine rts _ rfl (call2h ht23_U4 (fun s h => c_oRNum hx_2 h) hlt2 ⟨le_of_eq lz, le_of_eq (ev_const _ _), trivial⟩) ?_
      refine rts _ rfl (opD_nilCheck_ptr (ls rfl (ls rfl lz))) ?_
      refine rts _ rfl (opD_fieldAddr fo118_2_U4 lz) ?_
      refine rts _ rfl (store2g (A' := ⟨118, [pl (.int .u8 p0.Kind), pl (.int .u64 p0.Space), pl (.int .u64 x_2.1), pl (.int .i64 p0.Ref.Slot), pl (.int .u64 p0.Ref.Gen), pl (.int .u64 p0.To), pl (.string p0.Key), pl (.string p0.Value), pl (.int .u8 p0.Rights), pl (.int .u64 p0.Most), pl (.bool p0.Flag)]⟩) sz22_U4 lz ((le_of_eq (ls rfl (ls rfl lz))).trans (Pd.le_refl _)) (one_pl rfl) hgh hlt (Nat.le_of_ble_eq_true rfl) (pl_bnd _ _ _) rfl) ?_
      refine .nil ?_
      obtain rfl := some_of h0
      exact done_upd2 (.inl rfl) (res_0 rfl) (pl_bnd _ _ _) (bnd_cons (pl_bnd _ _ _) (bnd_cons (pl_bnd _ _ _) (bnd_cons (pl_bnd _ _ _) (bnd_cons (pl_bnd _ _ _) (bnd_cons (pl_bnd _ _ _) (bnd_cons (pl_bnd _ _ _) (bnd_cons (pl_bnd _ _ _) (bnd_cons (pl_bnd _ _ _) (bnd_cons (pl_bnd _ _ _) (bnd_cons (pl_bnd _ _ _) (bnd_cons (pl_bnd _ _ _) bnd_nil))))))))))) (bnd_cons (sl_b (kb_I _)) (bnd_cons (pl_bnd _ _ _) bnd_nil))
    · skip
      replace h0 := ifb_f h0 hc
      clear hc
      refine aw_seq ?_
      refine aw_region (by decide) ?_
      refine rts _ rfl (opD_eql (os rfl (os rfl oz)) (ev_const _ _)) ?_
      refine rts _ rfl (opD_assign lz) ?_
      refine .nil ?_
      refine aw_keep [(0, _), (1, _), (6, _), (21, _)] ⟨lg (ls rfl (ls rfl oz)), lg (ls rfl (ls rfl (os rfl oz))), lg (ls rfl (ls rfl (os rfl (os rfl oz)))), lg lz, trivial⟩ ?_
      refine aw_cond _ (os rfl (os rfl (os rfl oz))) (fun hc => ?_) (fun hc => ?_)
      · skip
        replace h0 := ifb_t h0 hc
        clear hc
        refine aw_region (by decide) ?_
        refine rts _ rfl (opD_move oz) ?_
        refine rts _ rfl (opD_move (ls rfl (os rfl oz))) ?_
        replace h0 := bnd_some h0
        obtain ⟨x_3, hx_3, h0⟩ := h0
        refine rts _ rfl (call2h ht23_U4 (fun s h => c_oRNum hx_3 h) hlt2 ⟨le_of_eq lz, le_of_eq (ev_const _ _), trivial⟩) ?_
        refine rts _ rfl (opD_nilCheck_ptr (ls rfl (ls rfl lz))) ?_
        refine rts _ rfl (opD_fieldAddr fo118_4_U4 lz) ?_
        refine rts _ rfl (store2g (A' := ⟨118, [pl (.int .u8 p0.Kind), pl (.int .u64 p0.Space), pl (.int .u64 p0.Handle), pl (.int .i64 p0.Ref.Slot), pl (.int .u64 p0.Ref.Gen), pl (.int .u64 x_3.1), pl (.string p0.Key), pl (.string p0.Value), pl (.int .u8 p0.Rights), pl (.int .u64 p0.Most), pl (.bool p0.Flag)]⟩) sz22_U4 lz ((le_of_eq (ls rfl (ls rfl lz))).trans (Pd.le_refl _)) (one_pl rfl) hgh hlt (Nat.le_of_ble_eq_true rfl) (pl_bnd _ _ _) rfl) ?_
        refine .nil ?_
        obtain rfl := some_of h0
        exact done_upd2 (.inl rfl) (res_0 rfl) (pl_bnd _ _ _) (bnd_cons (pl_bnd _ _ _) (bnd_cons (pl_bnd _ _ _) (bnd_cons (pl_bnd _ _ _) (bnd_cons (pl_bnd _ _ _) (bnd_cons (pl_bnd _ _ _) (bnd_cons (pl_bnd _ _ _) (bnd_cons (pl_bnd _ _ _) (bnd_cons (pl_bnd _ _ _) (bnd_cons (pl_bnd _ _ _) (bnd_cons (pl_bnd _ _ _) (bnd_cons (pl_bnd _ _ _) bnd_nil))))))))))) (bnd_cons (sl_b (kb_I _)) (bnd_cons (pl_bnd _ _ _) bnd_nil))
      · skip
        replace h0 := ifb_f h0 hc
        clear hc
        refine aw_seq ?_
        refine aw_region (by decide) ?_
        refine rts _ rfl (opD_eql (os rfl (os rfl oz)) (ev_const _ _)) ?_
        refine rts _ rfl (opD_assign lz) ?_
        refine .nil ?_
        refine aw_keep [(0, _), (1, _), (6, _), (28, _)] ⟨lg (ls rfl (ls rfl oz)), lg (ls rfl (ls rfl (os rfl oz))), lg (ls rfl (ls rfl (os rfl (os rfl oz)))), lg lz, trivial⟩ ?_
        refine aw_cond _ (os rfl (os rfl (os rfl oz))) (fun hc => ?_) (fun hc => ?_)
        · skip
          replace h0 := ifb_t h0 hc
          clear hc
          refine aw_region (by decide) ?_
          refine rts _ rfl (opD_move oz) ?_
          refine rts _ rfl (opD_move (ls rfl (os rfl oz))) ?_
          replace h0 := bnd_some h0
          obtain ⟨x_4, hx_4, h0⟩ := h0
          refine rts _ rfl (call2h ht25_U4 (fun s h => c_oRByte hx_4 h) hlt2 ⟨le_of_eq lz, trivial⟩) ?_
          refine rts _ rfl (opD_conv_int Go.Proofs.Tryd.underlying5 Go.Proofs.Tryd.underlying3 lz rfl) ?_
          refine rts _ rfl (opD_move (ls rfl (ls rfl (ls rfl (ls rfl (os rfl oz)))))) ?_
          replace h0 := bnd_some h0
          obtain ⟨x_5, hx_5, h0⟩ := h0
          refine rts _ rfl (call2h ht23_U4 (fun s h => c_oRNum hx_5 h) hlt2 ⟨le_of_eq lz, le_of_eq (ev_const _ _), trivial⟩) ?_
          refine rts _ rfl (opD_build_struct (rs := [_, _]) Go.Proofs.Tryd.underlying116 pt116_U4 zt116_U4 (parts_cons (cells1 (ls rfl (ls rfl lz)) (one_pl rfl)) (parts_cons (cells1 lz (one_pl rfl)) parts_nil)) rfl) ?_
          refine rts _ rfl (opD_nilCheck_ptr (ls rfl (ls rfl (ls rfl (ls rfl (ls rfl (ls rfl lz))))))) ?_
          refine rts _ rfl (opD_fieldAddr fo118_3_U4 lz) ?_
          refine rts _ rfl (storeA2g (A' := ⟨118, [pl (.int .u8 p0.Kind), pl (.int .u64 p0.Space), pl (.int .u64 p0.Handle), pl (.int .i64 (IntKind.i64.wrap (x_4.1))), pl (.int .u64 x_5.1), pl (.int .u64 p0.To), pl (.string p0.Key), pl (.string p0.Value), pl (.int .u8 p0.Rights), pl (.int .u64 p0.Most), pl (.bool p0.Flag)]⟩) sz116_U4 lz (ls rfl (ls rfl lz)) (ones_cons (one_pl rfl) (ones_cons (one_pl rfl) ones_nil)) hgh hlt rfl (Nat.le_of_ble_eq_true rfl) (List.cons_ne_nil _ _) (bnd_cons (pl_bnd _ _ _) (bnd_cons (pl_bnd _ _ _) bnd_nil)) rfl) ?_
          refine .nil ?_
          obtain rfl := some_of h0
          exact done_upd2 (.inl rfl) (res_0 rfl) (pl_bnd _ _ _) (bnd_cons (pl_bnd _ _ _) (bnd_cons (pl_bnd _ _ _) (bnd_cons (pl_bnd _ _ _) (bnd_cons (pl_bnd _ _ _) (bnd_cons (pl_bnd _ _ _) (bnd_cons (pl_bnd _ _ _) (bnd_cons (pl_bnd _ _ _) (bnd_cons (pl_bnd _ _ _) (bnd_cons (pl_bnd _ _ _) (bnd_cons (pl_bnd _ _ _) (bnd_cons (pl_bnd _ _ _) bnd_nil))))))))))) (bnd_cons (sl_b (kb_I _)) (bnd_cons (pl_bnd _ _ _) bnd_nil))
        · skip
          replace h0 := ifb_f h0 hc
          clear hc
          refine aw_seq ?_
          refine aw_region (by decide) ?_
          refine rts _ rfl (opD_eql (os rfl (os rfl oz)) (ev_const _ _)) ?_
          refine rts _ rfl (opD_assign lz) ?_
          refine .nil ?_
          refine aw_keep [(0, _), (1, _), (6, _), (39, _)] ⟨lg (ls rfl (ls rfl oz)), lg (ls rfl (ls rfl (os rfl oz))), lg (ls rfl (ls rfl (os rfl (os rfl oz)))), lg lz, trivial⟩ ?_
          refine aw_cond _ (os rfl (os rfl (os rfl oz))) (fun hc => ?_) (fun hc => ?_)
          · skip
            replace h0 := ifb_t h0 hc
            clear hc
            refine aw_region (by decide) ?_
            refine rts _ rfl (opD_move oz) ?_
            refine rts _ rfl (opD_move (ls rfl (os rfl oz))) ?_
            replace h0 := bnd_some h0
            obtain ⟨x_6, hx_6, h0⟩ := h0
            refine rts _ rfl (call2h ht24_U4 (fun s h => c_oRBytes hx_6 h) hlt2 ⟨le_of_eq lz, le_of_eq (ev_const _ _), trivial⟩) ?_
            refine rts _ rfl (opD_bytes_str Go.Proofs.Tryd.underlying23 Go.Proofs.Tryd.underlying5 Go.Proofs.Tryd.underlying9 lz) ?_
            refine rts _ rfl (opD_nilCheck_ptr (ls rfl (ls rfl (ls rfl lz)))) ?_
            refine rts _ rfl (opD_fieldAddr fo118_5_U4 lz) ?_
            refine rts _ rfl (store2g (A' := ⟨118, [pl (.int .u8 p0.Kind), pl (.int .u64 p0.Space), pl (.int .u64 p0.Handle), pl (.int .i64 p0.Ref.Slot), pl (.int .u64 p0.Ref.Gen), pl (.int .u64 p0.To), pl (.string (strOf x_6.1)), pl (.string p0.Value), pl (.int .u8 p0.Rights), pl (.int .u64 p0.Most), pl (.bool p0.Flag)]⟩) sz9_U4 lz ((le_of_eq (ls rfl (ls rfl lz))).trans (Pd.le_refl _)) (one_pl rfl) hgh hlt (Nat.le_of_ble_eq_true rfl) (pl_bnd _ _ _) rfl) ?_
            refine .nil ?_
            obtain rfl := some_of h0
            exact done_upd2 (.inl rfl) (res_0 rfl) (pl_bnd _ _ _) (bnd_cons (pl_bnd _ _ _) (bnd_cons (pl_bnd _ _ _) (bnd_cons (pl_bnd _ _ _) (bnd_cons (pl_bnd _ _ _) (bnd_cons (pl_bnd _ _ _) (bnd_cons (pl_bnd _ _ _) (bnd_cons (pl_bnd _ _ _) (bnd_cons (pl_bnd _ _ _) (bnd_cons (pl_bnd _ _ _) (bnd_cons (pl_bnd _ _ _) (bnd_cons (pl_bnd _ _ _) bnd_nil))))))))))) (bnd_cons (sl_b (kb_I _)) (bnd_cons (pl_bnd _ _ _) bnd_nil))
          · skip
            replace h0 := ifb_f h0 hc
            clear hc
            refine aw_seq ?_
            refine aw_region (by decide) ?_
            refine rts _ rfl (opD_eql (os rfl (os rfl oz)) (ev_const _ _)) ?_
            refine rts _ rfl (opD_assign lz) ?_
            refine .nil ?_
            refine aw_keep [(0, _), (1, _), (6, _), (47, _)] ⟨lg (ls rfl (ls rfl oz)), lg (ls rfl (ls rfl (os rfl oz))), lg (ls rfl (ls rfl (os rfl (os rfl oz)))), lg lz, trivial⟩ ?_
            refine aw_cond _ (os rfl (os rfl (os rfl oz))) (fun hc => ?_) (fun hc => ?_)
            · skip
              replace h0 := ifb_t h0 hc
              clear hc
              refine aw_region (by decide) ?_
              refine rts _ rfl (opD_move oz) ?_
              refine rts _ rfl (opD_move (ls rfl (os rfl oz))) ?_
              replace h0 := bnd_some h0
              obtain ⟨x_7, hx_7, h0⟩ := h0
              refine rts _ rfl (call2h ht24_U4 (fun s h => c_oRBytes hx_7 h) hlt2 ⟨le_of_eq lz, le_of_eq (ev_const _ _), trivial⟩) ?_
              refine rts _ rfl (opD_bytes_str Go.Proofs.Tryd.underlying23 Go.Proofs.Tryd.underlying5 Go.Proofs.Tryd.underlying9 lz) ?_
              refine rts _ rfl (opD_nilCheck_ptr (ls rfl (ls rfl (ls rfl lz)))) ?_
              refine rts _ rfl (opD_fieldAddr fo118_6_U4 lz) ?_
              refine rts _ rfl (store2g (A' := ⟨118, [pl (.int .u8 p0.Kind), pl (.int .u64 p0.Space), pl (.int .u64 p0.Handle), pl (.int .i64 p0.Ref.Slot), pl (.int .u64 p0.Ref.Gen), pl (.int .u64 p0.To), pl (.string p0.Key), pl (.string (strOf x_7.1)), pl (.int .u8 p0.Rights), pl (.int .u64 p0.Most), pl (.bool p0.Flag)]⟩) sz9_U4 lz ((le_of_eq (ls rfl (ls rfl lz))).trans (Pd.le_refl _)) (one_pl rfl) hgh hlt (Nat.le_of_ble_eq_true rfl) (pl_bnd _ _ _) rfl) ?_
              refine .nil ?_
              obtain rfl := some_of h0
              exact done_upd2 (.inl rfl) (res_0 rfl) (pl_bnd _ _ _) (bnd_cons (pl_bnd _ _ _) (bnd_cons (pl_bnd _ _ _) (bnd_cons (pl_bnd _ _ _) (bnd_cons (pl_bnd _ _ _) (bnd_cons (pl_bnd _ _ _) (bnd_cons (pl_bnd _ _ _) (bnd_cons (pl_bnd _ _ _) (bnd_cons (pl_bnd _ _ _) (bnd_cons (pl_bnd _ _ _) (bnd_cons (pl_bnd _ _ _) (bnd_cons (pl_bnd _ _ _) bnd_nil))))))))))) (bnd_cons (sl_b (kb_I _)) (bnd_cons (pl_bnd _ _ _) bnd_nil))
            · skip
              replace h0 := ifb_f h0 hc
              clear hc
              refine aw_seq ?_
              refine aw_region (by decide) ?_
              refine rts _ rfl (opD_eql (os rfl (os rfl oz)) (ev_const _ _)) ?_
              refine rts _ rfl (opD_assign lz) ?_
              refine .nil ?_
              refine aw_keep [(0, _), (1, _), (6, _), (55, _)] ⟨lg (ls rfl (ls rfl oz)), lg (ls rfl (ls rfl (os rfl oz))), lg (ls rfl (ls rfl (os rfl (os rfl oz)))), lg lz, trivial⟩ ?_
              refine aw_cond _ (os rfl (os rfl (os rfl oz))) (fun hc => ?_) (fun hc => ?_)
              · skip
                replace h0 := ifb_t h0 hc
                clear hc
                refine aw_region (by decide) ?_
                refine rts _ rfl (opD_move oz) ?_
                refine rts _ rfl (opD_move (ls rfl (os rfl oz))) ?_
                replace h0 := bnd_some h0
                obtain ⟨x_8, hx_8, h0⟩ := h0
                refine rts _ rfl (call2h ht25_U4 (fun s h => c_oRByte hx_8 h) hlt2 ⟨le_of_eq lz, trivial⟩) ?_
                refine rts _ rfl (opD_nilCheck_ptr (ls rfl (ls rfl lz))) ?_
                refine rts _ rfl (opD_fieldAddr fo118_7_U4 lz) ?_
                refine rts _ rfl (store2g (A' := ⟨118, [pl (.int .u8 p0.Kind), pl (.int .u64 p0.Space), pl (.int .u64 p0.Handle), pl (.int .i64 p0.Ref.Slot), pl (.int .u64 p0.Ref.Gen), pl (.int .u64 p0.To), pl (.string p0.Key), pl (.string p0.Value), pl (.int .u8 x_8.1), pl (.int .u64 p0.Most), pl (.bool p0.Flag)]⟩) sz5_U4 lz ((le_of_eq (ls rfl (ls rfl lz))).trans (Pd.le_refl _)) (one_pl rfl) hgh hlt (Nat.le_of_ble_eq_true rfl) (pl_bnd _ _ _) rfl) ?_
                refine .nil ?_
                obtain rfl := some_of h0
                exact done_upd2 (.inl rfl) (res_0 rfl) (pl_bnd _ _ _) (bnd_cons (pl_bnd _ _ _) (bnd_cons (pl_bnd _ _ _) (bnd_cons (pl_bnd _ _ _) (bnd_cons (pl_bnd _ _ _) (bnd_cons (pl_bnd _ _ _) (bnd_cons (pl_bnd _ _ _) (bnd_cons (pl_bnd _ _ _) (bnd_cons (pl_bnd _ _ _) (bnd_cons (pl_bnd _ _ _) (bnd_cons (pl_bnd _ _ _) (bnd_cons (pl_bnd _ _ _) bnd_nil))))))))))) (bnd_cons (sl_b (kb_I _)) (bnd_cons (pl_bnd _ _ _) bnd_nil))
              · skip
                replace h0 := ifb_f h0 hc
                clear hc
                refine aw_seq ?_
                refine aw_region (by decide) ?_
                refine rts _ rfl (opD_eql (os rfl (os rfl oz)) (ev_const _ _)) ?_
                refine rts _ rfl (opD_assign lz) ?_
                refine .nil ?_
                refine aw_keep [(0, _), (1, _), (6, _), (62, _)] ⟨lg (ls rfl (ls rfl oz)), lg (ls rfl (ls rfl (os rfl oz))), lg (ls rfl (ls rfl (os rfl (os rfl oz)))), lg lz, trivial⟩ ?_
                refine aw_cond _ (os rfl (os rfl (os rfl oz))) (fun hc => ?_) (fun hc => ?_)
                · skip
                  replace h0 := ifb_t h0 hc
                  clear hc
                  refine aw_region (by decide) ?_
                  refine rts _ rfl (opD_move oz) ?_
                  refine rts _ rfl (opD_move (ls rfl (os rfl oz))) ?_
                  replace h0 := bnd_some h0
                  obtain ⟨x_9, hx_9, h0⟩ := h0
                  refine rts _ rfl (call2h ht23_U4 (fun s h => c_oRNum hx_9 h) hlt2 ⟨le_of_eq lz, le_of_eq (ev_const _ _), trivial⟩) ?_
                  refine rts _ rfl (opD_nilCheck_ptr (ls rfl (ls rfl lz))) ?_
                  refine rts _ rfl (opD_fieldAddr fo118_8_U4 lz) ?_
                  refine rts _ rfl (store2g (A' := ⟨118, [pl (.int .u8 p0.Kind), pl (.int .u64 p0.Space), pl (.int .u64 p0.Handle), pl (.int .i64 p0.Ref.Slot), pl (.int .u64 p0.Ref.Gen), pl (.int .u64 p0.To), pl (.string p0.Key), pl (.string p0.Value), pl (.int .u8 p0.Rights), pl (.int .u64 x_9.1), pl (.bool p0.Flag)]⟩) sz22_U4 lz ((le_of_eq (ls rfl (ls rfl lz))).trans (Pd.le_refl _)) (one_pl rfl) hgh hlt (Nat.le_of_ble_eq_true rfl) (pl_bnd _ _ _) rfl) ?_
                  refine .nil ?_
                  obtain rfl := some_of h0
                  exact done_upd2 (.inl rfl) (res_0 rfl) (pl_bnd _ _ _) (bnd_cons (pl_bnd _ _ _) (bnd_cons (pl_bnd _ _ _) (bnd_cons (pl_bnd _ _ _) (bnd_cons (pl_bnd _ _ _) (bnd_cons (pl_bnd _ _ _) (bnd_cons (pl_bnd _ _ _) (bnd_cons (pl_bnd _ _ _) (bnd_cons (pl_bnd _ _ _) (bnd_cons (pl_bnd _ _ _) (bnd_cons (pl_bnd _ _ _) (bnd_cons (pl_bnd _ _ _) bnd_nil))))))))))) (bnd_cons (sl_b (kb_I _)) (bnd_cons (pl_bnd _ _ _) bnd_nil))
                · skip
                  replace h0 := ifb_f h0 hc
                  clear hc
                  refine aw_seq ?_
                  refine aw_region (by decide) ?_
                  refine rts _ rfl (opD_eql (os rfl (os rfl oz)) (ev_const _ _)) ?_
                  refine rts _ rfl (opD_assign lz) ?_
                  refine .nil ?_
                  refine aw_keep [(0, _), (1, _), (69, _)] ⟨lg (ls rfl (ls rfl oz)), lg (ls rfl (ls rfl (os rfl oz))), lg lz, trivial⟩ ?_
                  refine aw_cond _ (os rfl (os rfl oz)) (fun hc => ?_) (fun hc => ?_)
                  · skip
                    replace h0 := ifb_t h0 hc
                    clear hc
                    refine aw_region (by decide) ?_
                    refine rts _ rfl (opD_move oz) ?_
                    refine rts _ rfl (opD_move (ls rfl (os rfl oz))) ?_
                    replace h0 := bnd_some h0
                    obtain ⟨x_10, hx_10, h0⟩ := h0
                    refine rts _ rfl (call2h ht25_U4 (fun s h => c_oRByte hx_10 h) hlt2 ⟨le_of_eq lz, trivial⟩) ?_
                    refine rts _ rfl (opD_eql lz (ev_const _ _)) ?_
                    refine rts _ rfl (opD_nilCheck_ptr (ls rfl (ls rfl (ls rfl lz)))) ?_
                    refine rts _ rfl (opD_fieldAddr fo118_9_U4 lz) ?_
                    refine rts _ rfl (store2g (A' := ⟨118, [pl (.int .u8 p0.Kind), pl (.int .u64 p0.Space), pl (.int .u64 p0.Handle), pl (.int .i64 p0.Ref.Slot), pl (.int .u64 p0.Ref.Gen), pl (.int .u64 p0.To), pl (.string p0.Key), pl (.string p0.Value), pl (.int .u8 p0.Rights), pl (.int .u64 p0.Most), pl (.bool (decide (x_10.1 = 1)))]⟩) sz4_U4 lz ((le_of_eq (ls rfl (ls rfl lz))).trans (Pd.le_refl _)) (one_pl rfl) hgh hlt (Nat.le_of_ble_eq_true rfl) (pl_bnd _ _ _) rfl) ?_
                    refine .nil ?_
                    obtain rfl := some_of h0
                    exact done_upd2 (.inl rfl) (res_0 rfl) (pl_bnd _ _ _) (bnd_cons (pl_bnd _ _ _) (bnd_cons (pl_bnd _ _ _) (bnd_cons (pl_bnd _ _ _) (bnd_cons (pl_bnd _ _ _) (bnd_cons (pl_bnd _ _ _) (bnd_cons (pl_bnd _ _ _) (bnd_cons (pl_bnd _ _ _) (bnd_cons (pl_bnd _ _ _) (bnd_cons (pl_bnd _ _ _) (bnd_cons (pl_bnd _ _ _) (bnd_cons (pl_bnd _ _ _) bnd_nil))))))))))) (bnd_cons (sl_b (kb_I _)) (bnd_cons (pl_bnd _ _ _) bnd_nil))
                  · skip
                    replace h0 := ifb_f h0 hc
                    clear hc
                    refine aw_skip ?_
                    obtain rfl := some_of h0
                    exact done_upd2 (.inl rfl) (res_0 rfl) (pl_bnd _ _ _) (bnd_cons (pl_bnd _ _ _) (bnd_cons (pl_bnd _ _ _) (bnd_cons (pl_bnd _ _ _) (bnd_cons (pl_bnd _ _ _) (bnd_cons (pl_bnd _ _ _) (bnd_cons (pl_bnd _ _ _) (bnd_cons (pl_bnd _ _ _) (bnd_cons (pl_bnd _ _ _) (bnd_cons (pl_bnd _ _ _) (bnd_cons (pl_bnd _ _ _) (bnd_cons (pl_bnd _ _ _) bnd_nil))))))))))) (bnd_cons (sl_b (kb_I _)) (bnd_cons (pl_bnd _ _ _) bnd_nil))

def F_qbytes_b0 (p0 : Rq) (x_2 : (ByteArray)) (t_4 : (List Int) × Int) : Option (((List Int) × Int) ⊕ (((List Int)))) :=
  ifb (decide (t_4.2 < ((bytesOf x_2).length : Int))) (ixb (bytesOf x_2) t_4.2 fun x_6 => bnd (F_qput p0 t_4.1 x_6) fun x_7 => some (.inl (x_7, IntKind.i64.wrap (t_4.2 + 1)))) (some (.inr t_4.1))
def F_qbytes (fl : Nat) (p0 : Rq) : Option ((List Int)) :=
  bnd (oByte [] p0.Kind) fun x_1 => bnd (F_qform p0.Kind) fun x_2 => bnd (lp (F_qbytes_b0 p0 x_2) fl (x_1, 0)) fun z_3 => some z_3
set_option maxRecDepth 100000 in
set_option maxHeartbeats 2000000 in
theorem c_qbytes {fl : Nat} {p0 : Rq} {R : (List Int)} {s : St} {g : Nat} (h0 : F_qbytes fl p0 = some R) (hG : s.boxes[g]? = some ⟨118, [pl (.int .u8 p0.Kind), pl (.int .u64 p0.Space), pl (.int .u64 p0.Handle), pl (.int .i64 p0.Ref.Slot), pl (.int .u64 p0.Ref.Gen), pl (.int .u64 p0.To), pl (.string p0.Key), pl (.string p0.Value), pl (.int .u8 p0.Rights), pl (.int .u64 p0.Most), pl (.bool p0.Flag)]⟩) : AC Go.Proofs.Tryd.prog 111 [ptr g 0] s (sl (kI .u8) none none R) s := by
  have hlt := (List.getElem?_eq_some_iff.1 hG).1
  unfold F_qbytes at h0
  refine ac_of_aw s.boxes.length s.fr.length Go.Proofs.Tryd.func111 rfl (by simp [Go.Proofs.Tryd.ntmps111]) ?_
  refine aw_ext0 ?_
  refine aw_upd0 hG ?_
  obtain ⟨N, hNs⟩ : ∃ N, s.boxes.length = N := ⟨_, rfl⟩
  refine aw_keep [(0, _)] ⟨lg ez, trivial⟩ ?_
  refine aw_seq ?_
  refine aw_region (by decide) ?_
  refine rts _ rfl (opD_assign (ev_const _ _)) ?_
  refine .nil ?_
  refine aw_keep [(0, _)] ⟨lg (ls rfl oz), trivial⟩ ?_
  refine aw_seq ?_
  refine aw_region (by decide) ?_
  refine rts _ rfl (opD_move oz) ?_
  refine rts _ rfl (opD_nilCheck_ptr lz) ?_
  refine rts _ rfl (opD_fieldAddr fo118_0_U4 lz) ?_
  refine rts _ rfl (opD_load_one ag5_U4 lz (updx_get hlt) rfl) ?_
  replace h0 := bnd_some h0
  obtain ⟨x_1, hx_1, h0⟩ := h0
  refine rts _ rfl (opD_own1 ht19_U4 (c_oByte hx_1) ⟨(le_of_eq (ev_const _ _)).trans (le_nil rfl), le_of_eq lz, trivial⟩ (by first | exact List.length_nil | (simp only [List.length_cons, List.length_nil, Nat.zero_add, Nat.reduceAdd] <;> rfl)) (by simp only [na, nb, nc, nd, nf, ng, nh, ni, nj, nk] <;> rfl)) ?_
  refine rts _ rfl (opD_assign lz) ?_
  refine .nil ?_
  refine aw_keep [(0, _), (3, _)] ⟨lg (ls rfl (ls rfl (ls rfl (ls rfl (ls rfl (ls rfl oz)))))), lg lz, trivial⟩ ?_
  refine aw_seq ?_
  refine aw_seq ?_
  refine aw_region (by decide) ?_
  refine rts _ rfl (opD_move oz) ?_
  refine rts _ rfl (opD_nilCheck_ptr lz) ?_
  refine rts _ rfl (opD_fieldAddr fo118_0_U4 lz) ?_
  refine rts _ rfl (opD_load_one ag5_U4 lz (updx_get hlt) rfl) ?_
  replace h0 := bnd_some h0
  obtain ⟨x_2, hx_2, h0⟩ := h0
  refine rts _ rfl (opD_pure ht69_U4 (c_qform hx_2) ⟨le_of_eq lz, trivial⟩) ?_
  refine rts _ rfl (opD_str_bytes Go.Proofs.Tryd.underlying9 Go.Proofs.Tryd.underlying23 Go.Proofs.Tryd.underlying5 lz) ?_
  refine rts _ rfl (opD_len_sl Go.Proofs.Tryd.underlying23 lz) ?_
  refine rts _ rfl (opD_move (ev_const _ _)) ?_
  refine .nil ?_
  refine aw_keep [(0, _), (3, _), (16, _), (17, _), (18, _)] ⟨lg (ls rfl (ls rfl (ls rfl (ls rfl (ls rfl (ls rfl (ls rfl (ls rfl oz)))))))), lg (ls rfl (ls rfl (ls rfl (ls rfl (ls rfl (ls rfl (ls rfl (ls rfl (os rfl oz))))))))), lg (ls rfl (ls rfl lz)), lg (ls rfl lz), lg lz, trivial⟩ ?_
  replace h0 := bnd_some h0
  obtain ⟨z_3, hz_3, h0⟩ := h0
  refine aw_mid (fun e st => ∃ v : (List Int), Holds e [(3, sl (kI .u8) none none v)] ∧ st = (s.upd g ⟨118, [pl (.int .u8 p0.Kind), pl (.int .u64 p0.Space), pl (.int .u64 p0.Handle), pl (.int .i64 p0.Ref.Slot), pl (.int .u64 p0.Ref.Gen), pl (.int .u64 p0.To), pl (.string p0.Key), pl (.string p0.Value), pl (.int .u8 p0.Rights), pl (.int .u64 p0.Most), pl (.bool p0.Flag)]⟩).ext [] [⟨5, 1, x_1.length⟩] ∧ v = z_3) ?_ ?_
  · skip
    refine aw_wkN ((upd_boxes_length _ _ _).trans hNs) 0 1 rfl rfl ?_
    refine aw_block ?_
    refine aw_loop (fun n e st => ∃ v : (List Int) × Int, Holds e [(0, ptr g 0), (3, sl (kI .u8) none none v.1), (16, sl (kI .u8) none (some false) (bytesOf x_2)), (17, pl (.int .i64 ((bytesOf x_2).length : Int))), (18, pl (.int .i64 v.2))] ∧ st = (s.upd g ⟨118, [pl (.int .u8 p0.Kind), pl (.int .u64 p0.Space), pl (.int .u64 p0.Handle), pl (.int .i64 p0.Ref.Slot), pl (.int .u64 p0.Ref.Gen), pl (.int .u64 p0.To), pl (.string p0.Key), pl (.string p0.Value), pl (.int .u8 p0.Rights), pl (.int .u64 p0.Most), pl (.bool p0.Flag)]⟩).ext [] [⟨5, 1, x_1.length⟩] ∧ lp (F_qbytes_b0 p0 x_2) n v = some z_3) fl ⟨(x_1, 0), ⟨le_of_eq (eg oz), (le_of_eq (eg (os rfl oz))).trans (sl_le _ (some (s.fr.length + 0)) none _), le_of_eq (eg (os rfl (os rfl oz))), le_of_eq (eg (os rfl (os rfl (os rfl oz)))), le_of_eq (eg (os rfl (os rfl (os rfl (os rfl oz))))), trivial⟩, rfl, hz_3⟩ ?_
    rintro n e st ⟨t_4, hH, rfl, hz_3⟩
    replace hz_3 := lp_some hz_3
    obtain ⟨m_z_5, z_5, rfl, hz_5, hz_3⟩ := hz_3
    unfold F_qbytes_b0 at hz_5
    refine aw_keep _ hH ?_
    refine aw_wkN ((upd_boxes_length _ _ _).trans hNs) 0 1 rfl rfl ?_
    refine aw_seq ?_
    refine aw_region (by decide) ?_
    refine rts _ rfl (opD_lss (os rfl (os rfl (os rfl (os rfl oz)))) (os rfl (os rfl (os rfl oz)))) ?_
    refine .nil ?_
    refine aw_keep [(0, _), (3, _), (16, _), (17, _), (18, _), (19, _)] ⟨lg (ls rfl oz), lg (ls rfl (os rfl oz)), lg (ls rfl (os rfl (os rfl oz))), lg (ls rfl (os rfl (os rfl (os rfl oz)))), lg (ls rfl (os rfl (os rfl (os rfl (os rfl oz))))), lg lz, trivial⟩ ?_
    refine aw_seq ?_
    refine aw_cond _ (os rfl (os rfl (os rfl (os rfl (os rfl oz))))) (fun hc => ?_) (fun hc => ?_)
    · skip
      replace hz_5 := ifb_t hz_5 hc
      clear hc
      refine aw_skip ?_
      refine aw_keep [(0, _), (3, _), (16, _), (17, _), (18, _)] ⟨lg oz, lg (os rfl oz), lg (os rfl (os rfl oz)), lg (os rfl (os rfl (os rfl oz))), lg (os rfl (os rfl (os rfl (os rfl oz)))), trivial⟩ ?_
      refine aw_seq ?_
      refine aw_block ?_
      refine aw_seq ?_
      refine aw_region (by decide) ?_
      replace hz_5 := ixb_some hz_5
      obtain ⟨x_6, hx_6, hbx_6, hz_5⟩ := hz_5
      refine rts _ rfl (opD_indexAddr_sl (i := t_4.2.toNat) Go.Proofs.Tryd.underlying23 sz5_U4 (os rfl (os rfl oz)) (os rfl (os rfl (os rfl (os rfl oz)))) hbx_6.2.2 hbx_6.2.1) ?_
      refine rts _ rfl (opD_load_el_one ag5_U4 lz hx_6 rfl) ?_
      refine rts _ rfl (opD_assign lz) ?_
      refine .nil ?_
      refine aw_keep [(0, _), (3, _), (5, _), (16, _), (17, _), (18, _)] ⟨lg (ls rfl (ls rfl (ls rfl oz))), lg (ls rfl (ls rfl (ls rfl (os rfl oz)))), lg lz, lg (ls rfl (ls rfl (ls rfl (os rfl (os rfl oz))))), lg (ls rfl (ls rfl (ls rfl (os rfl (os rfl (os rfl oz)))))), lg (ls rfl (ls rfl (ls rfl (os rfl (os rfl (os rfl (os rfl oz))))))), trivial⟩ ?_
      refine aw_region (by decide) ?_
      refine rts _ rfl (opD_move oz) ?_
      refine rts _ rfl (opD_move (ls rfl (os rfl oz))) ?_
      refine rts _ rfl (opD_move (ls rfl (ls rfl (os rfl (os rfl oz))))) ?_
      replace hz_5 := bnd_some hz_5
      obtain ⟨x_7, hx_7, hz_5⟩ := hz_5
      refine rts _ rfl (opD_call ht127_U4 (c_qput hx_7 (updx_get hlt)) ⟨le_of_eq (ls rfl (ls rfl lz)), le_of_eq (ls rfl lz), le_of_eq lz, trivial⟩) ?_
      refine rts _ rfl (opD_assign lz) ?_
      refine .nil ?_
      refine aw_keep [(0, _), (3, _), (16, _), (17, _), (18, _)] ⟨lg (ls rfl (ls rfl (ls rfl (ls rfl (ls rfl oz))))), lg lz, lg (ls rfl (ls rfl (ls rfl (ls rfl (ls rfl (os rfl (os rfl (os rfl oz)))))))), lg (ls rfl (ls rfl (ls rfl (ls rfl (ls rfl (os rfl (os rfl (os rfl (os rfl oz))))))))), lg (ls rfl (ls rfl (ls rfl (ls rfl (ls rfl (os rfl (os rfl (os rfl (os rfl (os rfl oz)))))))))), trivial⟩ ?_
      refine aw_region (by decide) ?_
      refine rts _ rfl (opD_add (os rfl (os rfl (os rfl (os rfl oz)))) (ev_const _ _) rfl) ?_
      refine rts _ rfl (opD_move lz) ?_
      refine .nil ?_
      obtain rfl := some_of hz_5
      replace hz_3 := ocs_l hz_3
      refine wk_yesU ((upd_boxes_length _ _ _).trans hNs) (by exact ⟨rfl, rfl⟩) (upd_ok (bnd_cons (pl_bnd _ _ _) (bnd_cons (pl_bnd _ _ _) (bnd_cons (pl_bnd _ _ _) (bnd_cons (pl_bnd _ _ _) (bnd_cons (pl_bnd _ _ _) (bnd_cons (pl_bnd _ _ _) (bnd_cons (pl_bnd _ _ _) (bnd_cons (pl_bnd _ _ _) (bnd_cons (pl_bnd _ _ _) (bnd_cons (pl_bnd _ _ _) (bnd_cons (pl_bnd _ _ _) bnd_nil)))))))))))) ((upd_boxes_length _ _ _).trans hNs) (l := [(0, ptr g 0), (3, sl (kI .u8) none none x_7), (16, sl (kI .u8) none (some false) (bytesOf x_2)), (17, pl (.int .i64 ((bytesOf x_2).length : Int))), (18, pl (.int .i64 (IntKind.i64.wrap (t_4.2 + 1))))]) (bs' := []) ⟨le_of_eq (eg (ls rfl (ls rfl oz))), le_of_eq (eg (ls rfl (ls rfl (os rfl oz)))), le_of_eq (eg (ls rfl (ls rfl (os rfl (os rfl oz))))), le_of_eq (eg (ls rfl (ls rfl (os rfl (os rfl (os rfl oz)))))), le_of_eq (eg lz), trivial⟩ (bnd_cons (ptr_bnd _ (by first | omega | (simp only [List.length_append, List.length_cons, List.length_nil]; omega))) (bnd_cons (sl_b (kb_I _)) (bnd_cons (sl_b (kb_I _)) (bnd_cons (pl_bnd _ _ _) (bnd_cons (pl_bnd _ _ _) bnd_nil))))) (Nat.le_of_ble_eq_true rfl) (by simp only [na, nb, nc, nd, nf, ng, nh, ni, nj, nk] <;> rfl) bxle_nil rfl (by simp only [na, nb, nc, nd, nf, ng, nh, ni, nj, nk] <;> rfl) bl_nil ?_
      exact ⟨m_z_5, Nat.lt_succ_self _, (x_7, IntKind.i64.wrap (t_4.2 + 1)), ⟨le_of_eq (eg oz), le_of_eq (eg (os rfl oz)), le_of_eq (eg (os rfl (os rfl oz))), le_of_eq (eg (os rfl (os rfl (os rfl oz)))), le_of_eq (eg (os rfl (os rfl (os rfl (os rfl oz))))), trivial⟩, rfl, hz_3⟩
    · skip
      replace hz_5 := ifb_f hz_5 hc
      clear hc
      refine aw_exit ?_
      obtain rfl := some_of hz_5
      replace hz_3 := ocs_r hz_3
      refine wk_no ?_
      refine wk_yesU ((upd_boxes_length _ _ _).trans hNs) (by exact ⟨rfl, rfl⟩) (upd_ok (bnd_cons (pl_bnd _ _ _) (bnd_cons (pl_bnd _ _ _) (bnd_cons (pl_bnd _ _ _) (bnd_cons (pl_bnd _ _ _) (bnd_cons (pl_bnd _ _ _) (bnd_cons (pl_bnd _ _ _) (bnd_cons (pl_bnd _ _ _) (bnd_cons (pl_bnd _ _ _) (bnd_cons (pl_bnd _ _ _) (bnd_cons (pl_bnd _ _ _) (bnd_cons (pl_bnd _ _ _) bnd_nil)))))))))))) ((upd_boxes_length _ _ _).trans hNs) (l := [(3, sl (kI .u8) none none t_4.1)]) (bs' := []) ⟨le_of_eq (eg (os rfl oz)), trivial⟩ (bnd_cons (sl_b (kb_I _)) bnd_nil) (Nat.le_of_ble_eq_true rfl) (by simp only [na, nb, nc, nd, nf, ng, nh, ni, nj, nk] <;> rfl) bxle_nil rfl (by simp only [na, nb, nc, nd, nf, ng, nh, ni, nj, nk] <;> rfl) bl_nil ?_
      exact ⟨t_4.1, ⟨le_of_eq (eg oz), trivial⟩, rfl, some_of hz_3⟩
  · rintro e st ⟨vz_3, hH, rfl, rfl⟩
    refine aw_keep _ hH ?_
    refine aw_keep [(3, _)] ⟨lg oz, trivial⟩ ?_
    refine aw_seq ?_
    refine aw_region (by decide) ?_
    refine rts _ rfl (opD_move oz) ?_
    refine rts _ rfl (opD_assign lz) ?_
    refine .nil ?_
    refine aw_keep [(2, _)] ⟨lg lz, trivial⟩ ?_
    refine aw_ret ?_
    obtain rfl := some_of h0
    exact done_updS hG (.inr rfl) ((res_one rfl (it_tmp oz)).le (Pd.le_refl _)) (sl_b (kb_I _))

def F_qread_b0 (x_3 : (ByteArray)) (t_5 : Int × Rdr × Rq) : Option ((Int × Rdr × Rq) ⊕ ((Rdr × Rq))) :=
  ifb (decide (t_5.1 < ((bytesOf x_3).length : Int))) (ixb (bytesOf x_3) t_5.1 fun x_7 => bnd (F_qtake t_5.2.2 t_5.2.1 x_7) fun x_8 => some (.inl (IntKind.i64.wrap (t_5.1 + 1), x_8.2, x_8.1))) (some (.inr (t_5.2.1, t_5.2.2)))
def F_qread (fl : Nat) (p0 : (List Int)) : Option (Rq × Bool) :=
  bnd (oNew p0) fun x_1 => bnd (oRByte x_1) fun x_2 => bnd (F_qform x_2.1) fun x_3 => bnd (lp (F_qread_b0 x_3) fl (0, x_2.2, (⟨x_2.1, 0, 0, (⟨0, 0⟩ : Rf), 0, ⟨#[]⟩, ⟨#[]⟩, 0, 0, false⟩ : Rq))) fun z_4 => bnd (oRDone z_4.1) fun x_9 => bnd (gif (x_9.isNone == true) (F_qform z_4.2.Kind)) fun x_10 => some (z_4.2, (x_9.isNone && (decide (x_10 ≠ ⟨#[]⟩))))
set_option maxRecDepth 100000 in
set_option maxHeartbeats 2000000 in
theorem c_qread {fl : Nat} {p0 : (List Int)} {R : Rq × Bool} (h0 : F_qread fl p0 = some R) : Pure Go.Proofs.Tryd.prog 113 [sl (kI .u8) none none p0] (tup [agg [pl (.int .u8 R.1.Kind), pl (.int .u64 R.1.Space), pl (.int .u64 R.1.Handle), pl (.int .i64 R.1.Ref.Slot), pl (.int .u64 R.1.Ref.Gen), pl (.int .u64 R.1.To), pl (.string R.1.Key), pl (.string R.1.Value), pl (.int .u8 R.1.Rights), pl (.int .u64 R.1.Most), pl (.bool R.1.Flag)], pl (.bool R.2)]) := by
  intro s
  unfold F_qread at h0
  refine ac_of_aw s.boxes.length s.fr.length Go.Proofs.Tryd.func113 rfl (by simp [Go.Proofs.Tryd.ntmps113]) ?_
  refine aw_ext0 ?_
  refine aw_keep [(0, _)] ⟨lg ez, trivial⟩ ?_
  refine aw_seq ?_
  refine aw_region (by decide) ?_
  refine rts _ rfl (allocN rfl zt118_U4 (by first | exact List.length_nil | (simp only [List.length_cons, List.length_nil, Nat.zero_add, Nat.reduceAdd] <;> rfl)) (by simp only [na, nb, nc, nd, nf, ng, nh, ni, nj, nk] <;> rfl)) ?_
  refine rts _ rfl (opD_assign (ev_const _ _)) ?_
  refine .nil ?_
  refine aw_keep [(0, _), (2, _)] ⟨lg (ls rfl (ls rfl oz)), lg (ls rfl lz), trivial⟩ ?_
  refine aw_seq ?_
  refine aw_region (by decide) ?_
  refine rts _ rfl (opD_move oz) ?_
  replace h0 := bnd_some h0
  obtain ⟨x_1, hx_1, h0⟩ := h0
  refine rts _ rfl (callNN rfl ht22_U4 (fun s => c_oNew hx_1 s) ⟨le_of_eq lz, trivial⟩ (by first | exact List.length_nil | (simp only [List.length_cons, List.length_nil, Nat.zero_add, Nat.reduceAdd] <;> rfl)) (by simp only [na, nb, nc, nd, nf, ng, nh, ni, nj, nk] <;> rfl)) ?_
  refine rts _ rfl (opD_assign lz) ?_
  refine .nil ?_
  refine aw_keep [(2, _), (4, _)] ⟨lg (ls rfl (ls rfl (ls rfl (os rfl oz)))), lg lz, trivial⟩ ?_
  refine aw_seq ?_
  refine aw_region (by decide) ?_
  refine rts _ rfl (opD_move (os rfl oz)) ?_
  replace h0 := bnd_some h0
  obtain ⟨x_2, hx_2, h0⟩ := h0
  refine rts _ rfl (callLN rfl ht25_U4 (fun s g h => c_oRByte hx_2 h) rfl ⟨le_of_eq lz, trivial⟩ (by simp only [na, nb, nc, nd, nf, ng, nh, ni, nj, nk] <;> rfl)) ?_
  refine rts _ rfl (opD_build_struct (rs := [_, _, _, _, _, _, _, _, _, _, _]) Go.Proofs.Tryd.underlying118 pt118_U4 zt118_U4 (parts_cons (cells1 lz (one_pl rfl)) parts_nil) rfl) ?_
  refine rts _ rfl (allocN rfl zt118_U4 (by first | exact List.length_nil | (simp only [List.length_cons, List.length_nil, Nat.zero_add, Nat.reduceAdd] <;> rfl)) (by simp only [na, nb, nc, nd, nf, ng, nh, ni, nj, nk] <;> rfl)) ?_
  refine rts _ rfl (storeAN rfl sz118_U4 lz (ls rfl lz) (ones_cons (one_pl rfl) (ones_cons (one_pl rfl) (ones_cons (one_pl rfl) (ones_cons (one_pl rfl) (ones_cons (one_pl rfl) (ones_cons (one_pl rfl) (ones_cons (one_pl rfl) (ones_cons (one_pl rfl) (ones_cons (one_pl rfl) (ones_cons (one_pl rfl) (ones_cons (one_pl rfl) ones_nil))))))))))) rfl rfl (Nat.le_of_ble_eq_true rfl) (List.cons_ne_nil _ _) (bnd_cons (pl_bnd _ _ _) (bnd_cons (pl_bnd _ _ _) (bnd_cons (pl_bnd _ _ _) (bnd_cons (pl_bnd _ _ _) (bnd_cons (pl_bnd _ _ _) (bnd_cons (pl_bnd _ _ _) (bnd_cons (pl_bnd _ _ _) (bnd_cons (pl_bnd _ _ _) (bnd_cons (pl_bnd _ _ _) (bnd_cons (pl_bnd _ _ _) (bnd_cons (pl_bnd _ _ _) bnd_nil))))))))))) (by simp only [na, nb, nc, nd, nf, ng, nh, ni, nj, nk] <;> rfl) (by simp only [na, nb, nc, nd, nf, ng, nh, ni, nj, nk] <;> rfl)) ?_
  refine .nil ?_
  refine aw_keep [(2, _), (4, _), (5, _)] ⟨lg (lx (ls rfl (ls rfl (ls rfl (ls rfl oz))))), lg (lx (ls rfl (ls rfl (ls rfl (ls rfl (os rfl oz)))))), lg (lx lz), trivial⟩ ?_
  refine aw_seq ?_
  refine aw_seq ?_
  refine aw_region (by decide) ?_
  refine rts _ rfl (opD_fieldAddr fo118_0_U4 (os rfl (os rfl oz))) ?_
  refine rts _ rfl (opD_load_one ag5_U4 lz (loc_getN rfl rfl) rfl) ?_
  replace h0 := bnd_some h0
  obtain ⟨x_3, hx_3, h0⟩ := h0
  refine rts _ rfl (opD_pure ht69_U4 (c_qform hx_3) ⟨le_of_eq lz, trivial⟩) ?_
  refine rts _ rfl (opD_str_bytes Go.Proofs.Tryd.underlying9 Go.Proofs.Tryd.underlying23 Go.Proofs.Tryd.underlying5 lz) ?_
  refine rts _ rfl (opD_len_sl Go.Proofs.Tryd.underlying23 lz) ?_
  refine rts _ rfl (opD_move (ev_const _ _)) ?_
  refine .nil ?_
  refine aw_keep [(2, _), (4, _), (5, _), (16, _), (17, _), (18, _)] ⟨lg (ls rfl (ls rfl (ls rfl (ls rfl (ls rfl (ls rfl oz)))))), lg (ls rfl (ls rfl (ls rfl (ls rfl (ls rfl (ls rfl (os rfl oz))))))), lg (ls rfl (ls rfl (ls rfl (ls rfl (ls rfl (ls rfl (os rfl (os rfl oz)))))))), lg (ls rfl (ls rfl lz)), lg (ls rfl lz), lg lz, trivial⟩ ?_
  replace h0 := bnd_some h0
  obtain ⟨z_4, hz_4, h0⟩ := h0
  refine aw_mid (fun e st => ∃ v : Rdr × Rq, Holds e [(2, ptr (s.boxes.length + 0) 0), (4, ptr (s.boxes.length + 1) 0), (5, ptr (s.boxes.length + 2) 0)] ∧ st = s.ext [⟨118, [pl (.int .u8 0), pl (.int .u64 0), pl (.int .u64 0), pl (.int .i64 0), pl (.int .u64 0), pl (.int .u64 0), pl (.string ⟨#[]⟩), pl (.string ⟨#[]⟩), pl (.int .u8 0), pl (.int .u64 0), pl (.bool false)]⟩, ⟨164, [sl (kI .u8) none none v.1.b_, pl (.bool v.1.wrong_)]⟩, ⟨118, [pl (.int .u8 v.2.Kind), pl (.int .u64 v.2.Space), pl (.int .u64 v.2.Handle), pl (.int .i64 v.2.Ref.Slot), pl (.int .u64 v.2.Ref.Gen), pl (.int .u64 v.2.To), pl (.string v.2.Key), pl (.string v.2.Value), pl (.int .u8 v.2.Rights), pl (.int .u64 v.2.Most), pl (.bool v.2.Flag)]⟩] [] ∧ v = z_4) ?_ ?_
  · skip
    refine aw_wkN rfl 3 0 rfl rfl ?_
    refine aw_block ?_
    refine aw_wkBN rfl (bs' := [⟨118, [pl (.int .u8 0), pl (.int .u64 0), pl (.int .u64 0), pl (.int .i64 0), pl (.int .u64 0), pl (.int .u64 0), pl (.string ⟨#[]⟩), pl (.string ⟨#[]⟩), pl (.int .u8 0), pl (.int .u64 0), pl (.bool false)]⟩, ⟨164, [sl (kI .u8) none none x_2.2.b_, pl (.bool x_2.2.wrong_)]⟩, ⟨118, [pl (.int .u8 ((⟨x_2.1, 0, 0, (⟨0, 0⟩ : Rf), 0, ⟨#[]⟩, ⟨#[]⟩, 0, 0, false⟩ : Rq).Kind)), pl (.int .u64 ((⟨x_2.1, 0, 0, (⟨0, 0⟩ : Rf), 0, ⟨#[]⟩, ⟨#[]⟩, 0, 0, false⟩ : Rq).Space)), pl (.int .u64 ((⟨x_2.1, 0, 0, (⟨0, 0⟩ : Rf), 0, ⟨#[]⟩, ⟨#[]⟩, 0, 0, false⟩ : Rq).Handle)), pl (.int .i64 ((⟨x_2.1, 0, 0, (⟨0, 0⟩ : Rf), 0, ⟨#[]⟩, ⟨#[]⟩, 0, 0, false⟩ : Rq).Ref.Slot)), pl (.int .u64 ((⟨x_2.1, 0, 0, (⟨0, 0⟩ : Rf), 0, ⟨#[]⟩, ⟨#[]⟩, 0, 0, false⟩ : Rq).Ref.Gen)), pl (.int .u64 ((⟨x_2.1, 0, 0, (⟨0, 0⟩ : Rf), 0, ⟨#[]⟩, ⟨#[]⟩, 0, 0, false⟩ : Rq).To)), pl (.string ((⟨x_2.1, 0, 0, (⟨0, 0⟩ : Rf), 0, ⟨#[]⟩, ⟨#[]⟩, 0, 0, false⟩ : Rq).Key)), pl (.string ((⟨x_2.1, 0, 0, (⟨0, 0⟩ : Rf), 0, ⟨#[]⟩, ⟨#[]⟩, 0, 0, false⟩ : Rq).Value)), pl (.int .u8 ((⟨x_2.1, 0, 0, (⟨0, 0⟩ : Rf), 0, ⟨#[]⟩, ⟨#[]⟩, 0, 0, false⟩ : Rq).Rights)), pl (.int .u64 ((⟨x_2.1, 0, 0, (⟨0, 0⟩ : Rf), 0, ⟨#[]⟩, ⟨#[]⟩, 0, 0, false⟩ : Rq).Most)), pl (.bool ((⟨x_2.1, 0, 0, (⟨0, 0⟩ : Rf), 0, ⟨#[]⟩, ⟨#[]⟩, 0, 0, false⟩ : Rq).Flag))]⟩]) (bxle_same (bxle_same (bxle_cons (B := ⟨118, [_, _, _, _, _, _, _, _, _, _, _]⟩) (@Eq.refl TypeId 118) (lel_cons (Pd.le_refl _) (lel_cons (Pd.le_refl _) (lel_cons (Pd.le_refl _) (lel_cons (Pd.le_refl _) (lel_cons (Pd.le_refl _) (lel_cons (Pd.le_refl _) (lel_cons (Pd.le_refl _) (lel_cons (Pd.le_refl _) (lel_cons (Pd.le_refl _) (lel_cons (Pd.le_refl _) (lel_cons (Pd.le_refl _) lel_nil))))))))))) bxle_nil))) (bl_cons (bnd_cons (pl_bnd _ _ _) (bnd_cons (pl_bnd _ _ _) (bnd_cons (pl_bnd _ _ _) (bnd_cons (pl_bnd _ _ _) (bnd_cons (pl_bnd _ _ _) (bnd_cons (pl_bnd _ _ _) (bnd_cons (pl_bnd _ _ _) (bnd_cons (pl_bnd _ _ _) (bnd_cons (pl_bnd _ _ _) (bnd_cons (pl_bnd _ _ _) (bnd_cons (pl_bnd _ _ _) bnd_nil))))))))))) (bl_cons (bnd_cons (sl_b (kb_I _)) (bnd_cons (pl_bnd _ _ _) bnd_nil)) (bl_cons (bnd_cons (pl_bnd _ _ _) (bnd_cons (pl_bnd _ _ _) (bnd_cons (pl_bnd _ _ _) (bnd_cons (pl_bnd _ _ _) (bnd_cons (pl_bnd _ _ _) (bnd_cons (pl_bnd _ _ _) (bnd_cons (pl_bnd _ _ _) (bnd_cons (pl_bnd _ _ _) (bnd_cons (pl_bnd _ _ _) (bnd_cons (pl_bnd _ _ _) (bnd_cons (pl_bnd _ _ _) bnd_nil))))))))))) bl_nil))) ?_
    refine aw_loop (fun n e st => ∃ v : Int × Rdr × Rq, Holds e [(2, ptr (s.boxes.length + 0) 0), (4, ptr (s.boxes.length + 1) 0), (5, ptr (s.boxes.length + 2) 0), (16, sl (kI .u8) none (some false) (bytesOf x_3)), (17, pl (.int .i64 ((bytesOf x_3).length : Int))), (18, pl (.int .i64 v.1))] ∧ st = s.ext [⟨118, [pl (.int .u8 0), pl (.int .u64 0), pl (.int .u64 0), pl (.int .i64 0), pl (.int .u64 0), pl (.int .u64 0), pl (.string ⟨#[]⟩), pl (.string ⟨#[]⟩), pl (.int .u8 0), pl (.int .u64 0), pl (.bool false)]⟩, ⟨164, [sl (kI .u8) none none v.2.1.b_, pl (.bool v.2.1.wrong_)]⟩, ⟨118, [pl (.int .u8 v.2.2.Kind), pl (.int .u64 v.2.2.Space), pl (.int .u64 v.2.2.Handle), pl (.int .i64 v.2.2.Ref.Slot), pl (.int .u64 v.2.2.Ref.Gen), pl (.int .u64 v.2.2.To), pl (.string v.2.2.Key), pl (.string v.2.2.Value), pl (.int .u8 v.2.2.Rights), pl (.int .u64 v.2.2.Most), pl (.bool v.2.2.Flag)]⟩] [] ∧ lp (F_qread_b0 x_3) n v = some z_4) fl ⟨(0, x_2.2, (⟨x_2.1, 0, 0, (⟨0, 0⟩ : Rf), 0, ⟨#[]⟩, ⟨#[]⟩, 0, 0, false⟩ : Rq)), ⟨le_of_eq (eg oz), le_of_eq (eg (os rfl oz)), le_of_eq (eg (os rfl (os rfl oz))), le_of_eq (eg (os rfl (os rfl (os rfl oz)))), le_of_eq (eg (os rfl (os rfl (os rfl (os rfl oz))))), le_of_eq (eg (os rfl (os rfl (os rfl (os rfl (os rfl oz)))))), trivial⟩, rfl, hz_4⟩ ?_
    rintro n e st ⟨t_5, hH, rfl, hz_4⟩
    replace hz_4 := lp_some hz_4
    obtain ⟨m_z_6, z_6, rfl, hz_6, hz_4⟩ := hz_4
    unfold F_qread_b0 at hz_6
    refine aw_keep _ hH ?_
    refine aw_wkN rfl 3 0 rfl rfl ?_
    refine aw_seq ?_
    refine aw_region (by decide) ?_
    refine rts _ rfl (opD_lss (os rfl (os rfl (os rfl (os rfl (os rfl oz))))) (os rfl (os rfl (os rfl (os rfl oz))))) ?_
    refine .nil ?_
    refine aw_keep [(2, _), (4, _), (5, _), (16, _), (17, _), (18, _), (19, _)] ⟨lg (ls rfl oz), lg (ls rfl (os rfl oz)), lg (ls rfl (os rfl (os rfl oz))), lg (ls rfl (os rfl (os rfl (os rfl oz)))), lg (ls rfl (os rfl (os rfl (os rfl (os rfl oz))))), lg (ls rfl (os rfl (os rfl (os rfl (os rfl (os rfl oz)))))), lg lz, trivial⟩ ?_
    refine aw_seq ?_
    refine aw_cond _ (os rfl (os rfl (os rfl (os rfl (os rfl (os rfl oz)))))) (fun hc => ?_) (fun hc => ?_)
    · skip
      replace hz_6 := ifb_t hz_6 hc
      clear hc
      refine aw_skip ?_
      refine aw_keep [(2, _), (4, _), (5, _), (16, _), (17, _), (18, _)] ⟨lg oz, lg (os rfl oz), lg (os rfl (os rfl oz)), lg (os rfl (os rfl (os rfl oz))), lg (os rfl (os rfl (os rfl (os rfl oz)))), lg (os rfl (os rfl (os rfl (os rfl (os rfl oz))))), trivial⟩ ?_
      refine aw_seq ?_
      refine aw_block ?_
      refine aw_seq ?_
      refine aw_region (by decide) ?_
      replace hz_6 := ixb_some hz_6
      obtain ⟨x_7, hx_7, hbx_7, hz_6⟩ := hz_6
      refine rts _ rfl (opD_indexAddr_sl (i := t_5.1.toNat) Go.Proofs.Tryd.underlying23 sz5_U4 (os rfl (os rfl (os rfl oz))) (os rfl (os rfl (os rfl (os rfl (os rfl oz))))) hbx_7.2.2 hbx_7.2.1) ?_
      refine rts _ rfl (opD_load_el_one ag5_U4 lz hx_7 rfl) ?_
      refine rts _ rfl (opD_assign lz) ?_
      refine .nil ?_
      refine aw_keep [(2, _), (4, _), (5, _), (7, _), (16, _), (17, _), (18, _)] ⟨lg (ls rfl (ls rfl (ls rfl oz))), lg (ls rfl (ls rfl (ls rfl (os rfl oz)))), lg (ls rfl (ls rfl (ls rfl (os rfl (os rfl oz))))), lg lz, lg (ls rfl (ls rfl (ls rfl (os rfl (os rfl (os rfl oz)))))), lg (ls rfl (ls rfl (ls rfl (os rfl (os rfl (os rfl (os rfl oz))))))), lg (ls rfl (ls rfl (ls rfl (os rfl (os rfl (os rfl (os rfl (os rfl oz)))))))), trivial⟩ ?_
      refine aw_region (by decide) ?_
      refine rts _ rfl (opD_move (os rfl oz)) ?_
      refine rts _ rfl (opD_move (ls rfl (os rfl (os rfl (os rfl oz))))) ?_
      replace hz_6 := bnd_some hz_6
      obtain ⟨x_8, hx_8, hz_6⟩ := hz_6
      refine rts _ rfl (callLL rfl ht128_U4 (fun s g h hne hg hh => c_qtake hx_8 hne hg hh) rfl rfl rfl ⟨le_of_eq (ls rfl (ls rfl (os rfl (os rfl oz)))), le_of_eq (ls rfl lz), le_of_eq lz, trivial⟩ (by simp only [na, nb, nc, nd, nf, ng, nh, ni, nj, nk] <;> rfl)) ?_
      refine .nil ?_
      refine aw_keep [(2, _), (4, _), (5, _), (16, _), (17, _), (18, _)] ⟨lg (ls rfl (ls rfl (ls rfl oz))), lg (ls rfl (ls rfl (ls rfl (os rfl oz)))), lg (ls rfl (ls rfl (ls rfl (os rfl (os rfl oz))))), lg (ls rfl (ls rfl (ls rfl (os rfl (os rfl (os rfl (os rfl oz))))))), lg (ls rfl (ls rfl (ls rfl (os rfl (os rfl (os rfl (os rfl (os rfl oz)))))))), lg (ls rfl (ls rfl (ls rfl (os rfl (os rfl (os rfl (os rfl (os rfl (os rfl oz))))))))), trivial⟩ ?_
      refine aw_region (by decide) ?_
      refine rts _ rfl (opD_add (os rfl (os rfl (os rfl (os rfl (os rfl oz))))) (ev_const _ _) rfl) ?_
      refine rts _ rfl (opD_move lz) ?_
      refine .nil ?_
      obtain rfl := some_of hz_6
      replace hz_4 := ocs_l hz_4
      refine wk_yesN rfl (l := [(2, ptr (s.boxes.length + 0) 0), (4, ptr (s.boxes.length + 1) 0), (5, ptr (s.boxes.length + 2) 0), (16, sl (kI .u8) none (some false) (bytesOf x_3)), (17, pl (.int .i64 ((bytesOf x_3).length : Int))), (18, pl (.int .i64 (IntKind.i64.wrap (t_5.1 + 1))))]) (bs' := [⟨118, [pl (.int .u8 0), pl (.int .u64 0), pl (.int .u64 0), pl (.int .i64 0), pl (.int .u64 0), pl (.int .u64 0), pl (.string ⟨#[]⟩), pl (.string ⟨#[]⟩), pl (.int .u8 0), pl (.int .u64 0), pl (.bool false)]⟩, ⟨164, [sl (kI .u8) none none x_8.2.b_, pl (.bool x_8.2.wrong_)]⟩, ⟨118, [pl (.int .u8 x_8.1.Kind), pl (.int .u64 x_8.1.Space), pl (.int .u64 x_8.1.Handle), pl (.int .i64 x_8.1.Ref.Slot), pl (.int .u64 x_8.1.Ref.Gen), pl (.int .u64 x_8.1.To), pl (.string x_8.1.Key), pl (.string x_8.1.Value), pl (.int .u8 x_8.1.Rights), pl (.int .u64 x_8.1.Most), pl (.bool x_8.1.Flag)]⟩]) ⟨le_of_eq (eg (ls rfl (ls rfl oz))), le_of_eq (eg (ls rfl (ls rfl (os rfl oz)))), le_of_eq (eg (ls rfl (ls rfl (os rfl (os rfl oz))))), le_of_eq (eg (ls rfl (ls rfl (os rfl (os rfl (os rfl oz)))))), le_of_eq (eg (ls rfl (ls rfl (os rfl (os rfl (os rfl (os rfl oz))))))), le_of_eq (eg lz), trivial⟩ (bnd_cons (ptr_bnd _ (by first | omega | (simp only [List.length_append, List.length_cons, List.length_nil]; omega))) (bnd_cons (ptr_bnd _ (by first | omega | (simp only [List.length_append, List.length_cons, List.length_nil]; omega))) (bnd_cons (ptr_bnd _ (by first | omega | (simp only [List.length_append, List.length_cons, List.length_nil]; omega))) (bnd_cons (sl_b (kb_I _)) (bnd_cons (pl_bnd _ _ _) (bnd_cons (pl_bnd _ _ _) bnd_nil)))))) (Nat.le_of_ble_eq_true rfl) (by simp only [na, nb, nc, nd, nf, ng, nh, ni, nj, nk] <;> rfl) (bxle_same (bxle_same (bxle_same bxle_nil))) rfl (by simp only [na, nb, nc, nd, nf, ng, nh, ni, nj, nk] <;> rfl) (bl_cons (bnd_cons (pl_bnd _ _ _) (bnd_cons (pl_bnd _ _ _) (bnd_cons (pl_bnd _ _ _) (bnd_cons (pl_bnd _ _ _) (bnd_cons (pl_bnd _ _ _) (bnd_cons (pl_bnd _ _ _) (bnd_cons (pl_bnd _ _ _) (bnd_cons (pl_bnd _ _ _) (bnd_cons (pl_bnd _ _ _) (bnd_cons (pl_bnd _ _ _) (bnd_cons (pl_bnd _ _ _) bnd_nil))))))))))) (bl_cons (bnd_cons (sl_b (kb_I _)) (bnd_cons (pl_bnd _ _ _) bnd_nil)) (bl_cons (bnd_cons (pl_bnd _ _ _) (bnd_cons (pl_bnd _ _ _) (bnd_cons (pl_bnd _ _ _) (bnd_cons (pl_bnd _ _ _) (bnd_cons (pl_bnd _ _ _) (bnd_cons (pl_bnd _ _ _) (bnd_cons (pl_bnd _ _ _) (bnd_cons (pl_bnd _ _ _) (bnd_cons (pl_bnd _ _ _) (bnd_cons (pl_bnd _ _ _) (bnd_cons (pl_bnd _ _ _) bnd_nil))))))))))) bl_nil))) ?_
      exact ⟨m_z_6, Nat.lt_succ_self _, (IntKind.i64.wrap (t_5.1 + 1), x_8.2, x_8.1), ⟨le_of_eq (eg oz), le_of_eq (eg (os rfl oz)), le_of_eq (eg (os rfl (os rfl oz))), le_of_eq (eg (os rfl (os rfl (os rfl oz)))), le_of_eq (eg (os rfl (os rfl (os rfl (os rfl oz))))), le_of_eq (eg (os rfl (os rfl (os rfl (os rfl (os rfl oz)))))), trivial⟩, rfl, hz_4⟩
    · skip
      replace hz_6 := ifb_f hz_6 hc
      clear hc
      refine aw_exit ?_
      obtain rfl := some_of hz_6
      replace hz_4 := ocs_r hz_4
      refine wk_no ?_
      refine wk_yesN rfl (l := [(2, ptr (s.boxes.length + 0) 0), (4, ptr (s.boxes.length + 1) 0), (5, ptr (s.boxes.length + 2) 0)]) (bs' := [⟨118, [pl (.int .u8 0), pl (.int .u64 0), pl (.int .u64 0), pl (.int .i64 0), pl (.int .u64 0), pl (.int .u64 0), pl (.string ⟨#[]⟩), pl (.string ⟨#[]⟩), pl (.int .u8 0), pl (.int .u64 0), pl (.bool false)]⟩, ⟨164, [sl (kI .u8) none none t_5.2.1.b_, pl (.bool t_5.2.1.wrong_)]⟩, ⟨118, [pl (.int .u8 t_5.2.2.Kind), pl (.int .u64 t_5.2.2.Space), pl (.int .u64 t_5.2.2.Handle), pl (.int .i64 t_5.2.2.Ref.Slot), pl (.int .u64 t_5.2.2.Ref.Gen), pl (.int .u64 t_5.2.2.To), pl (.string t_5.2.2.Key), pl (.string t_5.2.2.Value), pl (.int .u8 t_5.2.2.Rights), pl (.int .u64 t_5.2.2.Most), pl (.bool t_5.2.2.Flag)]⟩]) ⟨le_of_eq (eg oz), le_of_eq (eg (os rfl oz)), le_of_eq (eg (os rfl (os rfl oz))), trivial⟩ (bnd_cons (ptr_bnd _ (by first | omega | (simp only [List.length_append, List.length_cons, List.length_nil]; omega))) (bnd_cons (ptr_bnd _ (by first | omega | (simp only [List.length_append, List.length_cons, List.length_nil]; omega))) (bnd_cons (ptr_bnd _ (by first | omega | (simp only [List.length_append, List.length_cons, List.length_nil]; omega))) bnd_nil))) (Nat.le_of_ble_eq_true rfl) (by simp only [na, nb, nc, nd, nf, ng, nh, ni, nj, nk] <;> rfl) (bxle_same (bxle_same (bxle_same bxle_nil))) rfl (by simp only [na, nb, nc, nd, nf, ng, nh, ni, nj, nk] <;> rfl) (bl_cons (bnd_cons (pl_bnd _ _ _) (bnd_cons (pl_bnd _ _ _) (bnd_cons (pl_bnd _ _ _) (bnd_cons (pl_bnd _ _ _) (bnd_cons (pl_bnd _ _ _) (bnd_cons (pl_bnd _ _ _) (bnd_cons (pl_bnd _ _ _) (bnd_cons (pl_bnd _ _ _) (bnd_cons (pl_bnd _ _ _) (bnd_cons (pl_bnd _ _ _) (bnd_cons (pl_bnd _ _ _) bnd_nil))))))))))) (bl_cons (bnd_cons (sl_b (kb_I _)) (bnd_cons (pl_bnd _ _ _) bnd_nil)) (bl_cons (bnd_cons (pl_bnd _ _ _) (bnd_cons (pl_bnd _ _ _) (bnd_cons (pl_bnd _ _ _) (bnd_cons (pl_bnd _ _ _) (bnd_cons (pl_bnd _ _ _) (bnd_cons (pl_bnd _ _ _) (bnd_cons (pl_bnd _ _ _) (bnd_cons (pl_bnd _ _ _) (bnd_cons (pl_bnd _ _ _) (bnd_cons (pl_bnd _ _ _) (bnd_cons (pl_bnd _ _ _) bnd_nil))))))))))) bl_nil))) ?_
      exact ⟨(t_5.2.1, t_5.2.2), ⟨le_of_eq (eg oz), le_of_eq (eg (os rfl oz)), le_of_eq (eg (os rfl (os rfl oz))), trivial⟩, rfl, some_of hz_4⟩
  · rintro e st ⟨vz_4, hH, rfl, rfl⟩
    refine aw_keep _ hH ?_
    refine aw_keep [(2, _), (4, _), (5, _)] ⟨lg oz, lg (os rfl oz), lg (os rfl (os rfl oz)), trivial⟩ ?_
    refine aw_seq ?_
    refine aw_drawn [false, false, true, false, false, false, false, false, false, false, true, false] [[0, 1], [0], [0, 1], [1], [1], [1], [1], [1], [1, 2], [1, 2], [1, 2], [2]] mixed_U4 (by decide +kernel) ?_
    refine dtlGA (qs := [_, _, _, _, _, _, _, _, _, _, _]) ag118_U4 sz118_U4 (os rfl (os rfl oz)) (loc_getN rfl rfl) (Nat.le_of_ble_eq_true rfl) rfl rfl ?_
    refine dtp _ rfl (fun s => opD_move (ls rfl (os rfl oz))) ?_
    replace h0 := bnd_some h0
    obtain ⟨x_9, hx_9, h0⟩ := h0
    refine dta _ rfl (opD_call ht26_U4 (c_oRDone hx_9 (loc_getN rfl rfl)) ⟨le_of_eq lz, trivial⟩) ?_
    refine dtp _ rfl (fun s => opD_bin lz (ev_const _ _) (fun w => errV_geql _ w _) (fun w => errV_eql _ w)) ?_
    refine dtp _ rfl (fun s => opD_move lz) ?_
    refine dtg _ rfl lz (fun hg8_5_5 s => opD_fieldAddr fo118_0_U4 (ls rfl (ls rfl (ls rfl (ls rfl (ls rfl (os rfl (os rfl oz)))))))) ?_
    refine dtgl _ (fun s' => s'.boxes[s.boxes.length + 2]? = some ⟨118, [pl (.int .u8 vz_4.2.Kind), pl (.int .u64 vz_4.2.Space), pl (.int .u64 vz_4.2.Handle), pl (.int .i64 vz_4.2.Ref.Slot), pl (.int .u64 vz_4.2.Ref.Gen), pl (.int .u64 vz_4.2.To), pl (.string vz_4.2.Key), pl (.string vz_4.2.Value), pl (.int .u8 vz_4.2.Rights), pl (.int .u64 vz_4.2.Most), pl (.bool vz_4.2.Flag)]⟩) rfl (ls rfl lz) (fun hg8_6_6 s' hs' => opD_load_one ag5_U4 (lz.trans (pif_pos hg8_6_6)) hs' rfl) ?_
    replace h0 := bnd_some h0
    obtain ⟨x_10, hx_10, h0⟩ := h0
    refine dtg _ rfl (ls rfl (ls rfl lz)) (fun hg8_7_7 s => opD_pure ht69_U4 (c_qform (gif_some hx_10 hg8_7_7)) ⟨le_of_eq (lz.trans (pif_pos hg8_7_7)), trivial⟩) ?_
    refine dtg _ rfl (ls rfl (ls rfl (ls rfl lz))) (fun hg8_8_8 s => opD_sneq (lz.trans (pif_pos hg8_8_8)) (ev_const _ _)) ?_
    refine dtp _ rfl (fun s => opD_and (ls rfl (ls rfl (ls rfl (ls rfl lz)))) lz) ?_
    refine dta _ rfl (storeAN rfl sz118_U4 (ls rfl (ls rfl (ls rfl (ls rfl (ls rfl (ls rfl (ls rfl (ls rfl (ls rfl (ls rfl oz)))))))))) (ls rfl (ls rfl (ls rfl (ls rfl (ls rfl (ls rfl (ls rfl (ls rfl (ls rfl lz))))))))) (ones_cons (one_pl rfl) (ones_cons (one_pl rfl) (ones_cons (one_pl rfl) (ones_cons (one_pl rfl) (ones_cons (one_pl rfl) (ones_cons (one_pl rfl) (ones_cons (one_pl rfl) (ones_cons (one_pl rfl) (ones_cons (one_pl rfl) (ones_cons (one_pl rfl) (ones_cons (one_pl rfl) ones_nil))))))))))) rfl rfl (Nat.le_of_ble_eq_true rfl) (List.cons_ne_nil _ _) (bnd_cons (pl_bnd _ _ _) (bnd_cons (pl_bnd _ _ _) (bnd_cons (pl_bnd _ _ _) (bnd_cons (pl_bnd _ _ _) (bnd_cons (pl_bnd _ _ _) (bnd_cons (pl_bnd _ _ _) (bnd_cons (pl_bnd _ _ _) (bnd_cons (pl_bnd _ _ _) (bnd_cons (pl_bnd _ _ _) (bnd_cons (pl_bnd _ _ _) (bnd_cons (pl_bnd _ _ _) bnd_nil))))))))))) (by simp only [na, nb, nc, nd, nf, ng, nh, ni, nj, nk] <;> rfl) (by simp only [na, nb, nc, nd, nf, ng, nh, ni, nj, nk] <;> rfl)) ?_
    refine dtp _ rfl (fun s => opD_assign (lx lz)) ?_
    refine .nil ?_
    dsimp only [List.nil_append, List.cons_append]
    refine ⟨rfl, ⟨⟨(by first | exact loc_getN rfl rfl | exact updx_get hlt | exact upd2_g hgh hlt | exact upd2_h hlt2), (by first | exact loc_getN rfl rfl | exact updx_get hlt | exact upd2_g hgh hlt | exact upd2_h hlt2), trivial⟩, trivial, trivial, trivial, trivial, trivial, ⟨(by first | exact loc_getN rfl rfl | exact updx_get hlt | exact upd2_g hgh hlt | exact upd2_h hlt2), trivial⟩, trivial, trivial, trivial, trivial, trivial, trivial⟩, ?_⟩
    refine aw_keep [(2, _), (3, _)] ⟨lg (ls rfl (lx (ls rfl (ls rfl (ls rfl (ls rfl (ls rfl (ls rfl (ls rfl (ls rfl (ls rfl (ls rfl oz)))))))))))), lg lz, trivial⟩ ?_
    refine aw_ret ?_
    obtain rfl := some_of h0
    exact done_ext (.inr rfl) ((res_list (rs := [_, _]) (ps := [_, _]) rfl rfl ⟨it_cellA (B := ⟨118, [_, _, _, _, _, _, _, _, _, _, _]⟩) ag118_U4 sz118_U4 oz (loc_getN rfl rfl) rfl, it_tmp (os rfl oz), trivial⟩).le (tup_le ⟨(agg_le ⟨(Pd.le_refl _), (Pd.le_refl _), (Pd.le_refl _), (Pd.le_refl _), (Pd.le_refl _), (Pd.le_refl _), (Pd.le_refl _), (Pd.le_refl _), (Pd.le_refl _), (Pd.le_refl _), (Pd.le_refl _), trivial⟩), (Pd.le_refl _), trivial⟩)) (tup_bnd (bnd_cons (agg_bnd (bnd_cons (pl_bnd _ _ _) (bnd_cons (pl_bnd _ _ _) (bnd_cons (pl_bnd _ _ _) (bnd_cons (pl_bnd _ _ _) (bnd_cons (pl_bnd _ _ _) (bnd_cons (pl_bnd _ _ _) (bnd_cons (pl_bnd _ _ _) (bnd_cons (pl_bnd _ _ _) (bnd_cons (pl_bnd _ _ _) (bnd_cons (pl_bnd _ _ _) (bnd_cons (pl_bnd _ _ _) bnd_nil)))))))))))) (bnd_cons (pl_bnd _ _ _) bnd_nil)))

def F_qcheck (fl : Nat) (p0 : Rq) : Option ((Option Int)) :=
  bnd (gif (((decide (p0.Ref.Slot < 0)) || (decide (64 ≤ p0.Ref.Slot))) == false) (F_rtchk p0.Rights)) fun x_1 => ifb (((decide (p0.Ref.Slot < 0)) || (decide (64 ≤ p0.Ref.Slot))) || x_1.isSome) (some (some 1)) (bnd (F_qbytes fl p0) fun x_2 => bnd (F_qread fl x_2) fun x_3 => ifb ((!x_3.2) || (!(decide (x_3.1.Kind = p0.Kind) && (decide (x_3.1.Space = p0.Space) && (decide (x_3.1.Handle = p0.Handle) && (decide (x_3.1.Ref.Slot = p0.Ref.Slot) && (decide (x_3.1.Ref.Gen = p0.Ref.Gen) && (decide (x_3.1.To = p0.To) && (decide (x_3.1.Key = p0.Key) && (decide (x_3.1.Value = p0.Value) && (decide (x_3.1.Rights = p0.Rights) && (decide (x_3.1.Most = p0.Most) && (decide (x_3.1.Flag = p0.Flag) && true))))))))))))) (some (some 1)) (some none))
set_option maxRecDepth 100000 in
set_option maxHeartbeats 2000000 in
theorem c_qcheck {fl : Nat} {p0 : Rq} {R : (Option Int)} (h0 : F_qcheck fl p0 = some R) : Pure Go.Proofs.Tryd.prog 71 [agg [pl (.int .u8 p0.Kind), pl (.int .u64 p0.Space), pl (.int .u64 p0.Handle), pl (.int .i64 p0.Ref.Slot), pl (.int .u64 p0.Ref.Gen), pl (.int .u64 p0.To), pl (.string p0.Key), pl (.string p0.Value), pl (.int .u8 p0.Rights), pl (.int .u64 p0.Most), pl (.bool p0.Flag)]] (pl (errV R)) := by
  intro s
  unfold F_qcheck at h0
  refine ac_of_aw s.boxes.length s.fr.length Go.Proofs.Tryd.func71 rfl (by simp [Go.Proofs.Tryd.ntmps71]) ?_
  refine aw_ext0 ?_
  refine aw_keep [(0, _)] ⟨lg ez, trivial⟩ ?_
  refine aw_seq ?_
  refine aw_region (by decide) ?_
  refine rts _ rfl (boxAN rfl oz (bnd_cons (pl_bnd _ _ _) (bnd_cons (pl_bnd _ _ _) (bnd_cons (pl_bnd _ _ _) (bnd_cons (pl_bnd _ _ _) (bnd_cons (pl_bnd _ _ _) (bnd_cons (pl_bnd _ _ _) (bnd_cons (pl_bnd _ _ _) (bnd_cons (pl_bnd _ _ _) (bnd_cons (pl_bnd _ _ _) (bnd_cons (pl_bnd _ _ _) (bnd_cons (pl_bnd _ _ _) bnd_nil))))))))))) (by first | exact List.length_nil | (simp only [List.length_cons, List.length_nil, Nat.zero_add, Nat.reduceAdd] <;> rfl)) (by simp only [na, nb, nc, nd, nf, ng, nh, ni, nj, nk] <;> rfl)) ?_
  refine rts _ rfl (opD_assign (ev_const _ _)) ?_
  refine .nil ?_
  refine aw_keep [(1, _)] ⟨lg (ls rfl lz), trivial⟩ ?_
  refine aw_seq ?_
  refine aw_seq ?_
  refine aw_region (by decide) ?_
  refine rts _ rfl (opD_fieldAddr fo118_3_U4 oz) ?_
  refine rts _ rfl (opD_fieldAddr fo116_0_U4 lz) ?_
  refine rts _ rfl (opD_load_one ag3_U4 lz (loc_getN rfl rfl) rfl) ?_
  refine rts _ rfl (opD_lss lz (ev_const _ _)) ?_
  refine rts _ rfl (opD_move lz) ?_
  refine rtg _ rfl lz (fun hg1_5_1 => opD_fieldAddr fo118_3_U4 (ls rfl (ls rfl (ls rfl (ls rfl (ls rfl oz)))))) ?_
  refine rtg _ rfl (ls rfl lz) (fun hg1_6_2 => opD_fieldAddr fo116_0_U4 (lz.trans (pif_pos hg1_6_2))) ?_
  refine rtg _ rfl (ls rfl (ls rfl lz)) (fun hg1_7_3 => opD_load_one ag3_U4 (lz.trans (pif_pos hg1_7_3)) (loc_getN rfl rfl) rfl) ?_
  refine rtg _ rfl (ls rfl (ls rfl (ls rfl lz))) (fun hg1_8_4 => opD_geq (lz.trans (pif_pos hg1_8_4)) (ev_const _ _)) ?_
  refine rts _ rfl (opD_or (ls rfl (ls rfl (ls rfl (ls rfl lz)))) lz) ?_
  refine rts _ rfl (opD_move lz) ?_
  refine rtg _ rfl lz (fun hg1_11_5 => opD_fieldAddr fo118_7_U4 (ls rfl (ls rfl (ls rfl (ls rfl (ls rfl (ls rfl (ls rfl (ls rfl (ls rfl (ls rfl (ls rfl oz)))))))))))) ?_
  refine rtg _ rfl (ls rfl lz) (fun hg1_12_6 => opD_load_one ag5_U4 (lz.trans (pif_pos hg1_12_6)) (loc_getN rfl rfl) rfl) ?_
  replace h0 := bnd_some h0
  obtain ⟨x_1, hx_1, h0⟩ := h0
  refine rtg _ rfl (ls rfl (ls rfl lz)) (fun hg1_13_7 => opD_pure ht114_U4 (c_rtchk (gif_some hx_1 hg1_13_7)) ⟨le_of_eq (lz.trans (pif_pos hg1_13_7)), trivial⟩) ?_
  refine rtg _ rfl (ls rfl (ls rfl (ls rfl lz))) (fun hg1_14_8 => opD_bin (lz.trans (pif_pos hg1_14_8)) (ev_const _ _) (fun w => errV_guard _ w _) (fun w => errV_beq _ w)) ?_
  refine rts _ rfl (opD_or (ls rfl (ls rfl (ls rfl (ls rfl lz)))) lz) ?_
  refine .nil ?_
  refine aw_keep [(1, _), (20, _)] ⟨lg (ls rfl (ls rfl (ls rfl (ls rfl (ls rfl (ls rfl (ls rfl (ls rfl (ls rfl (ls rfl (ls rfl (ls rfl (ls rfl (ls rfl (ls rfl (ls rfl oz)))))))))))))))), lg lz, trivial⟩ ?_
  refine aw_cond _ (os rfl oz) (fun hc => ?_) (fun hc => ?_)
  · skip
    replace h0 := ifb_t h0 hc
    clear hc
    refine aw_seq ?_
    refine aw_region (by decide) ?_
    refine rts _ rfl (opD_ple (q := pl (errV (some 1))) rfl (opD_makeInterface_pl cc107_U4 (ev_const _ _))) ?_
    refine rts _ rfl (opD_assign lz) ?_
    refine .nil ?_
    refine aw_keep [(2, _)] ⟨lg lz, trivial⟩ ?_
    refine aw_ret ?_
    obtain rfl := some_of h0
    exact done_ext (.inr rfl) ((res_one rfl (it_tmp oz)).le (Pd.le_refl _)) (pl_bnd _ _ _)
  · skip
    replace h0 := ifb_f h0 hc
    clear hc
    refine aw_skip ?_
    refine aw_keep [(1, _)] ⟨lg oz, trivial⟩ ?_
    refine aw_seq ?_
    refine aw_seq ?_
    refine aw_region (by decide) ?_
    replace h0 := bnd_some h0
    obtain ⟨x_2, hx_2, h0⟩ := h0
    refine rts _ rfl (opD_call ht111_U4 (c_qbytes hx_2 (loc_getN rfl rfl)) ⟨le_of_eq oz, trivial⟩) ?_
    replace h0 := bnd_some h0
    obtain ⟨x_3, hx_3, h0⟩ := h0
    refine rts _ rfl (opD_pure ht113_U4 (c_qread hx_3) ⟨le_of_eq lz, trivial⟩) ?_
    refine rts _ rfl (opD_move lz) ?_
    refine rts _ rfl (opD_extract lz rfl) ?_
    refine rts _ rfl (opD_extract (ls rfl lz) rfl) ?_
    refine rts _ rfl (allocN rfl zt118_U4 (by first | exact List.length_nil | (simp only [List.length_cons, List.length_nil, Nat.zero_add, Nat.reduceAdd] <;> rfl)) (by simp only [na, nb, nc, nd, nf, ng, nh, ni, nj, nk] <;> rfl)) ?_
    refine rts _ rfl (storeAN rfl sz118_U4 lz (ls rfl (ls rfl lz)) (ones_cons (one_pl rfl) (ones_cons (one_pl rfl) (ones_cons (one_pl rfl) (ones_cons (one_pl rfl) (ones_cons (one_pl rfl) (ones_cons (one_pl rfl) (ones_cons (one_pl rfl) (ones_cons (one_pl rfl) (ones_cons (one_pl rfl) (ones_cons (one_pl rfl) (ones_cons (one_pl rfl) ones_nil))))))))))) rfl rfl (Nat.le_of_ble_eq_true rfl) (List.cons_ne_nil _ _) (bnd_cons (pl_bnd _ _ _) (bnd_cons (pl_bnd _ _ _) (bnd_cons (pl_bnd _ _ _) (bnd_cons (pl_bnd _ _ _) (bnd_cons (pl_bnd _ _ _) (bnd_cons (pl_bnd _ _ _) (bnd_cons (pl_bnd _ _ _) (bnd_cons (pl_bnd _ _ _) (bnd_cons (pl_bnd _ _ _) (bnd_cons (pl_bnd _ _ _) (bnd_cons (pl_bnd _ _ _) bnd_nil))))))))))) (by simp only [na, nb, nc, nd, nf, ng, nh, ni, nj, nk] <;> rfl) (by simp only [na, nb, nc, nd, nf, ng, nh, ni, nj, nk] <;> rfl)) ?_
    refine rts _ rfl (opD_assign (lx (ls rfl lz))) ?_
    refine .nil ?_
    refine aw_keep [(1, _), (3, _), (4, _)] ⟨lg (ls rfl (lx (ls rfl (ls rfl (ls rfl (ls rfl (ls rfl (ls rfl oz)))))))), lg (ls rfl (lx lz)), lg lz, trivial⟩ ?_
    refine aw_seq ?_
    refine aw_region (by decide) ?_
    refine rts _ rfl (opD_move (os rfl (os rfl oz))) ?_
    refine rts _ rfl (opD_not lz) ?_
    refine rts _ rfl (opD_move lz) ?_
    refine rtg _ rfl lz (fun hg4_3_9 => opD_load_aggX (qs := [_, _, _, _, _, _, _, _, _, _, _]) ag118_U4 sz118_U4 (ls rfl (ls rfl (ls rfl (os rfl oz)))) (loc_getN rfl rfl) (Nat.le_of_ble_eq_true rfl) rfl) ?_
    refine rtg _ rfl (ls rfl lz) (fun hg4_4_10 => opD_load_aggX (qs := [_, _, _, _, _, _, _, _, _, _, _]) ag118_U4 sz118_U4 (ls rfl (ls rfl (ls rfl (ls rfl oz)))) (loc_getN rfl rfl) (Nat.le_of_ble_eq_true rfl) rfl) ?_
    refine rtg _ rfl (ls rfl (ls rfl lz)) (fun hg4_5_11 => opD_binA [.int .u8 x_3.1.Kind, .int .u64 x_3.1.Space, .int .u64 x_3.1.Handle, .int .i64 x_3.1.Ref.Slot, .int .u64 x_3.1.Ref.Gen, .int .u64 x_3.1.To, .string x_3.1.Key, .string x_3.1.Value, .int .u8 x_3.1.Rights, .int .u64 x_3.1.Most, .bool x_3.1.Flag] [.int .u8 p0.Kind, .int .u64 p0.Space, .int .u64 p0.Handle, .int .i64 p0.Ref.Slot, .int .u64 p0.Ref.Gen, .int .u64 p0.To, .string p0.Key, .string p0.Value, .int .u8 p0.Rights, .int .u64 p0.Most, .bool p0.Flag] ((ls rfl lz).trans (pif_pos hg4_5_11)) (lz.trans (pif_pos hg4_5_11)) (fun w => (eq_Rq_g _ _ _ _ _ w)) (fun w => (eq_Rq _ _ _ _ _ _ _ _ _ _ _ _ _ _ _ _ _ _ _ _ _ _ w).2)) ?_
    refine rts _ rfl (opD_or (ls rfl (ls rfl (ls rfl lz))) lz) ?_
    refine .nil ?_
    refine aw_keep [(33, _)] ⟨lg lz, trivial⟩ ?_
    refine aw_cond _ oz (fun hc => ?_) (fun hc => ?_)
    · skip
      replace h0 := ifb_t h0 hc
      clear hc
      refine aw_seq ?_
      refine aw_region (by decide) ?_
      refine rts _ rfl (opD_ple (q := pl (errV (some 1))) rfl (opD_makeInterface_pl cc107_U4 (ev_const _ _))) ?_
      refine rts _ rfl (opD_assign lz) ?_
      refine .nil ?_
      refine aw_keep [(2, _)] ⟨lg lz, trivial⟩ ?_
      refine aw_ret ?_
      obtain rfl := some_of h0
      exact done_ext (.inr rfl) ((res_one rfl (it_tmp oz)).le (Pd.le_refl _)) (pl_bnd _ _ _)
    · skip
      replace h0 := ifb_f h0 hc
      clear hc
      refine aw_skip ?_
      refine aw_keep [] trivial ?_
      refine aw_seq ?_
      refine aw_region (by decide) ?_
      refine rts _ rfl (opD_assign (ev_const _ _)) ?_
      refine .nil ?_
      refine aw_keep [(2, _)] ⟨lg lz, trivial⟩ ?_
      refine aw_ret ?_
      obtain rfl := some_of h0
      exact done_ext (.inr rfl) ((res_one rfl (it_tmp oz)).le (Pd.le_refl _)) (pl_bnd _ _ _)

def F_qenc (fl : Nat) (p0 : Rq) : Option ((List Int) × (Option Int)) :=
  bnd (F_qcheck fl p0) fun x_1 => ifb x_1.isSome (some ([], x_1)) (bnd (F_qbytes fl p0) fun x_2 => some (x_2, none))
set_option maxRecDepth 100000 in
set_option maxHeartbeats 2000000 in
theorem c_qenc {fl : Nat} {p0 : Rq} {R : (List Int) × (Option Int)} (h0 : F_qenc fl p0 = some R) : Pure Go.Proofs.Tryd.prog 63 [agg [pl (.int .u8 p0.Kind), pl (.int .u64 p0.Space), pl (.int .u64 p0.Handle), pl (.int .i64 p0.Ref.Slot), pl (.int .u64 p0.Ref.Gen), pl (.int .u64 p0.To), pl (.string p0.Key), pl (.string p0.Value), pl (.int .u8 p0.Rights), pl (.int .u64 p0.Most), pl (.bool p0.Flag)]] (tup [sl (kI .u8) none none R.1, pl (errV R.2)]) := by
  intro s
  unfold F_qenc at h0
  refine ac_of_aw s.boxes.length s.fr.length Go.Proofs.Tryd.func63 rfl (by simp [Go.Proofs.Tryd.ntmps63]) ?_
  refine aw_ext0 ?_
  refine aw_keep [(0, _)] ⟨lg ez, trivial⟩ ?_
  refine aw_seq ?_
  refine aw_region (by decide) ?_
  refine rts _ rfl (boxAN rfl oz (bnd_cons (pl_bnd _ _ _) (bnd_cons (pl_bnd _ _ _) (bnd_cons (pl_bnd _ _ _) (bnd_cons (pl_bnd _ _ _) (bnd_cons (pl_bnd _ _ _) (bnd_cons (pl_bnd _ _ _) (bnd_cons (pl_bnd _ _ _) (bnd_cons (pl_bnd _ _ _) (bnd_cons (pl_bnd _ _ _) (bnd_cons (pl_bnd _ _ _) (bnd_cons (pl_bnd _ _ _) bnd_nil))))))))))) (by first | exact List.length_nil | (simp only [List.length_cons, List.length_nil, Nat.zero_add, Nat.reduceAdd] <;> rfl)) (by simp only [na, nb, nc, nd, nf, ng, nh, ni, nj, nk] <;> rfl)) ?_
  refine rts _ rfl (opD_assign (ev_const _ _)) ?_
  refine rts _ rfl (opD_assign (ev_const _ _)) ?_
  refine .nil ?_
  refine aw_keep [(1, _)] ⟨lg (ls rfl (ls rfl lz)), trivial⟩ ?_
  refine aw_seq ?_
  refine aw_seq ?_
  refine aw_region (by decide) ?_
  refine rts _ rfl (opD_load_aggX (qs := [_, _, _, _, _, _, _, _, _, _, _]) ag118_U4 sz118_U4 oz (loc_getN rfl rfl) (Nat.le_of_ble_eq_true rfl) rfl) ?_
  replace h0 := bnd_some h0
  obtain ⟨x_1, hx_1, h0⟩ := h0
  refine rts _ rfl (opD_pure ht71_U4 (c_qcheck hx_1) ⟨(le_of_eq lz).trans (agg_le ⟨(Pd.le_refl _), (Pd.le_refl _), (Pd.le_refl _), (Pd.le_refl _), (Pd.le_refl _), (Pd.le_refl _), (Pd.le_refl _), (Pd.le_refl _), (Pd.le_refl _), (Pd.le_refl _), (Pd.le_refl _), trivial⟩), trivial⟩) ?_
  refine rts _ rfl (opD_assign lz) ?_
  refine .nil ?_
  refine aw_keep [(1, _), (4, _)] ⟨lg (ls rfl (ls rfl (ls rfl oz))), lg lz, trivial⟩ ?_
  refine aw_seq ?_
  refine aw_region (by decide) ?_
  refine rts _ rfl (opD_move (os rfl oz)) ?_
  refine rts _ rfl (opD_bin lz (ev_const _ _) (fun w => errV_guard _ w _) (fun w => errV_beq _ w)) ?_
  refine .nil ?_
  refine aw_keep [(1, _), (4, _), (8, _)] ⟨lg (ls rfl (ls rfl oz)), lg (ls rfl (ls rfl (os rfl oz))), lg lz, trivial⟩ ?_
  refine aw_cond _ (os rfl (os rfl oz)) (fun hc => ?_) (fun hc => ?_)
  · skip
    replace h0 := ifb_t h0 hc
    clear hc
    refine aw_seq ?_
    refine aw_region (by decide) ?_
    refine rts _ rfl (opD_move (os rfl oz)) ?_
    refine rts _ rfl (opD_assign (ev_const _ _)) ?_
    refine rts _ rfl (opD_assign (ls rfl lz)) ?_
    refine .nil ?_
    refine aw_keep [(2, _), (3, _)] ⟨lg (ls rfl lz), lg lz, trivial⟩ ?_
    refine aw_ret ?_
    obtain rfl := some_of h0
    exact done_ext (.inr rfl) ((res_list (rs := [_, _]) (ps := [_, _]) rfl rfl ⟨it_tmp oz, it_tmp (os rfl oz), trivial⟩).le (tup_le ⟨(le_nil rfl), (Pd.le_refl _), trivial⟩)) (tup_bnd (bnd_cons (sl_b (kb_I _)) (bnd_cons (pl_bnd _ _ _) bnd_nil)))
  · skip
    replace h0 := ifb_f h0 hc
    clear hc
    refine aw_skip ?_
    refine aw_keep [(1, _)] ⟨lg oz, trivial⟩ ?_
    refine aw_seq ?_
    refine aw_region (by decide) ?_
    replace h0 := bnd_some h0
    obtain ⟨x_2, hx_2, h0⟩ := h0
    refine rts _ rfl (opD_call ht111_U4 (c_qbytes hx_2 (loc_getN rfl rfl)) ⟨le_of_eq oz, trivial⟩) ?_
    refine rts _ rfl (opD_assign lz) ?_
    refine rts _ rfl (opD_assign (ev_const _ _)) ?_
    refine .nil ?_
    refine aw_keep [(2, _), (3, _)] ⟨lg (ls rfl lz), lg lz, trivial⟩ ?_
    refine aw_ret ?_
    obtain rfl := some_of h0
    exact done_ext (.inr rfl) ((res_list (rs := [_, _]) (ps := [_, _]) rfl rfl ⟨it_tmp oz, it_tmp (os rfl oz), trivial⟩).le (tup_le ⟨(Pd.le_refl _), (Pd.le_refl _), trivial⟩)) (tup_bnd (bnd_cons (sl_b (kb_I _)) (bnd_cons (pl_bnd _ _ _) bnd_nil)))

def F_qdec (fl : Nat) (p0 : (List Int)) : Option (Rq × (Option Int)) :=
  bnd (F_qread fl p0) fun x_1 => bnd (gif ((!x_1.2) == false) (F_qcheck fl x_1.1)) fun x_2 => bnd (gif (((!x_1.2) || x_2.isSome) == false) (F_qbytes fl x_1.1)) fun x_3 => ifb (((!x_1.2) || x_2.isSome) || (decide ((strOf x_3) ≠ (strOf p0)))) (some ((⟨0, 0, 0, (⟨0, 0⟩ : Rf), 0, ⟨#[]⟩, ⟨#[]⟩, 0, 0, false⟩ : Rq), some 3)) (some (x_1.1, none))
set_option maxRecDepth 100000 in
set_option maxHeartbeats 2000000 in
theorem c_qdec {fl : Nat} {p0 : (List Int)} {R : Rq × (Option Int)} (h0 : F_qdec fl p0 = some R) : Pure Go.Proofs.Tryd.prog 66 [sl (kI .u8) none none p0] (tup [agg [pl (.int .u8 R.1.Kind), pl (.int .u64 R.1.Space), pl (.int .u64 R.1.Handle), pl (.int .i64 R.1.Ref.Slot), pl (.int .u64 R.1.Ref.Gen), pl (.int .u64 R.1.To), pl (.string R.1.Key), pl (.string R.1.Value), pl (.int .u8 R.1.Rights), pl (.int .u64 R.1.Most), pl (.bool R.1.Flag)], pl (errV R.2)]) := by
  intro s
  unfold F_qdec at h0
  refine ac_of_aw s.boxes.length s.fr.length Go.Proofs.Tryd.func66 rfl (by simp [Go.Proofs.Tryd.ntmps66]) ?_
  refine aw_ext0 ?_
  refine aw_keep [(0, _)] ⟨lg ez, trivial⟩ ?_
  refine aw_seq ?_
  refine aw_region (by decide) ?_
  refine rts _ rfl (allocN rfl zt118_U4 (by first | exact List.length_nil | (simp only [List.length_cons, List.length_nil, Nat.zero_add, Nat.reduceAdd] <;> rfl)) (by simp only [na, nb, nc, nd, nf, ng, nh, ni, nj, nk] <;> rfl)) ?_
  refine rts _ rfl (opD_assign (ev_const _ _)) ?_
  refine .nil ?_
  refine aw_keep [(0, _), (2, _)] ⟨lg (ls rfl (ls rfl oz)), lg (ls rfl lz), trivial⟩ ?_
  refine aw_seq ?_
  refine aw_region (by decide) ?_
  refine rts _ rfl (opD_move oz) ?_
  replace h0 := bnd_some h0
  obtain ⟨x_1, hx_1, h0⟩ := h0
  refine rts _ rfl (opD_pure ht113_U4 (c_qread hx_1) ⟨le_of_eq lz, trivial⟩) ?_
  refine rts _ rfl (opD_move lz) ?_
  refine rts _ rfl (opD_extract lz rfl) ?_
  refine rts _ rfl (opD_extract (ls rfl lz) rfl) ?_
  refine rts _ rfl (allocN rfl zt118_U4 (by first | exact List.length_nil | (simp only [List.length_cons, List.length_nil, Nat.zero_add, Nat.reduceAdd] <;> rfl)) (by simp only [na, nb, nc, nd, nf, ng, nh, ni, nj, nk] <;> rfl)) ?_
  refine rts _ rfl (storeAN rfl sz118_U4 lz (ls rfl (ls rfl lz)) (ones_cons (one_pl rfl) (ones_cons (one_pl rfl) (ones_cons (one_pl rfl) (ones_cons (one_pl rfl) (ones_cons (one_pl rfl) (ones_cons (one_pl rfl) (ones_cons (one_pl rfl) (ones_cons (one_pl rfl) (ones_cons (one_pl rfl) (ones_cons (one_pl rfl) (ones_cons (one_pl rfl) ones_nil))))))))))) rfl rfl (Nat.le_of_ble_eq_true rfl) (List.cons_ne_nil _ _) (bnd_cons (pl_bnd _ _ _) (bnd_cons (pl_bnd _ _ _) (bnd_cons (pl_bnd _ _ _) (bnd_cons (pl_bnd _ _ _) (bnd_cons (pl_bnd _ _ _) (bnd_cons (pl_bnd _ _ _) (bnd_cons (pl_bnd _ _ _) (bnd_cons (pl_bnd _ _ _) (bnd_cons (pl_bnd _ _ _) (bnd_cons (pl_bnd _ _ _) (bnd_cons (pl_bnd _ _ _) bnd_nil))))))))))) (by simp only [na, nb, nc, nd, nf, ng, nh, ni, nj, nk] <;> rfl) (by simp only [na, nb, nc, nd, nf, ng, nh, ni, nj, nk] <;> rfl)) ?_
  refine rts _ rfl (opD_assign (lx (ls rfl lz))) ?_
  refine .nil ?_
  refine aw_keep [(0, _), (2, _), (4, _), (5, _)] ⟨lg (ls rfl (lx (ls rfl (ls rfl (ls rfl (ls rfl (ls rfl (ls rfl oz)))))))), lg (ls rfl (lx (ls rfl (ls rfl (ls rfl (ls rfl (ls rfl (ls rfl (os rfl oz))))))))), lg (ls rfl (lx lz)), lg lz, trivial⟩ ?_
  refine aw_seq ?_
  refine aw_seq ?_
  refine aw_flat mixed_U4 (by decide +kernel) ?_
  refine zts _ rfl (opD_move (os rfl (os rfl (os rfl oz)))) ?_
  refine zts _ rfl (opD_not lz) ?_
  refine zts _ rfl (opD_move lz) ?_
  refine ztg _ rfl lz (fun hg2_3_9 => opD_load_aggX (qs := [_, _, _, _, _, _, _, _, _, _, _]) ag118_U4 sz118_U4 (ls rfl (ls rfl (ls rfl (os rfl (os rfl oz))))) (loc_getN rfl rfl) (Nat.le_of_ble_eq_true rfl) rfl) ?_
  replace h0 := bnd_some h0
  obtain ⟨x_2, hx_2, h0⟩ := h0
  refine ztg _ rfl (ls rfl lz) (fun hg2_4_10 => opD_pure ht71_U4 (c_qcheck (gif_some hx_2 hg2_4_10)) ⟨(le_of_eq (lz.trans (pif_pos hg2_4_10))).trans (agg_le ⟨(Pd.le_refl _), (Pd.le_refl _), (Pd.le_refl _), (Pd.le_refl _), (Pd.le_refl _), (Pd.le_refl _), (Pd.le_refl _), (Pd.le_refl _), (Pd.le_refl _), (Pd.le_refl _), (Pd.le_refl _), trivial⟩), trivial⟩) ?_
  refine ztg _ rfl (ls rfl (ls rfl lz)) (fun hg2_5_11 => opD_bin (lz.trans (pif_pos hg2_5_11)) (ev_const _ _) (fun w => errV_guard _ w _) (fun w => errV_beq _ w)) ?_
  refine zts _ rfl (opD_or (ls rfl (ls rfl (ls rfl lz))) lz) ?_
  refine zts _ rfl (opD_move lz) ?_
  replace h0 := bnd_some h0
  obtain ⟨x_3, hx_3, h0⟩ := h0
  refine ztg _ rfl lz (fun hg2_8_12 => opD_call ht111_U4 (c_qbytes (gif_some hx_3 hg2_8_12) (loc_getN rfl rfl)) ⟨le_of_eq (ls rfl (ls rfl (ls rfl (ls rfl (ls rfl (ls rfl (ls rfl (ls rfl (os rfl (os rfl oz)))))))))), trivial⟩) ?_
  refine ztg _ rfl (ls rfl lz) (fun hg2_9_13 => opD_bytes_str Go.Proofs.Tryd.underlying23 Go.Proofs.Tryd.underlying5 Go.Proofs.Tryd.underlying9 (lz.trans (pif_pos hg2_9_13))) ?_
  refine ztg _ rfl (ls rfl (ls rfl lz)) (fun hg2_10_14 => opD_move (ls rfl (ls rfl (ls rfl (ls rfl (ls rfl (ls rfl (ls rfl (ls rfl (ls rfl (ls rfl oz))))))))))) ?_
  refine ztg _ rfl (ls rfl (ls rfl (ls rfl lz))) (fun hg2_11_15 => opD_bytes_str Go.Proofs.Tryd.underlying23 Go.Proofs.Tryd.underlying5 Go.Proofs.Tryd.underlying9 (lz.trans (pif_pos hg2_11_15))) ?_
  refine ztg _ rfl (ls rfl (ls rfl (ls rfl (ls rfl lz)))) (fun hg2_12_16 => opD_sneq ((ls rfl (ls rfl lz)).trans (pif_pos hg2_12_16)) (lz.trans (pif_pos hg2_12_16))) ?_
  refine zts _ rfl (opD_or (ls rfl (ls rfl (ls rfl (ls rfl (ls rfl lz))))) lz) ?_
  refine .nil ?_
  refine aw_keep [(2, _), (4, _), (24, _)] ⟨lg (ls rfl (ls rfl (ls rfl (ls rfl (ls rfl (ls rfl (ls rfl (ls rfl (ls rfl (ls rfl (ls rfl (ls rfl (ls rfl (ls rfl (os rfl oz))))))))))))))), lg (ls rfl (ls rfl (ls rfl (ls rfl (ls rfl (ls rfl (ls rfl (ls rfl (ls rfl (ls rfl (ls rfl (ls rfl (ls rfl (ls rfl (os rfl (os rfl oz)))))))))))))))), lg lz, trivial⟩ ?_
  refine aw_cond _ (os rfl (os rfl oz)) (fun hc => ?_) (fun hc => ?_)
  · skip
    replace h0 := ifb_t h0 hc
    clear hc
    refine aw_seq ?_
    refine aw_region (by decide) ?_
    refine rts _ rfl (opD_build_struct (rs := [_, _, _, _, _, _, _, _, _, _, _]) Go.Proofs.Tryd.underlying118 pt118_U4 zt118_U4 parts_nil rfl) ?_
    refine rts _ rfl (opD_ple (q := pl (errV (some 3))) rfl (opD_makeInterface_pl cc107_U4 (ev_const _ _))) ?_
    refine rts _ rfl (storeAN rfl sz118_U4 (ls rfl (ls rfl oz)) (ls rfl lz) (ones_cons (one_pl rfl) (ones_cons (one_pl rfl) (ones_cons (one_pl rfl) (ones_cons (one_pl rfl) (ones_cons (one_pl rfl) (ones_cons (one_pl rfl) (ones_cons (one_pl rfl) (ones_cons (one_pl rfl) (ones_cons (one_pl rfl) (ones_cons (one_pl rfl) (ones_cons (one_pl rfl) ones_nil))))))))))) rfl rfl (Nat.le_of_ble_eq_true rfl) (List.cons_ne_nil _ _) (bnd_cons (pl_bnd _ _ _) (bnd_cons (pl_bnd _ _ _) (bnd_cons (pl_bnd _ _ _) (bnd_cons (pl_bnd _ _ _) (bnd_cons (pl_bnd _ _ _) (bnd_cons (pl_bnd _ _ _) (bnd_cons (pl_bnd _ _ _) (bnd_cons (pl_bnd _ _ _) (bnd_cons (pl_bnd _ _ _) (bnd_cons (pl_bnd _ _ _) (bnd_cons (pl_bnd _ _ _) bnd_nil))))))))))) (by simp only [na, nb, nc, nd, nf, ng, nh, ni, nj, nk] <;> rfl) (by simp only [na, nb, nc, nd, nf, ng, nh, ni, nj, nk] <;> rfl)) ?_
    refine rts _ rfl (opD_assign (lx lz)) ?_
    refine .nil ?_
    refine aw_keep [(2, _), (3, _)] ⟨lg (ls rfl (lx (ls rfl (ls rfl oz)))), lg lz, trivial⟩ ?_
    refine aw_ret ?_
    obtain rfl := some_of h0
    exact done_ext (.inr rfl) ((res_list (rs := [_, _]) (ps := [_, _]) rfl rfl ⟨it_cellA (B := ⟨118, [_, _, _, _, _, _, _, _, _, _, _]⟩) ag118_U4 sz118_U4 oz (loc_getN rfl rfl) rfl, it_tmp (os rfl oz), trivial⟩).le (tup_le ⟨(agg_le ⟨(Pd.le_refl _), (Pd.le_refl _), (Pd.le_refl _), (Pd.le_refl _), (Pd.le_refl _), (Pd.le_refl _), (Pd.le_refl _), (Pd.le_refl _), (Pd.le_refl _), (Pd.le_refl _), (Pd.le_refl _), trivial⟩), (Pd.le_refl _), trivial⟩)) (tup_bnd (bnd_cons (agg_bnd (bnd_cons (pl_bnd _ _ _) (bnd_cons (pl_bnd _ _ _) (bnd_cons (pl_bnd _ _ _) (bnd_cons (pl_bnd _ _ _) (bnd_cons (pl_bnd _ _ _) (bnd_cons (pl_bnd _ _ _) (bnd_cons (pl_bnd _ _ _) (bnd_cons (pl_bnd _ _ _) (bnd_cons (pl_bnd _ _ _) (bnd_cons (pl_bnd _ _ _) (bnd_cons (pl_bnd _ _ _) bnd_nil)))))))))))) (bnd_cons (pl_bnd _ _ _) bnd_nil)))
  · skip
    replace h0 := ifb_f h0 hc
    clear hc
    refine aw_skip ?_
    refine aw_keep [(2, _), (4, _)] ⟨lg oz, lg (os rfl oz), trivial⟩ ?_
    refine aw_seq ?_
    refine aw_region (by decide) ?_
    refine rts _ rfl (opD_load_aggX (qs := [_, _, _, _, _, _, _, _, _, _, _]) ag118_U4 sz118_U4 (os rfl oz) (loc_getN rfl rfl) (Nat.le_of_ble_eq_true rfl) rfl) ?_
    refine rts _ rfl (storeAN rfl sz118_U4 (ls rfl oz) lz (ones_cons (one_pl rfl) (ones_cons (one_pl rfl) (ones_cons (one_pl rfl) (ones_cons (one_pl rfl) (ones_cons (one_pl rfl) (ones_cons (one_pl rfl) (ones_cons (one_pl rfl) (ones_cons (one_pl rfl) (ones_cons (one_pl rfl) (ones_cons (one_pl rfl) (ones_cons (one_pl rfl) ones_nil))))))))))) rfl rfl (Nat.le_of_ble_eq_true rfl) (List.cons_ne_nil _ _) (bnd_cons (pl_bnd _ _ _) (bnd_cons (pl_bnd _ _ _) (bnd_cons (pl_bnd _ _ _) (bnd_cons (pl_bnd _ _ _) (bnd_cons (pl_bnd _ _ _) (bnd_cons (pl_bnd _ _ _) (bnd_cons (pl_bnd _ _ _) (bnd_cons (pl_bnd _ _ _) (bnd_cons (pl_bnd _ _ _) (bnd_cons (pl_bnd _ _ _) (bnd_cons (pl_bnd _ _ _) bnd_nil))))))))))) (by simp only [na, nb, nc, nd, nf, ng, nh, ni, nj, nk] <;> rfl) (by simp only [na, nb, nc, nd, nf, ng, nh, ni, nj, nk] <;> rfl)) ?_
    refine rts _ rfl (opD_assign (ev_const _ _)) ?_
    refine .nil ?_
    refine aw_keep [(2, _), (3, _)] ⟨lg (ls rfl (lx (ls rfl oz))), lg lz, trivial⟩ ?_
    refine aw_ret ?_
    obtain rfl := some_of h0
    exact done_ext (.inr rfl) ((res_list (rs := [_, _]) (ps := [_, _]) rfl rfl ⟨it_cellA (B := ⟨118, [_, _, _, _, _, _, _, _, _, _, _]⟩) ag118_U4 sz118_U4 oz (loc_getN rfl rfl) rfl, it_tmp (os rfl oz), trivial⟩).le (tup_le ⟨(agg_le ⟨(Pd.le_refl _), (Pd.le_refl _), (Pd.le_refl _), (Pd.le_refl _), (Pd.le_refl _), (Pd.le_refl _), (Pd.le_refl _), (Pd.le_refl _), (Pd.le_refl _), (Pd.le_refl _), (Pd.le_refl _), trivial⟩), (Pd.le_refl _), trivial⟩)) (tup_bnd (bnd_cons (agg_bnd (bnd_cons (pl_bnd _ _ _) (bnd_cons (pl_bnd _ _ _) (bnd_cons (pl_bnd _ _ _) (bnd_cons (pl_bnd _ _ _) (bnd_cons (pl_bnd _ _ _) (bnd_cons (pl_bnd _ _ _) (bnd_cons (pl_bnd _ _ _) (bnd_cons (pl_bnd _ _ _) (bnd_cons (pl_bnd _ _ _) (bnd_cons (pl_bnd _ _ _) (bnd_cons (pl_bnd _ _ _) bnd_nil)))))))))))) (bnd_cons (pl_bnd _ _ _) bnd_nil)))
end Go.Proofs.YtmnhfpcbfdgbcaaDoor.Eng.A
