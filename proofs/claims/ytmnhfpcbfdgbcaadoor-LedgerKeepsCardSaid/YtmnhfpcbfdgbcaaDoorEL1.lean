/- EL1: what functions do, walked; used by the laws of this seat. -/
import Derived.Test.YtmnhfpcbfdgbcaaDoorEW3
import Derived.Test.YtmnhfpcbfdgbcaaDoorEX5
import Derived.Test.YtmnhfpcbfdgbcaaDoorEngX4
import Derived.Test.YtmnhfpcbfdgbcaaDoorEU1
namespace Go.Proofs.YtmnhfpcbfdgbcaaDoor.Eng.Ha
set_option linter.unusedVariables false
set_option linter.unusedSimpArgs false
open Go.RowKit Go.Proofs.YtmnhfpcbfdgbcaaDoor.Plain Go.Proofs.YtmnhfpcbfdgbcaaDoor.Eng

theorem sz63 : sizeT Go.Proofs.Tryd.prog 63 = some 5 := by kernel_rfl
theorem zt63 : zeroT Go.Proofs.Tryd.prog 63 = some [.int .u64 0, .int .u64 0, .int .u8 0, .int .u16 0, .string ⟨#[]⟩] := by kernel_rfl
theorem el63 : elT Go.Proofs.Tryd.prog 63 = some (5, 40) := by kernel_rfl
theorem mixed : Go.Proofs.Tryd.prog.follows .mixedOrders = true := by kernel_rfl

open Go.Proofs.YtmnhfpcbfdgbcaaDoor.Eng.A

set_option maxRecDepth 100000 in
set_option maxHeartbeats 1000000 in
theorem clh_nil {s : St} : AC Go.Proofs.Tryd.prog 93 [sl kLin none (some true) ([] : List Lin)] s (hsl s.boxes.length 4 0 ([] : List Lin).length kLin.sz) (s.ext [⟨hot 63 4, flat kLin ([] : List Lin)⟩] []) := by
  refine ac_of_aw (s.boxes.length + 1) s.fr.length Go.Proofs.Tryd.func93 rfl (by simp [Go.Proofs.Tryd.ntmps93]) ?_
  refine aw_ext0 ?_
  refine aw_keep [(0, _)] ⟨lg ez, trivial⟩ ?_
  refine aw_seq ?_
  refine aw_region (by decide) ?_
  refine rts _ rfl (opD_assign (ev_const _ _)) ?_
  refine .nil ?_
  refine aw_keep [(2, _), (0, _)] ⟨lg lz, lg (ls rfl oz), trivial⟩ ?_
  refine aw_seq ?_
  refine aw_seq ?_
  refine aw_region (by decide) ?_
  refine rts _ rfl (opD_move (os rfl oz)) ?_
  refine rts _ rfl (opD_eqnil Go.Proofs.Tryd.underlying55 lz) ?_
  refine .nil ?_
  refine aw_keep [(4, _), (2, _), (0, _)] ⟨lg lz, lg (ls rfl (ls rfl oz)), lg (ls rfl (ls rfl (os rfl oz))), trivial⟩ ?_
  refine aw_cond _ oz (fun hc => ?_) (fun hc => ?_)
  · skip
    refine aw_seq ?_
    refine aw_region (by decide) ?_
    refine rts _ rfl (nilHN rfl kLin (n := 0) (r := 4) (te := 63) rfl rfl (ev_const _ _) rfl) ?_
    refine .nil ?_
    refine aw_keep [(2, _), (4, _), (0, _)] ⟨lg lz, lg (ls rfl oz), lg (ls rfl (os rfl (os rfl oz))), trivial⟩ ?_
    refine aw_ret ?_
    exact done_newP (.inr rfl) (res_1 rfl (eg oz)) (hsl_bnd _ (by omega)) (flatKB kb_Lin)
  · skip
    exfalso; revert hc; simp

set_option maxRecDepth 100000 in
set_option maxHeartbeats 1000000 in
theorem clh_some {s : St} {l : List Lin} (hl : l.length * 40 ≤ 140737488355328) (hl2 : l.length ≤ 140737488355328) : AC Go.Proofs.Tryd.prog 93 [sl kLin none (some false) l] s (hsl s.boxes.length 4 0 l.length kLin.sz) (s.ext [⟨hot 63 4, flat kLin l⟩] []) := by
  refine ac_of_aw (s.boxes.length + 1) s.fr.length Go.Proofs.Tryd.func93 rfl (by simp [Go.Proofs.Tryd.ntmps93]) ?_
  refine aw_ext0 ?_
  refine aw_keep [(0, _)] ⟨lg ez, trivial⟩ ?_
  refine aw_seq ?_
  refine aw_region (by decide) ?_
  refine rts _ rfl (opD_assign (ev_const _ _)) ?_
  refine .nil ?_
  refine aw_keep [(2, _), (0, _)] ⟨lg lz, lg (ls rfl oz), trivial⟩ ?_
  refine aw_seq ?_
  refine aw_seq ?_
  refine aw_region (by decide) ?_
  refine rts _ rfl (opD_move (os rfl oz)) ?_
  refine rts _ rfl (opD_eqnil Go.Proofs.Tryd.underlying55 lz) ?_
  refine .nil ?_
  refine aw_keep [(4, _), (2, _), (0, _)] ⟨lg lz, lg (ls rfl (ls rfl oz)), lg (ls rfl (ls rfl (os rfl oz))), trivial⟩ ?_
  refine aw_cond _ oz (fun hc => ?_) (fun hc => ?_)
  · skip
    exfalso; revert hc; simp
  · skip
    refine aw_skip ?_
    refine aw_keep [(4, _), (2, _), (0, _)] ⟨lg oz, lg (os rfl oz), lg (os rfl (os rfl oz)), trivial⟩ ?_
    refine aw_seq ?_
    refine aw_region (by decide) ?_
    refine rts _ rfl (buildEmptyHN (k := kLin) rfl Go.Proofs.Tryd.underlying55 sz63 zt63 rfl (by first | exact List.length_nil | (simp only [List.length_cons, List.length_nil, Nat.zero_add, Nat.reduceAdd]; rfl)) (by simp only [List.nil_append, List.cons_append, List.map_cons, List.map_nil, List.set_cons_zero, List.set_cons_succ, List.take_succ_cons, List.take_zero, List.drop_succ_cons, List.drop_zero]; rfl)) ?_
    refine rts _ rfl (opD_move (ls rfl (os rfl (os rfl oz)))) ?_
    refine rts _ rfl (appendHN (k := kLin) (l := []) rfl Go.Proofs.Tryd.underlying55 el63 rfl (Nat.le_refl 2) rfl (ls rfl lz) lz rfl kb_Lin (by simpa using hl) (by simp; omega) rfl) ?_
    refine rts _ rfl (opD_assign lz) ?_
    refine .nil ?_
    refine aw_keep [(2, _), (4, _), (0, _)] ⟨lg lz, lg (ls rfl (ls rfl (ls rfl (ls rfl oz)))), lg (ls rfl (ls rfl (ls rfl (ls rfl (os rfl (os rfl oz)))))), trivial⟩ ?_
    refine aw_ret ?_
    exact done_newP (.inr rfl) (res_1 rfl (eg oz)) (hsl_bnd _ (by omega)) (flatKB kb_Lin)

theorem clh {l : List Lin} (hl : l.length * 40 ≤ 140737488355328) (hl2 : l.length ≤ 140737488355328) : ∀ s, AC Go.Proofs.Tryd.prog 93 [sl kLin none none l] s (hsl s.boxes.length 4 0 l.length kLin.sz) (s.ext [⟨hot 63 4, flat kLin l⟩] []) := fun s => ac_nl (fun h => by subst h; exact clh_nil) (clh_some hl hl2)

set_option maxRecDepth 100000 in
set_option maxHeartbeats 1000000 in
theorem delh {s : St} {g r i j : Nat} {l : List Lin} (hij : i < j) (hj : j < l.length) (hr : 2 ≤ r) (hev : r % 2 = 0) (hG : s.boxes[g]? = some ⟨hot 63 r, flat kLin l⟩) : AC Go.Proofs.Tryd.prog 94 [hsl g r 0 l.length kLin.sz, pl (.int .i64 (i : Int)), pl (.int .i64 (j : Int))] s (hsl g r 0 (l.take i ++ l.drop j).length kLin.sz) (s.upd g ⟨hot 63 r, flat kLin (l.take i ++ l.drop j)⟩) := by
  have hz : 0 < kLin.sz := by decide
  have hl : (l.take i ++ l.drop j).length = i + (l.length - j) := by simp; omega
  refine ac_of_aw s.boxes.length s.fr.length Go.Proofs.Tryd.func94 rfl (by simp [Go.Proofs.Tryd.ntmps94]) ?_
  refine aw_ext0 ?_
  have hlt := (List.getElem?_eq_some_iff.1 hG).1
  refine aw_upd0 hG ?_
  refine aw_keep [(0, _), (1, _), (2, _)] ⟨lg ez, lg (es ez), lg (es (es ez)), trivial⟩ ?_
  refine aw_seq ?_
  refine aw_region (by decide) ?_
  refine rts _ rfl (opD_assign (ev_const _ _)) ?_
  refine .nil ?_
  refine aw_keep [(6, _), (0, _), (1, _), (2, _)] ⟨lg lz, lg (ls rfl oz), lg (ls rfl (os rfl oz)), lg (ls rfl (os rfl (os rfl oz))), trivial⟩ ?_
  refine aw_seq ?_
  refine aw_region (by decide) ?_
  refine rts _ rfl (opD_move (os rfl oz)) ?_
  refine rts _ rfl (opD_move (ls rfl (os rfl (os rfl oz)))) ?_
  refine rts _ rfl (opD_move (ls rfl (ls rfl (os rfl (os rfl (os rfl oz)))))) ?_
  refine rts _ rfl (opD_move (ls rfl (ls rfl (ls rfl (os rfl oz))))) ?_
  refine rts _ rfl (opD_len_h Go.Proofs.Tryd.underlying55 lz) ?_
  refine rts _ rfl (opD_slice_hx (i := i) (j := j) (m := l.length) Go.Proofs.Tryd.underlying55 sz63 (ls rfl (ls rfl (ls rfl (ls rfl lz)))) (ls rfl (ls rfl (ls rfl lz))) (ls rfl (ls rfl lz)) lz (by omega) (by omega) (Nat.le_refl _)) ?_
  refine .nil ?_
  refine aw_keep [(6, _), (0, _), (1, _), (2, _)] ⟨lg (ls rfl (ls rfl (ls rfl (ls rfl (ls rfl (ls rfl oz)))))), lg (ls rfl (ls rfl (ls rfl (ls rfl (ls rfl (ls rfl (os rfl oz))))))), lg (ls rfl (ls rfl (ls rfl (ls rfl (ls rfl (ls rfl (os rfl (os rfl oz)))))))), lg (ls rfl (ls rfl (ls rfl (ls rfl (ls rfl (ls rfl (os rfl (os rfl (os rfl oz))))))))), trivial⟩ ?_
  refine aw_seq ?_
  refine aw_seq ?_
  refine aw_region (by decide) ?_
  refine rts _ rfl (opD_move (os rfl (os rfl oz))) ?_
  refine rts _ rfl (opD_move (ls rfl (os rfl (os rfl (os rfl oz))))) ?_
  refine rts _ rfl (opD_eql (ls rfl lz) lz) ?_
  refine .nil ?_
  refine aw_keep [(16, _), (6, _), (0, _), (1, _), (2, _)] ⟨lg lz, lg (ls rfl (ls rfl (ls rfl oz))), lg (ls rfl (ls rfl (ls rfl (os rfl oz)))), lg (ls rfl (ls rfl (ls rfl (os rfl (os rfl oz))))), lg (ls rfl (ls rfl (ls rfl (os rfl (os rfl (os rfl oz)))))), trivial⟩ ?_
  refine aw_cond _ oz (fun hc => ?_) (fun hc => ?_)
  · skip
    exfalso; revert hc; simp; omega
  · skip
    refine aw_skip ?_
    refine aw_keep [(16, _), (6, _), (0, _), (1, _), (2, _)] ⟨lg oz, lg (os rfl oz), lg (os rfl (os rfl oz)), lg (os rfl (os rfl (os rfl oz))), lg (os rfl (os rfl (os rfl (os rfl oz)))), trivial⟩ ?_
    refine aw_seq ?_
    refine aw_region (by decide) ?_
    refine rts _ rfl (opD_move (os rfl (os rfl oz))) ?_
    refine rts _ rfl (opD_len_h Go.Proofs.Tryd.underlying55 lz) ?_
    refine rts _ rfl (opD_assign lz) ?_
    refine .nil ?_
    refine aw_keep [(7, _), (16, _), (6, _), (0, _), (1, _), (2, _)] ⟨lg lz, lg (ls rfl (ls rfl (ls rfl oz))), lg (ls rfl (ls rfl (ls rfl (os rfl oz)))), lg (ls rfl (ls rfl (ls rfl (os rfl (os rfl oz))))), lg (ls rfl (ls rfl (ls rfl (os rfl (os rfl (os rfl oz)))))), lg (ls rfl (ls rfl (ls rfl (os rfl (os rfl (os rfl (os rfl oz))))))), trivial⟩ ?_
    refine aw_seq ?_
    refine aw_drawn [false, false, false, false, false, false, true, false] [[0], [0], [0], [0], [0], [0], [0, 1], [1]] mixed (by decide +kernel) ?_
    refine dtp _ rfl (fun s => opD_move (os rfl (os rfl (os rfl oz)))) ?_
    refine dtp _ rfl (fun s => opD_move (ls rfl (os rfl (os rfl (os rfl (os rfl oz)))))) ?_
    refine dtp _ rfl (fun s => opD_slice_h 0 i Go.Proofs.Tryd.underlying55 sz63 (ls rfl lz) rfl ⟨_, lz⟩ (Nat.zero_le _) (by omega) (.inl rfl)) ?_
    refine dtp _ rfl (fun s => opD_move (ls rfl (ls rfl (ls rfl (os rfl (os rfl (os rfl oz))))))) ?_
    refine dtp _ rfl (fun s => opD_move (ls rfl (ls rfl (ls rfl (ls rfl (os rfl (os rfl (os rfl (os rfl (os rfl oz)))))))))) ?_
    refine dtp _ rfl (fun s => opD_slice_h j l.length Go.Proofs.Tryd.underlying55 sz63 (ls rfl lz) ⟨_, lz⟩ rfl (by omega) (Nat.le_refl _) (.inr (by omega))) ?_
    refine dta _ rfl (hhU (k := kLin) hlt Go.Proofs.Tryd.underlying55 el63 rfl hr hev hz (ls rfl (ls rfl (ls rfl lz))) lz (by omega) (by omega)) ?_
    refine dtp _ rfl (fun s => opD_assign lz) ?_
    refine .nil ?_
    dsimp only [List.nil_append, List.cons_append]
    refine ⟨rfl, ⟨trivial, trivial, trivial, trivial, trivial, trivial, trivial, trivial, trivial⟩, ?_⟩
    refine aw_keep [(0, _), (7, _), (16, _), (6, _), (1, _), (2, _)] ⟨lg lz, lg (ls rfl (ls rfl (ls rfl (ls rfl (ls rfl (ls rfl (ls rfl (ls rfl oz)))))))), lg (ls rfl (ls rfl (ls rfl (ls rfl (ls rfl (ls rfl (ls rfl (ls rfl (os rfl oz))))))))), lg (ls rfl (ls rfl (ls rfl (ls rfl (ls rfl (ls rfl (ls rfl (ls rfl (os rfl (os rfl oz)))))))))), lg (ls rfl (ls rfl (ls rfl (ls rfl (ls rfl (ls rfl (ls rfl (ls rfl (os rfl (os rfl (os rfl (os rfl oz)))))))))))), lg (ls rfl (ls rfl (ls rfl (ls rfl (ls rfl (ls rfl (ls rfl (ls rfl (os rfl (os rfl (os rfl (os rfl (os rfl oz))))))))))))), trivial⟩ ?_
    refine aw_seq ?_
    refine aw_region (by decide) ?_
    refine rts _ rfl (opD_move oz) ?_
    refine rts _ rfl (opD_move (ls rfl oz)) ?_
    refine rts _ rfl (opD_len_h Go.Proofs.Tryd.underlying55 lz) ?_
    refine rts _ rfl (opD_move (ls rfl (ls rfl (ls rfl (os rfl oz))))) ?_
    refine rts _ rfl (sliceHU (j := l.length) hlt Go.Proofs.Tryd.underlying55 sz63 rfl hr hz (ls rfl (ls rfl (ls rfl lz))) (by rw [List.length_append, flat_length, List.length_drop, flat_length, ← Nat.sub_mul, ← Nat.add_mul]; exact Nat.mul_le_mul_right _ (by omega)) (ls rfl lz) lz (by omega)) ?_
    refine rts _ rfl (clearHU hlt Go.Proofs.Tryd.underlying55 el63 (by intro z hz0; have := Option.some.inj ((show (Go.Proofs.Tryd.prog.info? 63).bind (·.zero) = some _ from rfl).symm.trans hz0); subst this; decide) rfl hr hev lz rfl) ?_
    refine .nil ?_
    refine aw_keep [(0, _), (7, _), (16, _), (6, _), (1, _), (2, _)] ⟨lg (lx (ls rfl (ls rfl (ls rfl (ls rfl (ls rfl oz)))))), lg (lx (ls rfl (ls rfl (ls rfl (ls rfl (ls rfl (os rfl oz))))))), lg (lx (ls rfl (ls rfl (ls rfl (ls rfl (ls rfl (os rfl (os rfl oz)))))))), lg (lx (ls rfl (ls rfl (ls rfl (ls rfl (ls rfl (os rfl (os rfl (os rfl oz))))))))), lg (lx (ls rfl (ls rfl (ls rfl (ls rfl (ls rfl (os rfl (os rfl (os rfl (os rfl oz)))))))))), lg (lx (ls rfl (ls rfl (ls rfl (ls rfl (ls rfl (os rfl (os rfl (os rfl (os rfl (os rfl oz))))))))))), trivial⟩ ?_
    refine aw_seq ?_
    refine aw_region (by decide) ?_
    refine rts _ rfl (opD_move oz) ?_
    refine rts _ rfl (opD_assign lz) ?_
    refine .nil ?_
    refine aw_keep [(6, _), (0, _), (7, _), (16, _), (1, _), (2, _)] ⟨lg lz, lg (ls rfl (ls rfl oz)), lg (ls rfl (ls rfl (os rfl oz))), lg (ls rfl (ls rfl (os rfl (os rfl oz)))), lg (ls rfl (ls rfl (os rfl (os rfl (os rfl (os rfl oz)))))), lg (ls rfl (ls rfl (os rfl (os rfl (os rfl (os rfl (os rfl oz))))))), trivial⟩ ?_
    refine aw_ret ?_
    exact done_upd (.inr rfl) (res_1 rfl (eg oz)) (hsl_bnd _ hlt) (flatKB kb_Lin)
end Go.Proofs.YtmnhfpcbfdgbcaaDoor.Eng.Ha

