/- EA5: what functions do, walked; used by the laws of this seat. -/
import Derived.Test.YtokcgacehdgkcaaEA4
import Derived.Test.YtokcgacehdgkcaaEngX4
namespace Go.Proofs.Ytokcgacehdgkcaa.Eng.A
set_option linter.unusedVariables false
set_option linter.unusedSimpArgs false
open Go.RowKit Go.Proofs.Ytokcgacehdgkcaa.Plain Go.Proofs.Ytokcgacehdgkcaa.Eng Go.Proofs.Ytokcgacehdgkcaa.Eng.Pk Go.Proofs.Ytokcgacehdgkcaa.Eng.Rd


theorem fzl_of : ∀ {ps : List Pd}, (∀ p ∈ ps, p.Fz) → FzL ps
  | [], _ => trivial
  | p :: ps, h => ⟨h p (by simp), fzl_of fun q hq => h q (by simp [hq])⟩

theorem fz_aggF {k : Kn Int} {l : List Int} (h : k.Fz) : (agg (flat k l)).Fz := fz_agg (fzl_of fun p hp => by
  unfold flat at hp
  rw [List.mem_flatMap] at hp
  obtain ⟨x, _, h2⟩ := hp
  exact h x p h2)
theorem opD_lenT {P : Program} {e : Env} {s : St} {dst : Option Tmp} {ty : TypeId} {pos : String} {after : Array Edge} {guard : Option (Nat × Bool)} {k : Kn (Bool × List Int)} {o : Option Nat} {nl : Option Bool} {v : List (List Int)} {x : Operand} {t te : TypeId} (n0 : Nat) (ht : P.underlying t = some (.slice te)) (hx : e.ev x = sl k o nl (tg n0 v)) :
    OpD P ⟨dst, .call { callee := .builtin .len, args := #[x], argTypes := #[t] }, ty, pos, after, guard⟩ e s (pl (.int .i64 v.length)) s := by
  have := opD_len_sl (P := P) (s := s) (dst := dst) (ty := ty) (pos := pos) (after := after) (guard := guard) ht hx
  rw [tg_len] at this
  exact this
set_option maxRecDepth 100000 in
set_option maxHeartbeats 2000000 in
theorem c_sCleanB {fl : Nat} {p0 : (List (List Int))} {p1 : (List Int)} {p2 : (List Int)} {R : Bool} {n0 : Nat} {w_ : List (List Int)} {xx : Int} (hx0 : p2[0]? = some xx) (hw_ : lp (F_sCleanL_b0 fl p0 p1) fl (([[], []] : (List (List Int))), 0) = some (.inr w_)) (hn0 : nxC xx w_.length = (n0 : Int)) (hn1 : n0 < w_.length) (hn2 : 2 ≤ n0) (hbh : F_bhas p1 (n0 : Int) = some false) (h0 : F_sCleanL fl p0 p1 p2 = some R) : Pure Go.Proofs.Try.prog 3 [sl (kR (kI .u8)) none none p0, agg (flat (kI .u64) p1), agg (flat (kI .u8) p2)] (pl (.bool R)) := by
  intro s
  unfold F_sCleanL at h0
  refine ac_of_aw s.boxes.length s.fr.length Go.Proofs.Try.func3 rfl (by simp [Go.Proofs.Try.ntmps3]) ?_
  refine aw_ext0 ?_
  refine aw_keep [(0, _), (1, _), (2, _)] ⟨lg ez, lg (es ez), lg (es (es ez)), trivial⟩ ?_
  refine aw_seq ?_
  refine aw_region (by decide) ?_
  refine rts _ rfl (boxFN (k := kI .u64) (l := p1) rfl (os rfl oz) rfl (kb_I _) (by first | exact List.length_nil | (simp only [List.length_cons, List.length_nil, Nat.zero_add, Nat.reduceAdd] <;> rfl)) (by simp only [na, nb, nc, nd, nf, ng, nh, ni, nj, nk] <;> rfl)) ?_
  refine rts _ rfl (boxFN (k := kI .u8) (l := p2) rfl (ls rfl (os rfl (os rfl oz))) rfl (kb_I _) (by first | exact List.length_nil | (simp only [List.length_cons, List.length_nil, Nat.zero_add, Nat.reduceAdd] <;> rfl)) (by simp only [na, nb, nc, nd, nf, ng, nh, ni, nj, nk] <;> rfl)) ?_
  refine rts _ rfl (opD_assign (ev_const _ _)) ?_
  refine .nil ?_
  refine aw_keep [(0, _), (4, _), (5, _)] ⟨lg (ls rfl (ls rfl (ls rfl oz))), lg (ls rfl (ls rfl lz)), lg (ls rfl lz), trivial⟩ ?_
  refine aw_seq ?_
  refine aw_flat mixed_UB (by decide +kernel) ?_
  replace h0 := grd_some h0
  obtain ⟨hg_3, h0⟩ := h0
  refine zts _ rfl (opD_indexAddr_arr (i := (0 : Int).toNat) Go.Proofs.Try.underlying25 sz5_UB (os rfl (os rfl oz)) (ev_const _ _) hg_3.eq hg_3.2) ?_
  replace h0 := ixb_some h0
  obtain ⟨x_1, hx_1, hbx_1, h0⟩ := h0
  refine zts _ rfl (opD_load_one ag5_UB lz (loc_getN rfl rfl) (flat_at0 rfl (nat_ix hx_1) rfl)) ?_
  replace h0 := grd_some h0
  obtain ⟨hg_4, h0⟩ := h0
  refine zts _ rfl (opD_indexAddr_arr (i := (1 : Int).toNat) Go.Proofs.Try.underlying25 sz5_UB (ls rfl (ls rfl (os rfl (os rfl oz)))) (ev_const _ _) hg_4.eq hg_4.2) ?_
  replace h0 := ixb_some h0
  obtain ⟨x_2, hx_2, hbx_2, h0⟩ := h0
  refine zts _ rfl (opD_load_one ag5_UB lz (loc_getN rfl rfl) (flat_at0 rfl (nat_ix hx_2) rfl)) ?_
  refine zts _ rfl (opD_assign (ls rfl (ls rfl lz))) ?_
  refine zts _ rfl (opD_assign (ls rfl lz)) ?_
  refine .nil ?_
  refine aw_keep [(0, _), (4, _), (7, _), (8, _)] ⟨lg (ls rfl (ls rfl (ls rfl (ls rfl (ls rfl (ls rfl oz)))))), lg (ls rfl (ls rfl (ls rfl (ls rfl (ls rfl (ls rfl (os rfl oz))))))), lg (ls rfl lz), lg lz, trivial⟩ ?_
  refine aw_seq ?_
  refine aw_region (by decide) ?_
  refine rts _ rfl (opD_buildOwn (k := kR (kI .u8)) ([[], []] : (List (List Int))) Go.Proofs.Try.underlying22 sz26_UB zt26_UB (by decide) rfl (parts_cons (cellsN (k := (kI .u8)) (ev_const _ _)) (parts_cons (cellsN (k := (kI .u8)) (ev_const _ _)) parts_nil)) rfl rfl (by first | exact List.length_nil | (simp only [List.length_cons, List.length_nil, Nat.zero_add, Nat.reduceAdd] <;> rfl)) (by simp only [na, nb, nc, nd, nf, ng, nh, ni, nj, nk] <;> rfl)) ?_
  refine rts _ rfl (opD_assign lz) ?_
  refine .nil ?_
  refine aw_keep [(0, _), (4, _), (7, _), (8, _), (9, _)] ⟨lg (ls rfl (ls rfl oz)), lg (ls rfl (ls rfl (os rfl oz))), lg (ls rfl (ls rfl (os rfl (os rfl oz)))), lg (ls rfl (ls rfl (os rfl (os rfl (os rfl oz))))), lg lz, trivial⟩ ?_
  refine aw_seq ?_
  refine aw_seq ?_
  refine aw_region (by decide) ?_
  refine rts _ rfl (opD_assign (ev_const _ _)) ?_
  refine .nil ?_
  refine aw_keep [(0, _), (4, _), (7, _), (8, _), (9, _), (10, _)] ⟨lg (ls rfl oz), lg (ls rfl (os rfl oz)), lg (ls rfl (os rfl (os rfl oz))), lg (ls rfl (os rfl (os rfl (os rfl oz)))), lg (ls rfl (os rfl (os rfl (os rfl (os rfl oz))))), lg lz, trivial⟩ ?_
  replace h0 := bnd_some h0
  obtain ⟨z_3, hz_3, h0⟩ := h0
  have hx0' : xx = x_1 := Option.some.inj (hx0.symm.trans hx_1)
  subst hx0'
  have hw0' : (.inr w_ : Bool ⊕ List (List Int)) = z_3 := Option.some.inj (hw_.symm.trans hz_3)
  subst hw0'
  refine aw_mid (fun e st => ∃ v : (List (List Int)), Holds e [(4, ptr (s.boxes.length + 0) 0), (7, pl (.int .u8 xx)), (8, pl (.int .u8 x_2)), (9, sl (kHR (s.boxes.length + 2) 2) (some (s.fr.length + 0)) none (tg n0 v))] ∧ st = s.ext [⟨24, (flat (kI .u64) p1)⟩, ⟨25, (flat (kI .u8) p2)⟩, ⟨hot 5 2, flat (kI .u8) (List.replicate 512 (0 : Int))⟩] [⟨26, 1, (tg n0 v).length⟩] ∧ v = w_ ∧ v[n0]? = some (List.replicate 512 (0 : Int))) ?_ ?_
  · skip
    refine aw_wkN rfl 3 1 rfl rfl ?_
    refine aw_block ?_
    refine aw_loop (fun n e st => ∃ v : (List (List Int)) × Int, ((v.1.length : Int) = v.2 + 2 ∧ 0 ≤ v.2) ∧ lp (F_sCleanL_b0 fl p0 p1) n v = some (.inr w_) ∧ ((v.1.length ≤ n0 ∧ Holds e [(0, sl (kR (kI .u8)) none none p0), (4, ptr (s.boxes.length + 0) 0), (7, pl (.int .u8 xx)), (8, pl (.int .u8 x_2)), (9, sl (kR (kI .u8)) (some (s.fr.length + 0)) none v.1), (10, pl (.int .i64 v.2))] ∧ st = s.ext [⟨24, (flat (kI .u64) p1)⟩, ⟨25, (flat (kI .u8) p2)⟩] [⟨26, 1, v.1.length⟩]) ∨ (n0 < v.1.length ∧ v.1[n0]? = some (List.replicate 512 (0 : Int)) ∧ Holds e [(0, sl (kR (kI .u8)) none none p0), (4, ptr (s.boxes.length + 0) 0), (7, pl (.int .u8 xx)), (8, pl (.int .u8 x_2)), (9, sl (kHR (s.boxes.length + 2) 2) (some (s.fr.length + 0)) none (tg n0 v.1)), (10, pl (.int .i64 v.2))] ∧ st = s.ext [⟨24, (flat (kI .u64) p1)⟩, ⟨25, (flat (kI .u8) p2)⟩, ⟨hot 5 2, flat (kI .u8) (List.replicate 512 (0 : Int))⟩] [⟨26, 1, (tg n0 v.1).length⟩]))) fl ⟨(([[], []] : (List (List Int))), 0), ⟨rfl, Int.le_refl _⟩, hz_3, .inl ⟨hn2, ⟨le_of_eq (eg oz), le_of_eq (eg (os rfl oz)), le_of_eq (eg (os rfl (os rfl oz))), le_of_eq (eg (os rfl (os rfl (os rfl oz)))), le_of_eq (eg (os rfl (os rfl (os rfl (os rfl oz))))), le_of_eq (eg (os rfl (os rfl (os rfl (os rfl (os rfl oz)))))), trivial⟩, rfl⟩⟩ ?_
    rintro n e st ⟨t_4, ⟨hq1, hq2⟩, hz_3, hcase⟩
    rcases hcase with ⟨hq3, hH, rfl⟩ | ⟨hq3, hq5, hH, rfl⟩
    · by_cases hq4 : t_4.1.length = n0
      · skip
        replace hz_3 := lp_some hz_3
        obtain ⟨m_z_5, z_5, rfl, hz_5, hz_3⟩ := hz_3
        unfold F_sCleanL_b0 at hz_5
        refine aw_keep _ hH ?_
        refine aw_wkN rfl 3 1 rfl rfl ?_
        refine aw_seq ?_
        refine aw_seq ?_
        refine aw_region (by decide) ?_
        refine rts _ rfl (opD_move (os rfl (os rfl (os rfl (os rfl (os rfl oz)))))) ?_
        refine rts _ rfl (opD_move (ls rfl oz)) ?_
        refine rts _ rfl (opD_len_sl Go.Proofs.Try.underlying22 lz) ?_
        refine rts _ rfl (opD_lss (ls rfl (ls rfl lz)) lz) ?_
        refine rts _ rfl (opD_move lz) ?_
        refine rtg _ rfl lz (fun hg4_5_29 => opD_move (ls rfl (ls rfl (ls rfl (ls rfl (ls rfl (os rfl (os rfl (os rfl (os rfl (os rfl oz))))))))))) ?_
        refine rtg _ rfl (ls rfl lz) (fun hg4_6_30 => opD_lss (lz.trans (pif_pos hg4_6_30)) (ev_const _ _)) ?_
        refine rts _ rfl (opD_and (ls rfl (ls rfl lz)) lz) ?_
        refine .nil ?_
        refine aw_keep [(0, _), (4, _), (7, _), (8, _), (9, _), (10, _), (30, _)] ⟨lg (ls rfl (ls rfl (ls rfl (ls rfl (ls rfl (ls rfl (ls rfl (ls rfl oz)))))))), lg (ls rfl (ls rfl (ls rfl (ls rfl (ls rfl (ls rfl (ls rfl (ls rfl (os rfl oz))))))))), lg (ls rfl (ls rfl (ls rfl (ls rfl (ls rfl (ls rfl (ls rfl (ls rfl (os rfl (os rfl oz)))))))))), lg (ls rfl (ls rfl (ls rfl (ls rfl (ls rfl (ls rfl (ls rfl (ls rfl (os rfl (os rfl (os rfl oz))))))))))), lg (ls rfl (ls rfl (ls rfl (ls rfl (ls rfl (ls rfl (ls rfl (ls rfl (os rfl (os rfl (os rfl (os rfl oz)))))))))))), lg (ls rfl (ls rfl (ls rfl (ls rfl (ls rfl (ls rfl (ls rfl (ls rfl (os rfl (os rfl (os rfl (os rfl (os rfl oz))))))))))))), lg lz, trivial⟩ ?_
        refine aw_cond _ (os rfl (os rfl (os rfl (os rfl (os rfl (os rfl oz)))))) (fun hc => ?_) (fun hc => ?_)
        · skip
          have h40_ : t_4.2 < 40 := of_decide_eq_true (Bool.and_eq_true_iff.1 hc).2
          replace hz_5 := ifb_t hz_5 hc
          clear hc
          refine aw_skip ?_
          refine aw_keep [(0, _), (4, _), (7, _), (8, _), (9, _), (10, _)] ⟨lg oz, lg (os rfl oz), lg (os rfl (os rfl oz)), lg (os rfl (os rfl (os rfl oz))), lg (os rfl (os rfl (os rfl (os rfl oz)))), lg (os rfl (os rfl (os rfl (os rfl (os rfl oz))))), trivial⟩ ?_
          refine aw_seq ?_
          refine aw_block ?_
          refine aw_seq ?_
          refine aw_region (by decide) ?_
          refine rts _ rfl (makeHN (m := 2) rfl (k := kI .u8) (x0 := 0) (n := 512) (z := .int .u8 0) Go.Proofs.Try.underlying26 el5_UB (by kernel_rfl) rfl rfl rfl (ev_const _ _) (ev_const _ _) rfl rfl (by decide) (by decide) rfl (by simp only [na, nb, nc, nd, nf, ng, nh, ni, nj, nk] <;> rfl)) ?_
          refine rts _ rfl (opD_assign lz) ?_
          refine .nil ?_
          refine aw_keep [(0, _), (4, _), (7, _), (8, _), (9, _), (10, _), (11, _)] ⟨lg (ls rfl (ls rfl oz)), lg (ls rfl (ls rfl (os rfl oz))), lg (ls rfl (ls rfl (os rfl (os rfl oz)))), lg (ls rfl (ls rfl (os rfl (os rfl (os rfl oz))))), lg (ls rfl (ls rfl (os rfl (os rfl (os rfl (os rfl oz)))))), lg (ls rfl (ls rfl (os rfl (os rfl (os rfl (os rfl (os rfl oz))))))), lg lz, trivial⟩ ?_
          refine aw_seq ?_
          refine aw_seq ?_
          refine aw_region (by decide) ?_
          replace hz_5 := grd_some hz_5
          obtain ⟨hg_31, hz_5⟩ := hz_5
          refine rts _ rfl (loadFN ag24_UB sz24_UB (os rfl oz) (loc_getN rfl rfl) rfl hg_31) ?_
          refine rts _ rfl (opD_move (ls rfl (os rfl (os rfl (os rfl (os rfl (os rfl oz))))))) ?_
          refine rts _ rfl (opD_add lz (ev_const _ _) rfl) ?_
          replace hz_5 := bnd_some hz_5
          obtain ⟨x_6, hx_6, hz_5⟩ := hz_5
          refine rts _ rfl (opD_pure ht4_UB (c_bhas hx_6) ⟨le_of_eq (ls rfl (ls rfl lz)), le_of_eq lz, trivial⟩) ?_
          refine .nil ?_
          refine aw_keep [(0, _), (4, _), (7, _), (8, _), (9, _), (10, _), (11, _), (37, _)] ⟨lg (ls rfl (ls rfl (ls rfl (ls rfl oz)))), lg (ls rfl (ls rfl (ls rfl (ls rfl (os rfl oz))))), lg (ls rfl (ls rfl (ls rfl (ls rfl (os rfl (os rfl oz)))))), lg (ls rfl (ls rfl (ls rfl (ls rfl (os rfl (os rfl (os rfl oz))))))), lg (ls rfl (ls rfl (ls rfl (ls rfl (os rfl (os rfl (os rfl (os rfl oz)))))))), lg (ls rfl (ls rfl (ls rfl (ls rfl (os rfl (os rfl (os rfl (os rfl (os rfl oz))))))))), lg (ls rfl (ls rfl (ls rfl (ls rfl (os rfl (os rfl (os rfl (os rfl (os rfl (os rfl oz)))))))))), lg lz, trivial⟩ ?_
          replace hz_5 := bnd_some hz_5
          obtain ⟨z_7, hz_7, hz_5⟩ := hz_5
          have h6_ : x_6 = false := by
            rw [show IntKind.i64.wrap (t_4.2 + 2) = (n0 : Int) by rw [wrap_i64 (by omega)]; omega, hbh] at hx_6
            exact (Option.some.inj hx_6).symm
          refine aw_mid (fun e st => ∃ v : (List Int), Holds e [(0, sl (kR (kI .u8)) none none p0), (4, ptr (s.boxes.length + 0) 0), (7, pl (.int .u8 xx)), (8, pl (.int .u8 x_2)), (9, sl (kHR (s.boxes.length + 2) 2) (some (s.fr.length + 0)) none (tg n0 t_4.1)), (10, pl (.int .i64 t_4.2)), (11, hsl (s.boxes.length + 2) 2 0 (List.replicate 512 (0 : Int)).length (kI .u8).sz)] ∧ st = s.ext [⟨24, (flat (kI .u64) p1)⟩, ⟨25, (flat (kI .u8) p2)⟩, ⟨hot 5 2, flat (kI .u8) (List.replicate 512 (0 : Int))⟩] [⟨26, 1, (tg n0 t_4.1).length⟩] ∧ (.inr v) = z_7 ∧ v = (List.replicate 512 (0 : Int))) ?_ ?_
          · skip
            refine aw_wkN rfl 3 1 rfl rfl ?_
            refine aw_cond _ (os rfl (os rfl (os rfl (os rfl (os rfl (os rfl (os rfl oz))))))) (fun hc => ?_) (fun hc => ?_)
            · exfalso
              rw [h6_] at hc
              cases hc
            · skip
              replace hz_7 := ifb_f hz_7 hc
              clear hc
              refine aw_skip ?_
              refine wk_yesN rfl (l := [(0, sl (kR (kI .u8)) none none p0), (4, ptr (s.boxes.length + 0) 0), (7, pl (.int .u8 xx)), (8, pl (.int .u8 x_2)), (9, sl (kHR (s.boxes.length + 2) 2) (some (s.fr.length + 0)) none (tg n0 t_4.1)), (10, pl (.int .i64 t_4.2)), (11, hsl (s.boxes.length + 2) 2 0 (List.replicate 512 (0 : Int)).length (kI .u8).sz)]) (bs' := [⟨24, (flat (kI .u64) p1)⟩, ⟨25, (flat (kI .u8) p2)⟩, ⟨hot 5 2, flat (kI .u8) (List.replicate 512 (0 : Int))⟩]) ⟨le_of_eq (eg oz), le_of_eq (eg (os rfl oz)), le_of_eq (eg (os rfl (os rfl oz))), le_of_eq (eg (os rfl (os rfl (os rfl oz)))), (le_of_eq (eg (os rfl (os rfl (os rfl (os rfl oz)))))).trans (tg_le hq3), le_of_eq (eg (os rfl (os rfl (os rfl (os rfl (os rfl oz)))))), le_of_eq (eg (os rfl (os rfl (os rfl (os rfl (os rfl (os rfl oz))))))), trivial⟩ (bnd_cons (sl_b (kb_R (kb_I _))) (bnd_cons (ptr_bnd _ (by first | omega | (simp only [List.length_append, List.length_cons, List.length_nil]; omega))) (bnd_cons (pl_bnd _ _ _) (bnd_cons (pl_bnd _ _ _) (bnd_cons (tg_bnd (by first | omega | (simp only [List.length_append, List.length_cons, List.length_nil]; omega)) (by first | omega | (simp only [List.length_append, List.length_cons, List.length_nil, ext_fr_length, upd_fr_length]; omega))) (bnd_cons (pl_bnd _ _ _) (bnd_cons (hsl_bnd _ (by first | omega | (simp only [List.length_append, List.length_cons, List.length_nil]; omega))) bnd_nil))))))) (Nat.le_of_ble_eq_true rfl) (by simp only [na, nb, nc, nd, nf, ng, nh, ni, nj, nk] <;> rfl) (bxle_same (bxle_same (bxle_same bxle_nil))) rfl (by simp only [na, nb, nc, nd, nf, ng, nh, ni, nj, nk] <;> rfl) (bl_cons (flatKB (kb_I _)) (bl_cons (flatKB (kb_I _)) (bl_cons (flatKB (kb_I _)) bl_nil))) ?_
              exact ⟨(List.replicate 512 (0 : Int)), ⟨le_of_eq (eg oz), le_of_eq (eg (os rfl oz)), le_of_eq (eg (os rfl (os rfl oz))), le_of_eq (eg (os rfl (os rfl (os rfl oz)))), le_of_eq (eg (os rfl (os rfl (os rfl (os rfl oz))))), le_of_eq (eg (os rfl (os rfl (os rfl (os rfl (os rfl oz)))))), le_of_eq (eg (os rfl (os rfl (os rfl (os rfl (os rfl (os rfl oz))))))), trivial⟩, by rw [tg_len], some_of hz_7, rfl⟩
          · rintro e st ⟨vz_7, hH, rfl, rfl, hvz⟩
            subst hvz
            have e_ : tg n0 t_4.1 ++ [(true, (List.replicate 512 (0 : Int)))] = tg n0 (t_4.1 ++ ([(List.replicate 512 (0 : Int))] : (List (List Int)))) := by rw [tg_snoc, decide_eq_true hq4]
            refine aw_keep _ hH ?_
            replace hz_5 := ocs_r hz_5
            refine aw_keep [(0, _), (4, _), (7, _), (8, _), (9, _), (10, _), (11, _)] ⟨lg oz, lg (os rfl oz), lg (os rfl (os rfl oz)), lg (os rfl (os rfl (os rfl oz))), lg (os rfl (os rfl (os rfl (os rfl oz)))), lg (os rfl (os rfl (os rfl (os rfl (os rfl oz))))), lg (os rfl (os rfl (os rfl (os rfl (os rfl (os rfl oz)))))), trivial⟩ ?_
            refine aw_region (by decide) ?_
            refine rts _ rfl (opD_move (os rfl (os rfl (os rfl (os rfl oz))))) ?_
            refine rts _ rfl (opD_move (ls rfl (os rfl (os rfl (os rfl (os rfl (os rfl (os rfl oz)))))))) ?_
            refine rts _ rfl (opD_buildOwn (k := (kHR (s.boxes.length + 2) 2)) ([(true, (List.replicate 512 (0 : Int)))] : (List (Bool × List Int))) Go.Proofs.Try.underlying22 sz26_UB zt26_UB (show 1 * 1 ≤ 16777216 by decide) rfl (parts_cons (cells1 lz (one_hsl _ _ _ _ _)) parts_nil) rfl rfl (by first | exact List.length_nil | (simp only [List.length_cons, List.length_nil, Nat.zero_add, Nat.reduceAdd] <;> rfl)) (by simp only [na, nb, nc, nd, nf, ng, nh, ni, nj, nk] <;> rfl)) ?_
            replace hz_5 := grd_some hz_5
            obtain ⟨hg_36, hz_5⟩ := hz_5
            refine rts _ rfl (opD_appendX Go.Proofs.Try.underlying22 el26_UB (ls rfl (ls rfl lz)) lz rfl (by rw [tg_len]; exact hg_36.1) (by rw [tg_len]; exact hg_36.2) e_ (by simp only [na, nb, nc, nd, nf, ng, nh, ni, nj, nk] <;> rfl)) ?_
            refine rts _ rfl (opD_assign lz) ?_
            refine .nil ?_
            refine aw_keep [(0, _), (4, _), (7, _), (8, _), (9, _), (10, _)] ⟨lg (ls rfl (ls rfl (ls rfl (ls rfl (ls rfl oz))))), lg (ls rfl (ls rfl (ls rfl (ls rfl (ls rfl (os rfl oz)))))), lg (ls rfl (ls rfl (ls rfl (ls rfl (ls rfl (os rfl (os rfl oz))))))), lg (ls rfl (ls rfl (ls rfl (ls rfl (ls rfl (os rfl (os rfl (os rfl oz)))))))), lg lz, lg (ls rfl (ls rfl (ls rfl (ls rfl (ls rfl (os rfl (os rfl (os rfl (os rfl (os rfl oz)))))))))), trivial⟩ ?_
            refine aw_region (by decide) ?_
            refine rts _ rfl (opD_move (os rfl (os rfl (os rfl (os rfl (os rfl oz)))))) ?_
            refine rts _ rfl (opD_add lz (ev_const _ _) rfl) ?_
            refine rts _ rfl (opD_assign lz) ?_
            refine .nil ?_
            obtain rfl := some_of hz_5
            replace hz_3 := ocs_l hz_3
            refine wk_yesN rfl (l := [(0, sl (kR (kI .u8)) none none p0), (4, ptr (s.boxes.length + 0) 0), (7, pl (.int .u8 xx)), (8, pl (.int .u8 x_2)), (9, sl (kHR (s.boxes.length + 2) 2) (some (s.fr.length + 0)) none (tg n0 (t_4.1 ++ ([(List.replicate 512 (0 : Int))] : (List (List Int)))))), (10, pl (.int .i64 (IntKind.i64.wrap (t_4.2 + 1))))]) (bs' := [⟨24, (flat (kI .u64) p1)⟩, ⟨25, (flat (kI .u8) p2)⟩, ⟨hot 5 2, flat (kI .u8) (List.replicate 512 (0 : Int))⟩]) ⟨le_of_eq (eg (ls rfl (ls rfl (ls rfl oz)))), le_of_eq (eg (ls rfl (ls rfl (ls rfl (os rfl oz))))), le_of_eq (eg (ls rfl (ls rfl (ls rfl (os rfl (os rfl oz)))))), le_of_eq (eg (ls rfl (ls rfl (ls rfl (os rfl (os rfl (os rfl oz))))))), le_of_eq (eg (ls rfl (ls rfl (ls rfl (os rfl (os rfl (os rfl (os rfl oz)))))))), le_of_eq (eg lz), trivial⟩ (bnd_cons (sl_b (kb_R (kb_I _))) (bnd_cons (ptr_bnd _ (by first | omega | (simp only [List.length_append, List.length_cons, List.length_nil]; omega))) (bnd_cons (pl_bnd _ _ _) (bnd_cons (pl_bnd _ _ _) (bnd_cons (tg_bnd (by first | omega | (simp only [List.length_append, List.length_cons, List.length_nil]; omega)) (by first | omega | (simp only [List.length_append, List.length_cons, List.length_nil, ext_fr_length, upd_fr_length]; omega))) (bnd_cons (pl_bnd _ _ _) bnd_nil)))))) (Nat.le_of_ble_eq_true rfl) (by simp only [na, nb, nc, nd, nf, ng, nh, ni, nj, nk] <;> rfl) (bxle_same (bxle_same (bxle_same bxle_nil))) rfl (by simp only [na, nb, nc, nd, nf, ng, nh, ni, nj, nk] <;> rfl) (bl_cons (flatKB (kb_I _)) (bl_cons (flatKB (kb_I _)) (bl_cons (flatKB (kb_I _)) bl_nil))) ?_
            have hwr_ : IntKind.i64.wrap (t_4.2 + 1) = t_4.2 + 1 := wrap_i64 (by omega)
            exact ⟨m_z_5, Nat.lt_succ_self _, ((t_4.1 ++ ([(List.replicate 512 (0 : Int))] : (List (List Int)))), IntKind.i64.wrap (t_4.2 + 1)), ⟨by rw [hwr_, List.length_append]; show ((t_4.1.length + 1 : Nat) : Int) = _; omega, by rw [hwr_]; omega⟩, hz_3, .inr ⟨by rw [List.length_append]; show n0 < t_4.1.length + 1; omega, by rw [List.getElem?_append_right (by omega), show n0 - t_4.1.length = 0 by omega]; rfl, ⟨le_of_eq (eg oz), le_of_eq (eg (os rfl oz)), le_of_eq (eg (os rfl (os rfl oz))), le_of_eq (eg (os rfl (os rfl (os rfl oz)))), le_of_eq (eg (os rfl (os rfl (os rfl (os rfl oz))))), le_of_eq (eg (os rfl (os rfl (os rfl (os rfl (os rfl oz)))))), trivial⟩, rfl⟩⟩
        · exfalso
          replace hz_5 := ifb_f hz_5 hc
          obtain rfl := some_of hz_5
          have hz_9 := some_of (ocs_r hz_3)
          have hz_8 : t_4.1 = w_ := by injection hz_9
          rw [← hz_8] at hn1
          omega
      · skip
        replace hz_3 := lp_some hz_3
        obtain ⟨m_z_5, z_5, rfl, hz_5, hz_3⟩ := hz_3
        unfold F_sCleanL_b0 at hz_5
        refine aw_keep _ hH ?_
        refine aw_wkN rfl 2 1 rfl rfl ?_
        refine aw_seq ?_
        refine aw_seq ?_
        refine aw_region (by decide) ?_
        refine rts _ rfl (opD_move (os rfl (os rfl (os rfl (os rfl (os rfl oz)))))) ?_
        refine rts _ rfl (opD_move (ls rfl oz)) ?_
        refine rts _ rfl (opD_len_sl Go.Proofs.Try.underlying22 lz) ?_
        refine rts _ rfl (opD_lss (ls rfl (ls rfl lz)) lz) ?_
        refine rts _ rfl (opD_move lz) ?_
        refine rtg _ rfl lz (fun hg4_5_29 => opD_move (ls rfl (ls rfl (ls rfl (ls rfl (ls rfl (os rfl (os rfl (os rfl (os rfl (os rfl oz))))))))))) ?_
        refine rtg _ rfl (ls rfl lz) (fun hg4_6_30 => opD_lss (lz.trans (pif_pos hg4_6_30)) (ev_const _ _)) ?_
        refine rts _ rfl (opD_and (ls rfl (ls rfl lz)) lz) ?_
        refine .nil ?_
        refine aw_keep [(0, _), (4, _), (7, _), (8, _), (9, _), (10, _), (30, _)] ⟨lg (ls rfl (ls rfl (ls rfl (ls rfl (ls rfl (ls rfl (ls rfl (ls rfl oz)))))))), lg (ls rfl (ls rfl (ls rfl (ls rfl (ls rfl (ls rfl (ls rfl (ls rfl (os rfl oz))))))))), lg (ls rfl (ls rfl (ls rfl (ls rfl (ls rfl (ls rfl (ls rfl (ls rfl (os rfl (os rfl oz)))))))))), lg (ls rfl (ls rfl (ls rfl (ls rfl (ls rfl (ls rfl (ls rfl (ls rfl (os rfl (os rfl (os rfl oz))))))))))), lg (ls rfl (ls rfl (ls rfl (ls rfl (ls rfl (ls rfl (ls rfl (ls rfl (os rfl (os rfl (os rfl (os rfl oz)))))))))))), lg (ls rfl (ls rfl (ls rfl (ls rfl (ls rfl (ls rfl (ls rfl (ls rfl (os rfl (os rfl (os rfl (os rfl (os rfl oz))))))))))))), lg lz, trivial⟩ ?_
        refine aw_cond _ (os rfl (os rfl (os rfl (os rfl (os rfl (os rfl oz)))))) (fun hc => ?_) (fun hc => ?_)
        · skip
          have h40_ : t_4.2 < 40 := of_decide_eq_true (Bool.and_eq_true_iff.1 hc).2
          replace hz_5 := ifb_t hz_5 hc
          clear hc
          refine aw_skip ?_
          refine aw_keep [(0, _), (4, _), (7, _), (8, _), (9, _), (10, _)] ⟨lg oz, lg (os rfl oz), lg (os rfl (os rfl oz)), lg (os rfl (os rfl (os rfl oz))), lg (os rfl (os rfl (os rfl (os rfl oz)))), lg (os rfl (os rfl (os rfl (os rfl (os rfl oz))))), trivial⟩ ?_
          refine aw_seq ?_
          refine aw_block ?_
          refine aw_seq ?_
          refine aw_region (by decide) ?_
          refine rts _ rfl (opD_makeS (k := kI .u8) (x0 := 0) (n := 512) (z := .int .u8 0) Go.Proofs.Try.underlying26 el5_UB (by kernel_rfl) rfl rfl (ev_const _ _) (ev_const _ _) rfl rfl (by decide) (by decide)) ?_
          refine rts _ rfl (opD_assign lz) ?_
          refine .nil ?_
          refine aw_keep [(0, _), (4, _), (7, _), (8, _), (9, _), (10, _), (11, _)] ⟨lg (ls rfl (ls rfl oz)), lg (ls rfl (ls rfl (os rfl oz))), lg (ls rfl (ls rfl (os rfl (os rfl oz)))), lg (ls rfl (ls rfl (os rfl (os rfl (os rfl oz))))), lg (ls rfl (ls rfl (os rfl (os rfl (os rfl (os rfl oz)))))), lg (ls rfl (ls rfl (os rfl (os rfl (os rfl (os rfl (os rfl oz))))))), lg lz, trivial⟩ ?_
          refine aw_seq ?_
          refine aw_seq ?_
          refine aw_region (by decide) ?_
          replace hz_5 := grd_some hz_5
          obtain ⟨hg_31, hz_5⟩ := hz_5
          refine rts _ rfl (loadFN ag24_UB sz24_UB (os rfl oz) (loc_getN rfl rfl) rfl hg_31) ?_
          refine rts _ rfl (opD_move (ls rfl (os rfl (os rfl (os rfl (os rfl (os rfl oz))))))) ?_
          refine rts _ rfl (opD_add lz (ev_const _ _) rfl) ?_
          replace hz_5 := bnd_some hz_5
          obtain ⟨x_6, hx_6, hz_5⟩ := hz_5
          refine rts _ rfl (opD_pure ht4_UB (c_bhas hx_6) ⟨le_of_eq (ls rfl (ls rfl lz)), le_of_eq lz, trivial⟩) ?_
          refine .nil ?_
          refine aw_keep [(0, _), (4, _), (7, _), (8, _), (9, _), (10, _), (11, _), (37, _)] ⟨lg (ls rfl (ls rfl (ls rfl (ls rfl oz)))), lg (ls rfl (ls rfl (ls rfl (ls rfl (os rfl oz))))), lg (ls rfl (ls rfl (ls rfl (ls rfl (os rfl (os rfl oz)))))), lg (ls rfl (ls rfl (ls rfl (ls rfl (os rfl (os rfl (os rfl oz))))))), lg (ls rfl (ls rfl (ls rfl (ls rfl (os rfl (os rfl (os rfl (os rfl oz)))))))), lg (ls rfl (ls rfl (ls rfl (ls rfl (os rfl (os rfl (os rfl (os rfl (os rfl oz))))))))), lg (ls rfl (ls rfl (ls rfl (ls rfl (os rfl (os rfl (os rfl (os rfl (os rfl (os rfl oz)))))))))), lg lz, trivial⟩ ?_
          replace hz_5 := bnd_some hz_5
          obtain ⟨z_7, hz_7, hz_5⟩ := hz_5
          refine aw_mid (fun e st => ∃ v : (List Int), Holds e [(0, sl (kR (kI .u8)) none none p0), (4, ptr (s.boxes.length + 0) 0), (7, pl (.int .u8 xx)), (8, pl (.int .u8 x_2)), (9, sl (kR (kI .u8)) (some (s.fr.length + 0)) none t_4.1), (10, pl (.int .i64 t_4.2)), (11, sl (kI .u8) none none v)] ∧ st = s.ext [⟨24, (flat (kI .u64) p1)⟩, ⟨25, (flat (kI .u8) p2)⟩] [⟨26, 1, t_4.1.length⟩] ∧ (.inr v) = z_7) ?_ ?_
          · skip
            refine aw_wkN rfl 2 1 rfl rfl ?_
            refine aw_cond _ (os rfl (os rfl (os rfl (os rfl (os rfl (os rfl (os rfl oz))))))) (fun hc => ?_) (fun hc => ?_)
            · skip
              replace hz_7 := ifb_t hz_7 hc
              clear hc
              refine aw_seq ?_
              refine aw_flat mixed_UB (by decide +kernel) ?_
              refine zts _ rfl (opD_move oz) ?_
              refine zts _ rfl (opD_move (ls rfl (os rfl (os rfl (os rfl (os rfl (os rfl oz))))))) ?_
              replace hz_7 := ixb_some hz_7
              obtain ⟨x_8, hx_8, hbx_8, hz_7⟩ := hz_7
              refine zts _ rfl (opD_indexAddr_sl (i := t_4.2.toNat) Go.Proofs.Try.underlying22 sz26_UB (ls rfl lz) lz hbx_8.2.2 hbx_8.2.1) ?_
              refine zts _ rfl (opD_load_el_one ag26_UB lz hx_8 rfl) ?_
              refine zts _ rfl (opD_move (ls rfl (ls rfl (ls rfl (ls rfl oz))))) ?_
              refine zts _ rfl (opD_move (ls rfl (ls rfl (ls rfl (ls rfl (ls rfl (os rfl (os rfl (os rfl (os rfl (os rfl oz))))))))))) ?_
              replace hz_7 := ixb_some hz_7
              obtain ⟨x_9, hx_9, hbx_9, hz_7⟩ := hz_7
              refine zts _ rfl (opD_indexAddr_sl (i := t_4.2.toNat) Go.Proofs.Try.underlying22 sz26_UB (ls rfl lz) lz hbx_9.2.2 hbx_9.2.1) ?_
              refine zts _ rfl (opD_load_el_one ag26_UB lz hx_9 rfl) ?_
              refine zts _ rfl (opD_len_sl Go.Proofs.Try.underlying26 lz) ?_
              refine zts _ rfl (opD_min lz (ev_const _ _) rfl) ?_
              replace hz_7 := grd_some hz_7
              obtain ⟨hg_35, hz_7⟩ := hz_7
              refine zts _ rfl (opD_slice_to ((if 504 < (x_9.length : Int) then 504 else (x_9.length : Int)).toNat) Go.Proofs.Try.underlying26 sz5_UB (ls rfl (ls rfl (ls rfl (ls rfl (ls rfl (ls rfl lz)))))) lz hg_35.eq hg_35.2) ?_
              replace hz_7 := bnd_some hz_7
              obtain ⟨x_10, hx_10, hz_7⟩ := hz_7
              refine zts _ rfl (opD_pure ht5_UB (c_rseal hx_10) ⟨le_of_eq (ev_const _ _), le_of_eq lz, trivial⟩) ?_
              refine zts _ rfl (opD_move lz) ?_
              refine zts _ rfl (opD_extract lz rfl) ?_
              refine zts _ rfl (opD_extract (ls rfl lz) rfl) ?_
              refine zts _ rfl (opD_assign (ls rfl lz)) ?_
              refine zts _ rfl (opD_assign (ls rfl lz)) ?_
              refine .nil ?_
              refine aw_keep [(0, _), (4, _), (7, _), (8, _), (9, _), (10, _), (12, _), (13, _)] ⟨lg (ls rfl (ls rfl (ls rfl (ls rfl (ls rfl (ls rfl (ls rfl (ls rfl (ls rfl (ls rfl (ls rfl (ls rfl (ls rfl (ls rfl (ls rfl (ls rfl (ls rfl oz))))))))))))))))), lg (ls rfl (ls rfl (ls rfl (ls rfl (ls rfl (ls rfl (ls rfl (ls rfl (ls rfl (ls rfl (ls rfl (ls rfl (ls rfl (ls rfl (ls rfl (ls rfl (ls rfl (os rfl oz)))))))))))))))))), lg (ls rfl (ls rfl (ls rfl (ls rfl (ls rfl (ls rfl (ls rfl (ls rfl (ls rfl (ls rfl (ls rfl (ls rfl (ls rfl (ls rfl (ls rfl (ls rfl (ls rfl (os rfl (os rfl oz))))))))))))))))))), lg (ls rfl (ls rfl (ls rfl (ls rfl (ls rfl (ls rfl (ls rfl (ls rfl (ls rfl (ls rfl (ls rfl (ls rfl (ls rfl (ls rfl (ls rfl (ls rfl (ls rfl (os rfl (os rfl (os rfl oz)))))))))))))))))))), lg (ls rfl (ls rfl (ls rfl (ls rfl (ls rfl (ls rfl (ls rfl (ls rfl (ls rfl (ls rfl (ls rfl (ls rfl (ls rfl (ls rfl (ls rfl (ls rfl (ls rfl (os rfl (os rfl (os rfl (os rfl oz))))))))))))))))))))), lg (ls rfl (ls rfl (ls rfl (ls rfl (ls rfl (ls rfl (ls rfl (ls rfl (ls rfl (ls rfl (ls rfl (ls rfl (ls rfl (ls rfl (ls rfl (ls rfl (ls rfl (os rfl (os rfl (os rfl (os rfl (os rfl oz)))))))))))))))))))))), lg (ls rfl lz), lg lz, trivial⟩ ?_
              refine aw_seq ?_
              refine aw_seq ?_
              refine aw_region (by decide) ?_
              refine rts _ rfl (opD_move (os rfl (os rfl (os rfl (os rfl (os rfl (os rfl (os rfl oz)))))))) ?_
              refine rts _ rfl (opD_neq lz (ev_const _ _)) ?_
              refine .nil ?_
              refine aw_keep [(0, _), (4, _), (7, _), (8, _), (9, _), (10, _), (12, _), (54, _)] ⟨lg (ls rfl (ls rfl oz)), lg (ls rfl (ls rfl (os rfl oz))), lg (ls rfl (ls rfl (os rfl (os rfl oz)))), lg (ls rfl (ls rfl (os rfl (os rfl (os rfl oz))))), lg (ls rfl (ls rfl (os rfl (os rfl (os rfl (os rfl oz)))))), lg (ls rfl (ls rfl (os rfl (os rfl (os rfl (os rfl (os rfl oz))))))), lg (ls rfl (ls rfl (os rfl (os rfl (os rfl (os rfl (os rfl (os rfl oz)))))))), lg lz, trivial⟩ ?_
              refine aw_cond _ (os rfl (os rfl (os rfl (os rfl (os rfl (os rfl (os rfl oz))))))) (fun hc => ?_) (fun hc => ?_)
              · skip
                replace hz_7 := ifb_t hz_7 hc
                clear hc
                refine aw_seq ?_
                refine aw_region (by decide) ?_
                refine rts _ rfl (opD_assign (ev_const _ _)) ?_
                refine .nil ?_
                refine aw_keep [(6, _)] ⟨lg lz, trivial⟩ ?_
                refine aw_ret ?_
                obtain rfl := some_of hz_7
                replace hz_5 := ocs_l hz_5
                obtain rfl := some_of hz_5
                have hz_9 := some_of (ocs_r hz_3)
                cases hz_9
              · skip
                replace hz_7 := ifb_f hz_7 hc
                clear hc
                refine aw_skip ?_
                refine aw_keep [(0, _), (4, _), (7, _), (8, _), (9, _), (10, _), (12, _)] ⟨lg oz, lg (os rfl oz), lg (os rfl (os rfl oz)), lg (os rfl (os rfl (os rfl oz))), lg (os rfl (os rfl (os rfl (os rfl oz)))), lg (os rfl (os rfl (os rfl (os rfl (os rfl oz))))), lg (os rfl (os rfl (os rfl (os rfl (os rfl (os rfl oz)))))), trivial⟩ ?_
                refine aw_region (by decide) ?_
                refine rts _ rfl (opD_move (os rfl (os rfl (os rfl (os rfl (os rfl (os rfl oz))))))) ?_
                refine rts _ rfl (opD_assign lz) ?_
                refine .nil ?_
                refine wk_yesN rfl (l := [(0, sl (kR (kI .u8)) none none p0), (4, ptr (s.boxes.length + 0) 0), (7, pl (.int .u8 xx)), (8, pl (.int .u8 x_2)), (9, sl (kR (kI .u8)) (some (s.fr.length + 0)) none t_4.1), (10, pl (.int .i64 t_4.2)), (11, sl (kI .u8) none none x_10.1)]) (bs' := [⟨24, (flat (kI .u64) p1)⟩, ⟨25, (flat (kI .u8) p2)⟩]) ⟨le_of_eq (eg (ls rfl (ls rfl oz))), le_of_eq (eg (ls rfl (ls rfl (os rfl oz)))), le_of_eq (eg (ls rfl (ls rfl (os rfl (os rfl oz))))), le_of_eq (eg (ls rfl (ls rfl (os rfl (os rfl (os rfl oz)))))), le_of_eq (eg (ls rfl (ls rfl (os rfl (os rfl (os rfl (os rfl oz))))))), le_of_eq (eg (ls rfl (ls rfl (os rfl (os rfl (os rfl (os rfl (os rfl oz)))))))), le_of_eq (eg lz), trivial⟩ (bnd_cons (sl_b (kb_R (kb_I _))) (bnd_cons (ptr_bnd _ (by first | omega | (simp only [List.length_append, List.length_cons, List.length_nil]; omega))) (bnd_cons (pl_bnd _ _ _) (bnd_cons (pl_bnd _ _ _) (bnd_cons (sl_ob (kb_R (kb_I _)) (by first | omega | (simp only [List.length_append, List.length_cons, List.length_nil, ext_fr_length, upd_fr_length]; omega))) (bnd_cons (pl_bnd _ _ _) (bnd_cons (sl_b (kb_I _)) bnd_nil))))))) (Nat.le_of_ble_eq_true rfl) (by simp only [na, nb, nc, nd, nf, ng, nh, ni, nj, nk] <;> rfl) (bxle_same (bxle_same bxle_nil)) rfl (by simp only [na, nb, nc, nd, nf, ng, nh, ni, nj, nk] <;> rfl) (bl_cons (flatKB (kb_I _)) (bl_cons (flatKB (kb_I _)) bl_nil)) ?_
                exact ⟨x_10.1, ⟨le_of_eq (eg oz), le_of_eq (eg (os rfl oz)), le_of_eq (eg (os rfl (os rfl oz))), le_of_eq (eg (os rfl (os rfl (os rfl oz)))), le_of_eq (eg (os rfl (os rfl (os rfl (os rfl oz))))), le_of_eq (eg (os rfl (os rfl (os rfl (os rfl (os rfl oz)))))), le_of_eq (eg (os rfl (os rfl (os rfl (os rfl (os rfl (os rfl oz))))))), trivial⟩, rfl, some_of hz_7⟩
            · skip
              replace hz_7 := ifb_f hz_7 hc
              clear hc
              refine aw_skip ?_
              refine wk_yesN rfl (l := [(0, sl (kR (kI .u8)) none none p0), (4, ptr (s.boxes.length + 0) 0), (7, pl (.int .u8 xx)), (8, pl (.int .u8 x_2)), (9, sl (kR (kI .u8)) (some (s.fr.length + 0)) none t_4.1), (10, pl (.int .i64 t_4.2)), (11, sl (kI .u8) none none (List.replicate 512 (0 : Int)))]) (bs' := [⟨24, (flat (kI .u64) p1)⟩, ⟨25, (flat (kI .u8) p2)⟩]) ⟨le_of_eq (eg oz), le_of_eq (eg (os rfl oz)), le_of_eq (eg (os rfl (os rfl oz))), le_of_eq (eg (os rfl (os rfl (os rfl oz)))), le_of_eq (eg (os rfl (os rfl (os rfl (os rfl oz))))), le_of_eq (eg (os rfl (os rfl (os rfl (os rfl (os rfl oz)))))), (le_of_eq (eg (os rfl (os rfl (os rfl (os rfl (os rfl (os rfl oz)))))))).trans (sl_nl _ none (some false) _), trivial⟩ (bnd_cons (sl_b (kb_R (kb_I _))) (bnd_cons (ptr_bnd _ (by first | omega | (simp only [List.length_append, List.length_cons, List.length_nil]; omega))) (bnd_cons (pl_bnd _ _ _) (bnd_cons (pl_bnd _ _ _) (bnd_cons (sl_ob (kb_R (kb_I _)) (by first | omega | (simp only [List.length_append, List.length_cons, List.length_nil, ext_fr_length, upd_fr_length]; omega))) (bnd_cons (pl_bnd _ _ _) (bnd_cons (sl_b (kb_I _)) bnd_nil))))))) (Nat.le_of_ble_eq_true rfl) (by simp only [na, nb, nc, nd, nf, ng, nh, ni, nj, nk] <;> rfl) (bxle_same (bxle_same bxle_nil)) rfl (by simp only [na, nb, nc, nd, nf, ng, nh, ni, nj, nk] <;> rfl) (bl_cons (flatKB (kb_I _)) (bl_cons (flatKB (kb_I _)) bl_nil)) ?_
              exact ⟨(List.replicate 512 (0 : Int)), ⟨le_of_eq (eg oz), le_of_eq (eg (os rfl oz)), le_of_eq (eg (os rfl (os rfl oz))), le_of_eq (eg (os rfl (os rfl (os rfl oz)))), le_of_eq (eg (os rfl (os rfl (os rfl (os rfl oz))))), le_of_eq (eg (os rfl (os rfl (os rfl (os rfl (os rfl oz)))))), le_of_eq (eg (os rfl (os rfl (os rfl (os rfl (os rfl (os rfl oz))))))), trivial⟩, rfl, some_of hz_7⟩
          · rintro e st ⟨vz_7, hH, rfl, rfl⟩
            refine aw_keep _ hH ?_
            replace hz_5 := ocs_r hz_5
            refine aw_keep [(0, _), (4, _), (7, _), (8, _), (9, _), (10, _), (11, _)] ⟨lg oz, lg (os rfl oz), lg (os rfl (os rfl oz)), lg (os rfl (os rfl (os rfl oz))), lg (os rfl (os rfl (os rfl (os rfl oz)))), lg (os rfl (os rfl (os rfl (os rfl (os rfl oz))))), lg (os rfl (os rfl (os rfl (os rfl (os rfl (os rfl oz)))))), trivial⟩ ?_
            refine aw_region (by decide) ?_
            refine rts _ rfl (opD_move (os rfl (os rfl (os rfl (os rfl oz))))) ?_
            refine rts _ rfl (opD_move (ls rfl (os rfl (os rfl (os rfl (os rfl (os rfl (os rfl oz)))))))) ?_
            refine rts _ rfl (opD_buildOwn (k := kR (kI .u8)) ([vz_7] : (List (List Int))) Go.Proofs.Try.underlying22 sz26_UB zt26_UB (by decide) rfl (parts_cons (cellsS lz) parts_nil) rfl rfl (by first | exact List.length_nil | (simp only [List.length_cons, List.length_nil, Nat.zero_add, Nat.reduceAdd] <;> rfl)) (by simp only [na, nb, nc, nd, nf, ng, nh, ni, nj, nk] <;> rfl)) ?_
            replace hz_5 := grd_some hz_5
            obtain ⟨hg_36, hz_5⟩ := hz_5
            refine rts _ rfl (opD_appendX Go.Proofs.Try.underlying22 el26_UB (ls rfl (ls rfl lz)) lz rfl hg_36.1 hg_36.2 rfl (by simp only [na, nb, nc, nd, nf, ng, nh, ni, nj, nk] <;> rfl)) ?_
            refine rts _ rfl (opD_assign lz) ?_
            refine .nil ?_
            refine aw_keep [(0, _), (4, _), (7, _), (8, _), (9, _), (10, _)] ⟨lg (ls rfl (ls rfl (ls rfl (ls rfl (ls rfl oz))))), lg (ls rfl (ls rfl (ls rfl (ls rfl (ls rfl (os rfl oz)))))), lg (ls rfl (ls rfl (ls rfl (ls rfl (ls rfl (os rfl (os rfl oz))))))), lg (ls rfl (ls rfl (ls rfl (ls rfl (ls rfl (os rfl (os rfl (os rfl oz)))))))), lg lz, lg (ls rfl (ls rfl (ls rfl (ls rfl (ls rfl (os rfl (os rfl (os rfl (os rfl (os rfl oz)))))))))), trivial⟩ ?_
            refine aw_region (by decide) ?_
            refine rts _ rfl (opD_move (os rfl (os rfl (os rfl (os rfl (os rfl oz)))))) ?_
            refine rts _ rfl (opD_add lz (ev_const _ _) rfl) ?_
            refine rts _ rfl (opD_assign lz) ?_
            refine .nil ?_
            obtain rfl := some_of hz_5
            replace hz_3 := ocs_l hz_3
            refine wk_yesN rfl (l := [(0, sl (kR (kI .u8)) none none p0), (4, ptr (s.boxes.length + 0) 0), (7, pl (.int .u8 xx)), (8, pl (.int .u8 x_2)), (9, sl (kR (kI .u8)) (some (s.fr.length + 0)) none (t_4.1 ++ ([vz_7] : (List (List Int))))), (10, pl (.int .i64 (IntKind.i64.wrap (t_4.2 + 1))))]) (bs' := [⟨24, (flat (kI .u64) p1)⟩, ⟨25, (flat (kI .u8) p2)⟩]) ⟨le_of_eq (eg (ls rfl (ls rfl (ls rfl oz)))), le_of_eq (eg (ls rfl (ls rfl (ls rfl (os rfl oz))))), le_of_eq (eg (ls rfl (ls rfl (ls rfl (os rfl (os rfl oz)))))), le_of_eq (eg (ls rfl (ls rfl (ls rfl (os rfl (os rfl (os rfl oz))))))), le_of_eq (eg (ls rfl (ls rfl (ls rfl (os rfl (os rfl (os rfl (os rfl oz)))))))), le_of_eq (eg lz), trivial⟩ (bnd_cons (sl_b (kb_R (kb_I _))) (bnd_cons (ptr_bnd _ (by first | omega | (simp only [List.length_append, List.length_cons, List.length_nil]; omega))) (bnd_cons (pl_bnd _ _ _) (bnd_cons (pl_bnd _ _ _) (bnd_cons (sl_ob (kb_R (kb_I _)) (by first | omega | (simp only [List.length_append, List.length_cons, List.length_nil, ext_fr_length, upd_fr_length]; omega))) (bnd_cons (pl_bnd _ _ _) bnd_nil)))))) (Nat.le_of_ble_eq_true rfl) (by simp only [na, nb, nc, nd, nf, ng, nh, ni, nj, nk] <;> rfl) (bxle_same (bxle_same bxle_nil)) rfl (by simp only [na, nb, nc, nd, nf, ng, nh, ni, nj, nk] <;> rfl) (bl_cons (flatKB (kb_I _)) (bl_cons (flatKB (kb_I _)) bl_nil)) ?_
            have hwr_ : IntKind.i64.wrap (t_4.2 + 1) = t_4.2 + 1 := wrap_i64 (by omega)
            exact ⟨m_z_5, Nat.lt_succ_self _, ((t_4.1 ++ ([vz_7] : (List (List Int)))), IntKind.i64.wrap (t_4.2 + 1)), ⟨by rw [hwr_, List.length_append]; show ((t_4.1.length + 1 : Nat) : Int) = _; omega, by rw [hwr_]; omega⟩, hz_3, .inl ⟨by rw [List.length_append]; show t_4.1.length + 1 ≤ n0; omega, ⟨le_of_eq (eg oz), le_of_eq (eg (os rfl oz)), le_of_eq (eg (os rfl (os rfl oz))), le_of_eq (eg (os rfl (os rfl (os rfl oz)))), le_of_eq (eg (os rfl (os rfl (os rfl (os rfl oz))))), le_of_eq (eg (os rfl (os rfl (os rfl (os rfl (os rfl oz)))))), trivial⟩, rfl⟩⟩
        · exfalso
          replace hz_5 := ifb_f hz_5 hc
          obtain rfl := some_of hz_5
          have hz_9 := some_of (ocs_r hz_3)
          have hz_8 : t_4.1 = w_ := by injection hz_9
          rw [← hz_8] at hn1
          omega
    · skip
      replace hz_3 := lp_some hz_3
      obtain ⟨m_z_5, z_5, rfl, hz_5, hz_3⟩ := hz_3
      unfold F_sCleanL_b0 at hz_5
      refine aw_keep _ hH ?_
      refine aw_wkN rfl 3 1 rfl rfl ?_
      refine aw_seq ?_
      refine aw_seq ?_
      refine aw_region (by decide) ?_
      refine rts _ rfl (opD_move (os rfl (os rfl (os rfl (os rfl (os rfl oz)))))) ?_
      refine rts _ rfl (opD_move (ls rfl oz)) ?_
      refine rts _ rfl (opD_len_sl Go.Proofs.Try.underlying22 lz) ?_
      refine rts _ rfl (opD_lss (ls rfl (ls rfl lz)) lz) ?_
      refine rts _ rfl (opD_move lz) ?_
      refine rtg _ rfl lz (fun hg4_5_29 => opD_move (ls rfl (ls rfl (ls rfl (ls rfl (ls rfl (os rfl (os rfl (os rfl (os rfl (os rfl oz))))))))))) ?_
      refine rtg _ rfl (ls rfl lz) (fun hg4_6_30 => opD_lss (lz.trans (pif_pos hg4_6_30)) (ev_const _ _)) ?_
      refine rts _ rfl (opD_and (ls rfl (ls rfl lz)) lz) ?_
      refine .nil ?_
      refine aw_keep [(0, _), (4, _), (7, _), (8, _), (9, _), (10, _), (30, _)] ⟨lg (ls rfl (ls rfl (ls rfl (ls rfl (ls rfl (ls rfl (ls rfl (ls rfl oz)))))))), lg (ls rfl (ls rfl (ls rfl (ls rfl (ls rfl (ls rfl (ls rfl (ls rfl (os rfl oz))))))))), lg (ls rfl (ls rfl (ls rfl (ls rfl (ls rfl (ls rfl (ls rfl (ls rfl (os rfl (os rfl oz)))))))))), lg (ls rfl (ls rfl (ls rfl (ls rfl (ls rfl (ls rfl (ls rfl (ls rfl (os rfl (os rfl (os rfl oz))))))))))), lg (ls rfl (ls rfl (ls rfl (ls rfl (ls rfl (ls rfl (ls rfl (ls rfl (os rfl (os rfl (os rfl (os rfl oz)))))))))))), lg (ls rfl (ls rfl (ls rfl (ls rfl (ls rfl (ls rfl (ls rfl (ls rfl (os rfl (os rfl (os rfl (os rfl (os rfl oz))))))))))))), lg lz, trivial⟩ ?_
      refine aw_cond _ (os rfl (os rfl (os rfl (os rfl (os rfl (os rfl oz)))))) (fun hc => ?_) (fun hc => ?_)
      · skip
        have h40_ : t_4.2 < 40 := of_decide_eq_true (Bool.and_eq_true_iff.1 hc).2
        replace hz_5 := ifb_t hz_5 hc
        clear hc
        refine aw_skip ?_
        refine aw_keep [(0, _), (4, _), (7, _), (8, _), (9, _), (10, _)] ⟨lg oz, lg (os rfl oz), lg (os rfl (os rfl oz)), lg (os rfl (os rfl (os rfl oz))), lg (os rfl (os rfl (os rfl (os rfl oz)))), lg (os rfl (os rfl (os rfl (os rfl (os rfl oz))))), trivial⟩ ?_
        refine aw_seq ?_
        refine aw_block ?_
        refine aw_seq ?_
        refine aw_region (by decide) ?_
        refine rts _ rfl (opD_makeS (k := kI .u8) (x0 := 0) (n := 512) (z := .int .u8 0) Go.Proofs.Try.underlying26 el5_UB (by kernel_rfl) rfl rfl (ev_const _ _) (ev_const _ _) rfl rfl (by decide) (by decide)) ?_
        refine rts _ rfl (opD_assign lz) ?_
        refine .nil ?_
        refine aw_keep [(0, _), (4, _), (7, _), (8, _), (9, _), (10, _), (11, _)] ⟨lg (ls rfl (ls rfl oz)), lg (ls rfl (ls rfl (os rfl oz))), lg (ls rfl (ls rfl (os rfl (os rfl oz)))), lg (ls rfl (ls rfl (os rfl (os rfl (os rfl oz))))), lg (ls rfl (ls rfl (os rfl (os rfl (os rfl (os rfl oz)))))), lg (ls rfl (ls rfl (os rfl (os rfl (os rfl (os rfl (os rfl oz))))))), lg lz, trivial⟩ ?_
        refine aw_seq ?_
        refine aw_seq ?_
        refine aw_region (by decide) ?_
        replace hz_5 := grd_some hz_5
        obtain ⟨hg_31, hz_5⟩ := hz_5
        refine rts _ rfl (loadFN ag24_UB sz24_UB (os rfl oz) (loc_getN rfl rfl) rfl hg_31) ?_
        refine rts _ rfl (opD_move (ls rfl (os rfl (os rfl (os rfl (os rfl (os rfl oz))))))) ?_
        refine rts _ rfl (opD_add lz (ev_const _ _) rfl) ?_
        replace hz_5 := bnd_some hz_5
        obtain ⟨x_6, hx_6, hz_5⟩ := hz_5
        refine rts _ rfl (opD_pure ht4_UB (c_bhas hx_6) ⟨le_of_eq (ls rfl (ls rfl lz)), le_of_eq lz, trivial⟩) ?_
        refine .nil ?_
        refine aw_keep [(0, _), (4, _), (7, _), (8, _), (9, _), (10, _), (11, _), (37, _)] ⟨lg (ls rfl (ls rfl (ls rfl (ls rfl oz)))), lg (ls rfl (ls rfl (ls rfl (ls rfl (os rfl oz))))), lg (ls rfl (ls rfl (ls rfl (ls rfl (os rfl (os rfl oz)))))), lg (ls rfl (ls rfl (ls rfl (ls rfl (os rfl (os rfl (os rfl oz))))))), lg (ls rfl (ls rfl (ls rfl (ls rfl (os rfl (os rfl (os rfl (os rfl oz)))))))), lg (ls rfl (ls rfl (ls rfl (ls rfl (os rfl (os rfl (os rfl (os rfl (os rfl oz))))))))), lg (ls rfl (ls rfl (ls rfl (ls rfl (os rfl (os rfl (os rfl (os rfl (os rfl (os rfl oz)))))))))), lg lz, trivial⟩ ?_
        replace hz_5 := bnd_some hz_5
        obtain ⟨z_7, hz_7, hz_5⟩ := hz_5
        refine aw_mid (fun e st => ∃ v : (List Int), Holds e [(0, sl (kR (kI .u8)) none none p0), (4, ptr (s.boxes.length + 0) 0), (7, pl (.int .u8 xx)), (8, pl (.int .u8 x_2)), (9, sl (kHR (s.boxes.length + 2) 2) (some (s.fr.length + 0)) none (tg n0 t_4.1)), (10, pl (.int .i64 t_4.2)), (11, sl (kI .u8) none none v)] ∧ st = s.ext [⟨24, (flat (kI .u64) p1)⟩, ⟨25, (flat (kI .u8) p2)⟩, ⟨hot 5 2, flat (kI .u8) (List.replicate 512 (0 : Int))⟩] [⟨26, 1, (tg n0 t_4.1).length⟩] ∧ (.inr v) = z_7) ?_ ?_
        · skip
          refine aw_wkN rfl 3 1 rfl rfl ?_
          refine aw_cond _ (os rfl (os rfl (os rfl (os rfl (os rfl (os rfl (os rfl oz))))))) (fun hc => ?_) (fun hc => ?_)
          · skip
            replace hz_7 := ifb_t hz_7 hc
            clear hc
            refine aw_seq ?_
            refine aw_flat mixed_UB (by decide +kernel) ?_
            refine zts _ rfl (opD_move oz) ?_
            refine zts _ rfl (opD_move (ls rfl (os rfl (os rfl (os rfl (os rfl (os rfl oz))))))) ?_
            replace hz_7 := ixb_some hz_7
            obtain ⟨x_8, hx_8, hbx_8, hz_7⟩ := hz_7
            refine zts _ rfl (opD_indexAddr_sl (i := t_4.2.toNat) Go.Proofs.Try.underlying22 sz26_UB (ls rfl lz) lz hbx_8.2.2 hbx_8.2.1) ?_
            refine zts _ rfl (opD_load_el_one ag26_UB lz hx_8 rfl) ?_
            refine zts _ rfl (opD_move (ls rfl (ls rfl (ls rfl (ls rfl oz))))) ?_
            refine zts _ rfl (opD_move (ls rfl (ls rfl (ls rfl (ls rfl (ls rfl (os rfl (os rfl (os rfl (os rfl (os rfl oz))))))))))) ?_
            replace hz_7 := ixb_some hz_7
            obtain ⟨x_9, hx_9, hbx_9, hz_7⟩ := hz_7
            refine zts _ rfl (opD_indexAddr_sl (i := t_4.2.toNat) Go.Proofs.Try.underlying22 sz26_UB (ls rfl lz) lz hbx_9.2.2 hbx_9.2.1) ?_
            refine zts _ rfl (opD_load_el_one ag26_UB lz hx_9 rfl) ?_
            refine zts _ rfl (opD_len_sl Go.Proofs.Try.underlying26 lz) ?_
            refine zts _ rfl (opD_min lz (ev_const _ _) rfl) ?_
            replace hz_7 := grd_some hz_7
            obtain ⟨hg_35, hz_7⟩ := hz_7
            refine zts _ rfl (opD_slice_to ((if 504 < (x_9.length : Int) then 504 else (x_9.length : Int)).toNat) Go.Proofs.Try.underlying26 sz5_UB (ls rfl (ls rfl (ls rfl (ls rfl (ls rfl (ls rfl lz)))))) lz hg_35.eq hg_35.2) ?_
            replace hz_7 := bnd_some hz_7
            obtain ⟨x_10, hx_10, hz_7⟩ := hz_7
            refine zts _ rfl (opD_pure ht5_UB (c_rseal hx_10) ⟨le_of_eq (ev_const _ _), le_of_eq lz, trivial⟩) ?_
            refine zts _ rfl (opD_move lz) ?_
            refine zts _ rfl (opD_extract lz rfl) ?_
            refine zts _ rfl (opD_extract (ls rfl lz) rfl) ?_
            refine zts _ rfl (opD_assign (ls rfl lz)) ?_
            refine zts _ rfl (opD_assign (ls rfl lz)) ?_
            refine .nil ?_
            refine aw_keep [(0, _), (4, _), (7, _), (8, _), (9, _), (10, _), (12, _), (13, _)] ⟨lg (ls rfl (ls rfl (ls rfl (ls rfl (ls rfl (ls rfl (ls rfl (ls rfl (ls rfl (ls rfl (ls rfl (ls rfl (ls rfl (ls rfl (ls rfl (ls rfl (ls rfl oz))))))))))))))))), lg (ls rfl (ls rfl (ls rfl (ls rfl (ls rfl (ls rfl (ls rfl (ls rfl (ls rfl (ls rfl (ls rfl (ls rfl (ls rfl (ls rfl (ls rfl (ls rfl (ls rfl (os rfl oz)))))))))))))))))), lg (ls rfl (ls rfl (ls rfl (ls rfl (ls rfl (ls rfl (ls rfl (ls rfl (ls rfl (ls rfl (ls rfl (ls rfl (ls rfl (ls rfl (ls rfl (ls rfl (ls rfl (os rfl (os rfl oz))))))))))))))))))), lg (ls rfl (ls rfl (ls rfl (ls rfl (ls rfl (ls rfl (ls rfl (ls rfl (ls rfl (ls rfl (ls rfl (ls rfl (ls rfl (ls rfl (ls rfl (ls rfl (ls rfl (os rfl (os rfl (os rfl oz)))))))))))))))))))), lg (ls rfl (ls rfl (ls rfl (ls rfl (ls rfl (ls rfl (ls rfl (ls rfl (ls rfl (ls rfl (ls rfl (ls rfl (ls rfl (ls rfl (ls rfl (ls rfl (ls rfl (os rfl (os rfl (os rfl (os rfl oz))))))))))))))))))))), lg (ls rfl (ls rfl (ls rfl (ls rfl (ls rfl (ls rfl (ls rfl (ls rfl (ls rfl (ls rfl (ls rfl (ls rfl (ls rfl (ls rfl (ls rfl (ls rfl (ls rfl (os rfl (os rfl (os rfl (os rfl (os rfl oz)))))))))))))))))))))), lg (ls rfl lz), lg lz, trivial⟩ ?_
            refine aw_seq ?_
            refine aw_seq ?_
            refine aw_region (by decide) ?_
            refine rts _ rfl (opD_move (os rfl (os rfl (os rfl (os rfl (os rfl (os rfl (os rfl oz)))))))) ?_
            refine rts _ rfl (opD_neq lz (ev_const _ _)) ?_
            refine .nil ?_
            refine aw_keep [(0, _), (4, _), (7, _), (8, _), (9, _), (10, _), (12, _), (54, _)] ⟨lg (ls rfl (ls rfl oz)), lg (ls rfl (ls rfl (os rfl oz))), lg (ls rfl (ls rfl (os rfl (os rfl oz)))), lg (ls rfl (ls rfl (os rfl (os rfl (os rfl oz))))), lg (ls rfl (ls rfl (os rfl (os rfl (os rfl (os rfl oz)))))), lg (ls rfl (ls rfl (os rfl (os rfl (os rfl (os rfl (os rfl oz))))))), lg (ls rfl (ls rfl (os rfl (os rfl (os rfl (os rfl (os rfl (os rfl oz)))))))), lg lz, trivial⟩ ?_
            refine aw_cond _ (os rfl (os rfl (os rfl (os rfl (os rfl (os rfl (os rfl oz))))))) (fun hc => ?_) (fun hc => ?_)
            · skip
              replace hz_7 := ifb_t hz_7 hc
              clear hc
              refine aw_seq ?_
              refine aw_region (by decide) ?_
              refine rts _ rfl (opD_assign (ev_const _ _)) ?_
              refine .nil ?_
              refine aw_keep [(6, _)] ⟨lg lz, trivial⟩ ?_
              refine aw_ret ?_
              obtain rfl := some_of hz_7
              replace hz_5 := ocs_l hz_5
              obtain rfl := some_of hz_5
              have hz_9 := some_of (ocs_r hz_3)
              cases hz_9
            · skip
              replace hz_7 := ifb_f hz_7 hc
              clear hc
              refine aw_skip ?_
              refine aw_keep [(0, _), (4, _), (7, _), (8, _), (9, _), (10, _), (12, _)] ⟨lg oz, lg (os rfl oz), lg (os rfl (os rfl oz)), lg (os rfl (os rfl (os rfl oz))), lg (os rfl (os rfl (os rfl (os rfl oz)))), lg (os rfl (os rfl (os rfl (os rfl (os rfl oz))))), lg (os rfl (os rfl (os rfl (os rfl (os rfl (os rfl oz)))))), trivial⟩ ?_
              refine aw_region (by decide) ?_
              refine rts _ rfl (opD_move (os rfl (os rfl (os rfl (os rfl (os rfl (os rfl oz))))))) ?_
              refine rts _ rfl (opD_assign lz) ?_
              refine .nil ?_
              refine wk_yesN rfl (l := [(0, sl (kR (kI .u8)) none none p0), (4, ptr (s.boxes.length + 0) 0), (7, pl (.int .u8 xx)), (8, pl (.int .u8 x_2)), (9, sl (kHR (s.boxes.length + 2) 2) (some (s.fr.length + 0)) none (tg n0 t_4.1)), (10, pl (.int .i64 t_4.2)), (11, sl (kI .u8) none none x_10.1)]) (bs' := [⟨24, (flat (kI .u64) p1)⟩, ⟨25, (flat (kI .u8) p2)⟩, ⟨hot 5 2, flat (kI .u8) (List.replicate 512 (0 : Int))⟩]) ⟨le_of_eq (eg (ls rfl (ls rfl oz))), le_of_eq (eg (ls rfl (ls rfl (os rfl oz)))), le_of_eq (eg (ls rfl (ls rfl (os rfl (os rfl oz))))), le_of_eq (eg (ls rfl (ls rfl (os rfl (os rfl (os rfl oz)))))), le_of_eq (eg (ls rfl (ls rfl (os rfl (os rfl (os rfl (os rfl oz))))))), le_of_eq (eg (ls rfl (ls rfl (os rfl (os rfl (os rfl (os rfl (os rfl oz)))))))), le_of_eq (eg lz), trivial⟩ (bnd_cons (sl_b (kb_R (kb_I _))) (bnd_cons (ptr_bnd _ (by first | omega | (simp only [List.length_append, List.length_cons, List.length_nil]; omega))) (bnd_cons (pl_bnd _ _ _) (bnd_cons (pl_bnd _ _ _) (bnd_cons (tg_bnd (by first | omega | (simp only [List.length_append, List.length_cons, List.length_nil]; omega)) (by first | omega | (simp only [List.length_append, List.length_cons, List.length_nil, ext_fr_length, upd_fr_length]; omega))) (bnd_cons (pl_bnd _ _ _) (bnd_cons (sl_b (kb_I _)) bnd_nil))))))) (Nat.le_of_ble_eq_true rfl) (by simp only [na, nb, nc, nd, nf, ng, nh, ni, nj, nk] <;> rfl) (bxle_same (bxle_same (bxle_same bxle_nil))) rfl (by simp only [na, nb, nc, nd, nf, ng, nh, ni, nj, nk] <;> rfl) (bl_cons (flatKB (kb_I _)) (bl_cons (flatKB (kb_I _)) (bl_cons (flatKB (kb_I _)) bl_nil))) ?_
              exact ⟨x_10.1, ⟨le_of_eq (eg oz), le_of_eq (eg (os rfl oz)), le_of_eq (eg (os rfl (os rfl oz))), le_of_eq (eg (os rfl (os rfl (os rfl oz)))), le_of_eq (eg (os rfl (os rfl (os rfl (os rfl oz))))), le_of_eq (eg (os rfl (os rfl (os rfl (os rfl (os rfl oz)))))), le_of_eq (eg (os rfl (os rfl (os rfl (os rfl (os rfl (os rfl oz))))))), trivial⟩, rfl, some_of hz_7⟩
          · skip
            replace hz_7 := ifb_f hz_7 hc
            clear hc
            refine aw_skip ?_
            refine wk_yesN rfl (l := [(0, sl (kR (kI .u8)) none none p0), (4, ptr (s.boxes.length + 0) 0), (7, pl (.int .u8 xx)), (8, pl (.int .u8 x_2)), (9, sl (kHR (s.boxes.length + 2) 2) (some (s.fr.length + 0)) none (tg n0 t_4.1)), (10, pl (.int .i64 t_4.2)), (11, sl (kI .u8) none none (List.replicate 512 (0 : Int)))]) (bs' := [⟨24, (flat (kI .u64) p1)⟩, ⟨25, (flat (kI .u8) p2)⟩, ⟨hot 5 2, flat (kI .u8) (List.replicate 512 (0 : Int))⟩]) ⟨le_of_eq (eg oz), le_of_eq (eg (os rfl oz)), le_of_eq (eg (os rfl (os rfl oz))), le_of_eq (eg (os rfl (os rfl (os rfl oz)))), le_of_eq (eg (os rfl (os rfl (os rfl (os rfl oz))))), le_of_eq (eg (os rfl (os rfl (os rfl (os rfl (os rfl oz)))))), (le_of_eq (eg (os rfl (os rfl (os rfl (os rfl (os rfl (os rfl oz)))))))).trans (sl_nl _ none (some false) _), trivial⟩ (bnd_cons (sl_b (kb_R (kb_I _))) (bnd_cons (ptr_bnd _ (by first | omega | (simp only [List.length_append, List.length_cons, List.length_nil]; omega))) (bnd_cons (pl_bnd _ _ _) (bnd_cons (pl_bnd _ _ _) (bnd_cons (tg_bnd (by first | omega | (simp only [List.length_append, List.length_cons, List.length_nil]; omega)) (by first | omega | (simp only [List.length_append, List.length_cons, List.length_nil, ext_fr_length, upd_fr_length]; omega))) (bnd_cons (pl_bnd _ _ _) (bnd_cons (sl_b (kb_I _)) bnd_nil))))))) (Nat.le_of_ble_eq_true rfl) (by simp only [na, nb, nc, nd, nf, ng, nh, ni, nj, nk] <;> rfl) (bxle_same (bxle_same (bxle_same bxle_nil))) rfl (by simp only [na, nb, nc, nd, nf, ng, nh, ni, nj, nk] <;> rfl) (bl_cons (flatKB (kb_I _)) (bl_cons (flatKB (kb_I _)) (bl_cons (flatKB (kb_I _)) bl_nil))) ?_
            exact ⟨(List.replicate 512 (0 : Int)), ⟨le_of_eq (eg oz), le_of_eq (eg (os rfl oz)), le_of_eq (eg (os rfl (os rfl oz))), le_of_eq (eg (os rfl (os rfl (os rfl oz)))), le_of_eq (eg (os rfl (os rfl (os rfl (os rfl oz))))), le_of_eq (eg (os rfl (os rfl (os rfl (os rfl (os rfl oz)))))), le_of_eq (eg (os rfl (os rfl (os rfl (os rfl (os rfl (os rfl oz))))))), trivial⟩, rfl, some_of hz_7⟩
        · rintro e st ⟨vz_7, hH, rfl, rfl⟩
          have e_ : tg n0 t_4.1 ++ [(false, vz_7)] = tg n0 (t_4.1 ++ ([vz_7] : (List (List Int)))) := by rw [tg_snoc, decide_eq_false (by omega)]
          refine aw_keep _ hH ?_
          replace hz_5 := ocs_r hz_5
          refine aw_keep [(0, _), (4, _), (7, _), (8, _), (9, _), (10, _), (11, _)] ⟨lg oz, lg (os rfl oz), lg (os rfl (os rfl oz)), lg (os rfl (os rfl (os rfl oz))), lg (os rfl (os rfl (os rfl (os rfl oz)))), lg (os rfl (os rfl (os rfl (os rfl (os rfl oz))))), lg (os rfl (os rfl (os rfl (os rfl (os rfl (os rfl oz)))))), trivial⟩ ?_
          refine aw_region (by decide) ?_
          refine rts _ rfl (opD_move (os rfl (os rfl (os rfl (os rfl oz))))) ?_
          refine rts _ rfl (opD_move (ls rfl (os rfl (os rfl (os rfl (os rfl (os rfl (os rfl oz)))))))) ?_
          refine rts _ rfl (opD_buildOwn (k := (kHR (s.boxes.length + 2) 2)) ([(false, vz_7)] : (List (Bool × List Int))) Go.Proofs.Try.underlying22 sz26_UB zt26_UB (show 1 * 1 ≤ 16777216 by decide) rfl (parts_cons (cellsS lz) parts_nil) rfl rfl (by first | exact List.length_nil | (simp only [List.length_cons, List.length_nil, Nat.zero_add, Nat.reduceAdd] <;> rfl)) (by simp only [na, nb, nc, nd, nf, ng, nh, ni, nj, nk] <;> rfl)) ?_
          replace hz_5 := grd_some hz_5
          obtain ⟨hg_36, hz_5⟩ := hz_5
          refine rts _ rfl (opD_appendX Go.Proofs.Try.underlying22 el26_UB (ls rfl (ls rfl lz)) lz rfl (by rw [tg_len]; exact hg_36.1) (by rw [tg_len]; exact hg_36.2) e_ (by simp only [na, nb, nc, nd, nf, ng, nh, ni, nj, nk] <;> rfl)) ?_
          refine rts _ rfl (opD_assign lz) ?_
          refine .nil ?_
          refine aw_keep [(0, _), (4, _), (7, _), (8, _), (9, _), (10, _)] ⟨lg (ls rfl (ls rfl (ls rfl (ls rfl (ls rfl oz))))), lg (ls rfl (ls rfl (ls rfl (ls rfl (ls rfl (os rfl oz)))))), lg (ls rfl (ls rfl (ls rfl (ls rfl (ls rfl (os rfl (os rfl oz))))))), lg (ls rfl (ls rfl (ls rfl (ls rfl (ls rfl (os rfl (os rfl (os rfl oz)))))))), lg lz, lg (ls rfl (ls rfl (ls rfl (ls rfl (ls rfl (os rfl (os rfl (os rfl (os rfl (os rfl oz)))))))))), trivial⟩ ?_
          refine aw_region (by decide) ?_
          refine rts _ rfl (opD_move (os rfl (os rfl (os rfl (os rfl (os rfl oz)))))) ?_
          refine rts _ rfl (opD_add lz (ev_const _ _) rfl) ?_
          refine rts _ rfl (opD_assign lz) ?_
          refine .nil ?_
          obtain rfl := some_of hz_5
          replace hz_3 := ocs_l hz_3
          refine wk_yesN rfl (l := [(0, sl (kR (kI .u8)) none none p0), (4, ptr (s.boxes.length + 0) 0), (7, pl (.int .u8 xx)), (8, pl (.int .u8 x_2)), (9, sl (kHR (s.boxes.length + 2) 2) (some (s.fr.length + 0)) none (tg n0 (t_4.1 ++ ([vz_7] : (List (List Int)))))), (10, pl (.int .i64 (IntKind.i64.wrap (t_4.2 + 1))))]) (bs' := [⟨24, (flat (kI .u64) p1)⟩, ⟨25, (flat (kI .u8) p2)⟩, ⟨hot 5 2, flat (kI .u8) (List.replicate 512 (0 : Int))⟩]) ⟨le_of_eq (eg (ls rfl (ls rfl (ls rfl oz)))), le_of_eq (eg (ls rfl (ls rfl (ls rfl (os rfl oz))))), le_of_eq (eg (ls rfl (ls rfl (ls rfl (os rfl (os rfl oz)))))), le_of_eq (eg (ls rfl (ls rfl (ls rfl (os rfl (os rfl (os rfl oz))))))), le_of_eq (eg (ls rfl (ls rfl (ls rfl (os rfl (os rfl (os rfl (os rfl oz)))))))), le_of_eq (eg lz), trivial⟩ (bnd_cons (sl_b (kb_R (kb_I _))) (bnd_cons (ptr_bnd _ (by first | omega | (simp only [List.length_append, List.length_cons, List.length_nil]; omega))) (bnd_cons (pl_bnd _ _ _) (bnd_cons (pl_bnd _ _ _) (bnd_cons (tg_bnd (by first | omega | (simp only [List.length_append, List.length_cons, List.length_nil]; omega)) (by first | omega | (simp only [List.length_append, List.length_cons, List.length_nil, ext_fr_length, upd_fr_length]; omega))) (bnd_cons (pl_bnd _ _ _) bnd_nil)))))) (Nat.le_of_ble_eq_true rfl) (by simp only [na, nb, nc, nd, nf, ng, nh, ni, nj, nk] <;> rfl) (bxle_same (bxle_same (bxle_same bxle_nil))) rfl (by simp only [na, nb, nc, nd, nf, ng, nh, ni, nj, nk] <;> rfl) (bl_cons (flatKB (kb_I _)) (bl_cons (flatKB (kb_I _)) (bl_cons (flatKB (kb_I _)) bl_nil))) ?_
          have hwr_ : IntKind.i64.wrap (t_4.2 + 1) = t_4.2 + 1 := wrap_i64 (by omega)
          exact ⟨m_z_5, Nat.lt_succ_self _, ((t_4.1 ++ ([vz_7] : (List (List Int)))), IntKind.i64.wrap (t_4.2 + 1)), ⟨by rw [hwr_, List.length_append]; show ((t_4.1.length + 1 : Nat) : Int) = _; omega, by rw [hwr_]; omega⟩, hz_3, .inr ⟨by rw [List.length_append]; show n0 < t_4.1.length + 1; omega, by rw [List.getElem?_append_left hq3]; exact hq5, ⟨le_of_eq (eg oz), le_of_eq (eg (os rfl oz)), le_of_eq (eg (os rfl (os rfl oz))), le_of_eq (eg (os rfl (os rfl (os rfl oz)))), le_of_eq (eg (os rfl (os rfl (os rfl (os rfl oz))))), le_of_eq (eg (os rfl (os rfl (os rfl (os rfl (os rfl oz)))))), trivial⟩, rfl⟩⟩
      · skip
        replace hz_5 := ifb_f hz_5 hc
        clear hc
        refine aw_exit ?_
        obtain rfl := some_of hz_5
        replace hz_3 := ocs_r hz_3
        refine wk_no ?_
        refine wk_yesN rfl (l := [(4, ptr (s.boxes.length + 0) 0), (7, pl (.int .u8 xx)), (8, pl (.int .u8 x_2)), (9, sl (kHR (s.boxes.length + 2) 2) (some (s.fr.length + 0)) none (tg n0 t_4.1))]) (bs' := [⟨24, (flat (kI .u64) p1)⟩, ⟨25, (flat (kI .u8) p2)⟩, ⟨hot 5 2, flat (kI .u8) (List.replicate 512 (0 : Int))⟩]) ⟨le_of_eq (eg (os rfl oz)), le_of_eq (eg (os rfl (os rfl oz))), le_of_eq (eg (os rfl (os rfl (os rfl oz)))), le_of_eq (eg (os rfl (os rfl (os rfl (os rfl oz))))), trivial⟩ (bnd_cons (ptr_bnd _ (by first | omega | (simp only [List.length_append, List.length_cons, List.length_nil]; omega))) (bnd_cons (pl_bnd _ _ _) (bnd_cons (pl_bnd _ _ _) (bnd_cons (tg_bnd (by first | omega | (simp only [List.length_append, List.length_cons, List.length_nil]; omega)) (by first | omega | (simp only [List.length_append, List.length_cons, List.length_nil, ext_fr_length, upd_fr_length]; omega))) bnd_nil)))) (Nat.le_of_ble_eq_true rfl) (by simp only [na, nb, nc, nd, nf, ng, nh, ni, nj, nk] <;> rfl) (bxle_same (bxle_same (bxle_same bxle_nil))) rfl (by simp only [na, nb, nc, nd, nf, ng, nh, ni, nj, nk] <;> rfl) (bl_cons (flatKB (kb_I _)) (bl_cons (flatKB (kb_I _)) (bl_cons (flatKB (kb_I _)) bl_nil))) ?_
        exact ⟨t_4.1, ⟨le_of_eq (eg oz), le_of_eq (eg (os rfl oz)), le_of_eq (eg (os rfl (os rfl oz))), le_of_eq (eg (os rfl (os rfl (os rfl oz)))), trivial⟩, rfl, (by have hz_9 := some_of hz_3; injection hz_9), hq5⟩
  · rintro e st ⟨vz_3, hH, rfl, hvw, hvn⟩
    subst hvw
    refine aw_keep _ hH ?_
    replace h0 := ocs_r h0
    refine aw_keep [(4, _), (7, _), (8, _), (9, _)] ⟨lg oz, lg (os rfl oz), lg (os rfl (os rfl oz)), lg (os rfl (os rfl (os rfl oz))), trivial⟩ ?_
    refine aw_seq ?_
    refine aw_region (by decide) ?_
    refine rts _ rfl (opD_move (os rfl (os rfl (os rfl oz)))) ?_
    replace h0 := grd_some h0
    obtain ⟨hg_37, h0⟩ := h0
    refine rts _ rfl (loadFN ag24_UB sz24_UB (ls rfl oz) (loc_getN rfl rfl) rfl hg_37) ?_
    replace h0 := bnd_some h0
    obtain ⟨x_11, hx_11, h0⟩ := h0
    refine rts _ rfl (opD_lend (ps := [sl (kHR (s.boxes.length + 2) 2) (some (s.fr.length + 0)) none (tg n0 vz_3), agg (flat (kI .u64) p1)]) ht6_UB (c_sslack hx_11 SF) (pn_tup ⟨pn_pl _, pn_pl _, trivial⟩) ⟨lent_HR rfl (Nat.le_refl 2) (loc_getN rfl rfl) rfl (fun _ _ => rfl) (fun x_ h_ => Option.some.inj (h_.symm.trans hvn)) (fun x_ h_ => by rw [Option.some.inj (h_.symm.trans hvn)]), lent_fz (fz_aggF (fz_I _)), trivial⟩ ⟨le_of_eq (ls rfl lz), le_of_eq lz, trivial⟩) ?_
    refine rts _ rfl (opD_move lz) ?_
    refine rts _ rfl (opD_extract lz rfl) ?_
    refine rts _ rfl (opD_extract (ls rfl lz) rfl) ?_
    refine rts _ rfl (opD_assign (ls rfl lz)) ?_
    refine rts _ rfl (opD_assign (ls rfl lz)) ?_
    refine .nil ?_
    refine aw_keep [(4, _), (7, _), (8, _), (9, _), (15, _)] ⟨lg (ls rfl (ls rfl (ls rfl (ls rfl (ls rfl (ls rfl (ls rfl (ls rfl oz)))))))), lg (ls rfl (ls rfl (ls rfl (ls rfl (ls rfl (ls rfl (ls rfl (ls rfl (os rfl oz))))))))), lg (ls rfl (ls rfl (ls rfl (ls rfl (ls rfl (ls rfl (ls rfl (ls rfl (os rfl (os rfl oz)))))))))), lg (ls rfl (ls rfl (ls rfl (ls rfl (ls rfl (ls rfl (ls rfl (ls rfl (os rfl (os rfl (os rfl oz))))))))))), lg lz, trivial⟩ ?_
    refine aw_seq ?_
    refine aw_seq ?_
    refine aw_region (by decide) ?_
    refine rts _ rfl (opD_move (os rfl (os rfl (os rfl oz)))) ?_
    replace h0 := grd_some h0
    obtain ⟨hg_38, h0⟩ := h0
    refine rts _ rfl (loadFN ag24_UB sz24_UB (ls rfl oz) (loc_getN rfl rfl) rfl hg_38) ?_
    replace h0 := bnd_some h0
    obtain ⟨x_12, hx_12, h0⟩ := h0
    refine rts _ rfl (opD_lend (ps := [sl (kHR (s.boxes.length + 2) 2) (some (s.fr.length + 0)) none (tg n0 vz_3), agg (flat (kI .u64) p1)]) ht7_UB (c_sclean hx_12 SF) (pn_pl _) ⟨lent_HR rfl (Nat.le_refl 2) (loc_getN rfl rfl) rfl (fun _ _ => rfl) (fun x_ h_ => Option.some.inj (h_.symm.trans hvn)) (fun x_ h_ => by rw [Option.some.inj (h_.symm.trans hvn)]), lent_fz (fz_aggF (fz_I _)), trivial⟩ ⟨le_of_eq (ls rfl lz), le_of_eq lz, trivial⟩) ?_
    refine rts _ rfl (opD_not lz) ?_
    refine rts _ rfl (opD_move lz) ?_
    refine rtg _ rfl lz (fun hg14_5_39 => opD_move (ls rfl (ls rfl (ls rfl (ls rfl (ls rfl (os rfl (os rfl (os rfl oz))))))))) ?_
    replace h0 := grd_some h0
    obtain ⟨hg_41, h0⟩ := h0
    refine rtg _ rfl (ls rfl lz) (fun hg14_6_40 => loadFN ag24_UB sz24_UB (ls rfl (ls rfl (ls rfl (ls rfl (ls rfl (ls rfl oz)))))) (loc_getN rfl rfl) rfl (hg_41 hg14_6_40)) ?_
    replace h0 := bnd_some h0
    obtain ⟨x_13, hx_13, h0⟩ := h0
    refine rtg _ rfl (ls rfl (ls rfl lz)) (fun hg14_7_42 => opD_lend (ps := [sl (kHR (s.boxes.length + 2) 2) (some (s.fr.length + 0)) none (tg n0 vz_3), agg (flat (kI .u64) p1)]) ht8_UB (ac_le (c_sdirty (gif_some hx_13 hg14_7_42) SF) sl_slen) (slen_pn _) ⟨lent_HR rfl (Nat.le_refl 2) (loc_getN rfl rfl) rfl (fun _ _ => rfl) (fun x_ h_ => Option.some.inj (h_.symm.trans hvn)) (fun x_ h_ => by rw [Option.some.inj (h_.symm.trans hvn)]), lent_fz (fz_aggF (fz_I _)), trivial⟩ ⟨le_of_eq ((ls rfl lz).trans (pif_pos hg14_7_42)), le_of_eq (lz.trans (pif_pos hg14_7_42)), trivial⟩) ?_
    refine rtg _ rfl (ls rfl (ls rfl (ls rfl lz))) (fun hg14_8_43 => opD_len_slen Go.Proofs.Try.underlying33 (lz.trans (pif_pos hg14_8_43))) ?_
    refine rtg _ rfl (ls rfl (ls rfl (ls rfl (ls rfl lz)))) (fun hg14_9_44 => opD_neq (lz.trans (pif_pos hg14_9_44)) (ev_const _ _)) ?_
    refine rts _ rfl (opD_or (ls rfl (ls rfl (ls rfl (ls rfl (ls rfl lz))))) lz) ?_
    refine rts _ rfl (opD_move lz) ?_
    refine rtg _ rfl lz (fun hg14_12_45 => opD_move (ls rfl (ls rfl (ls rfl (ls rfl (ls rfl (ls rfl (ls rfl (ls rfl (ls rfl (ls rfl (ls rfl (ls rfl (os rfl (os rfl (os rfl (os rfl oz))))))))))))))))) ?_
    refine rtg _ rfl (ls rfl lz) (fun hg14_13_46 => opD_neq (lz.trans (pif_pos hg14_13_46)) (ev_const _ _)) ?_
    refine rts _ rfl (opD_or (ls rfl (ls rfl lz)) lz) ?_
    refine .nil ?_
    refine aw_keep [(4, _), (7, _), (8, _), (9, _), (80, _)] ⟨lg (ls rfl (ls rfl (ls rfl (ls rfl (ls rfl (ls rfl (ls rfl (ls rfl (ls rfl (ls rfl (ls rfl (ls rfl (ls rfl (ls rfl (ls rfl oz))))))))))))))), lg (ls rfl (ls rfl (ls rfl (ls rfl (ls rfl (ls rfl (ls rfl (ls rfl (ls rfl (ls rfl (ls rfl (ls rfl (ls rfl (ls rfl (ls rfl (os rfl oz)))))))))))))))), lg (ls rfl (ls rfl (ls rfl (ls rfl (ls rfl (ls rfl (ls rfl (ls rfl (ls rfl (ls rfl (ls rfl (ls rfl (ls rfl (ls rfl (ls rfl (os rfl (os rfl oz))))))))))))))))), lg (ls rfl (ls rfl (ls rfl (ls rfl (ls rfl (ls rfl (ls rfl (ls rfl (ls rfl (ls rfl (ls rfl (ls rfl (ls rfl (ls rfl (ls rfl (os rfl (os rfl (os rfl oz)))))))))))))))))), lg lz, trivial⟩ ?_
    refine aw_cond _ (os rfl (os rfl (os rfl (os rfl oz)))) (fun hc => ?_) (fun hc => ?_)
    · skip
      replace h0 := ifb_t h0 hc
      clear hc
      refine aw_seq ?_
      refine aw_region (by decide) ?_
      refine rts _ rfl (opD_assign (ev_const _ _)) ?_
      refine .nil ?_
      refine aw_keep [(6, _)] ⟨lg lz, trivial⟩ ?_
      refine aw_ret ?_
      obtain rfl := some_of h0
      exact done_ext (.inr rfl) ((res_one rfl (it_tmp oz)).le (Pd.le_refl _)) (pl_bnd _ _ _)
    · skip
      replace h0 := ifb_f h0 hc
      clear hc
      refine aw_skip ?_
      refine aw_keep [(4, _), (7, _), (8, _), (9, _)] ⟨lg oz, lg (os rfl oz), lg (os rfl (os rfl oz)), lg (os rfl (os rfl (os rfl oz))), trivial⟩ ?_
      refine aw_seq ?_
      refine aw_region (by decide) ?_
      refine rts _ rfl (opD_move (os rfl oz)) ?_
      refine rts _ rfl (opD_conv_int Go.Proofs.Try.underlying5 Go.Proofs.Try.underlying3 lz rfl) ?_
      refine rts _ rfl (opD_move (ls rfl (ls rfl (os rfl (os rfl (os rfl oz)))))) ?_
      refine rts _ rfl (opD_lenT n0 Go.Proofs.Try.underlying22 lz) ?_
      refine rts _ rfl (opD_sub lz (ev_const _ _) rfl) ?_
      refine rts _ rfl (opD_max (ev_const _ _) lz rfl) ?_
      replace h0 := grd_some h0
      obtain ⟨hg_47, h0⟩ := h0
      refine rts _ rfl (opD_rem (ls rfl (ls rfl (ls rfl (ls rfl lz)))) lz hg_47 rfl) ?_
      refine rts _ rfl (opD_add (ev_const _ _) lz rfl) ?_
      refine rts _ rfl (opD_assign lz) ?_
      refine .nil ?_
      refine aw_keep [(4, _), (8, _), (9, _), (16, _)] ⟨lg (ls rfl (ls rfl (ls rfl (ls rfl (ls rfl (ls rfl (ls rfl (ls rfl (ls rfl oz))))))))), lg (ls rfl (ls rfl (ls rfl (ls rfl (ls rfl (ls rfl (ls rfl (ls rfl (ls rfl (os rfl (os rfl oz))))))))))), lg (ls rfl (ls rfl (ls rfl (ls rfl (ls rfl (ls rfl (ls rfl (ls rfl (ls rfl (os rfl (os rfl (os rfl oz)))))))))))), lg lz, trivial⟩ ?_
      refine aw_seq ?_
      refine aw_seq ?_
      refine aw_region (by decide) ?_
      refine rts _ rfl (opD_move (os rfl (os rfl (os rfl oz)))) ?_
      refine rts _ rfl (opD_move (ls rfl (os rfl (os rfl oz)))) ?_
      refine rts _ rfl (opD_lenT n0 Go.Proofs.Try.underlying22 lz) ?_
      refine rts _ rfl (opD_geq (ls rfl (ls rfl lz)) lz) ?_
      refine rts _ rfl (opD_move lz) ?_
      replace h0 := grd_some h0
      obtain ⟨hg_49, h0⟩ := h0
      refine rtg _ rfl lz (fun hg17_5_48 => loadFN ag24_UB sz24_UB (ls rfl (ls rfl (ls rfl (ls rfl (ls rfl oz))))) (loc_getN rfl rfl) rfl (hg_49 hg17_5_48)) ?_
      refine rtg _ rfl (ls rfl lz) (fun hg17_6_50 => opD_move (ls rfl (ls rfl (ls rfl (ls rfl (ls rfl (ls rfl (os rfl (os rfl (os rfl oz)))))))))) ?_
      replace h0 := bnd_some h0
      obtain ⟨x_14, hx_14, h0⟩ := h0
      refine rtg _ rfl (ls rfl (ls rfl lz)) (fun hg17_7_51 => opD_pure ht4_UB (c_bhas (gif_some hx_14 hg17_7_51)) ⟨le_of_eq ((ls rfl lz).trans (pif_pos hg17_7_51)), le_of_eq (lz.trans (pif_pos hg17_7_51)), trivial⟩) ?_
      refine rts _ rfl (opD_or (ls rfl (ls rfl (ls rfl lz))) lz) ?_
      refine rts _ rfl (opD_move lz) ?_
      refine rtg _ rfl lz (fun hg17_10_52 => opD_move (ls rfl (ls rfl (ls rfl (ls rfl (ls rfl (ls rfl (ls rfl (ls rfl (ls rfl (ls rfl (os rfl oz)))))))))))) ?_
      refine rtg _ rfl (ls rfl lz) (fun hg17_11_53 => opD_eql (lz.trans (pif_pos hg17_11_53)) (ev_const _ _)) ?_
      refine rts _ rfl (opD_or (ls rfl (ls rfl lz)) lz) ?_
      refine .nil ?_
      refine aw_keep [(4, _), (8, _), (9, _), (16, _), (101, _)] ⟨lg (ls rfl (ls rfl (ls rfl (ls rfl (ls rfl (ls rfl (ls rfl (ls rfl (ls rfl (ls rfl (ls rfl (ls rfl (ls rfl oz))))))))))))), lg (ls rfl (ls rfl (ls rfl (ls rfl (ls rfl (ls rfl (ls rfl (ls rfl (ls rfl (ls rfl (ls rfl (ls rfl (ls rfl (os rfl oz)))))))))))))), lg (ls rfl (ls rfl (ls rfl (ls rfl (ls rfl (ls rfl (ls rfl (ls rfl (ls rfl (ls rfl (ls rfl (ls rfl (ls rfl (os rfl (os rfl oz))))))))))))))), lg (ls rfl (ls rfl (ls rfl (ls rfl (ls rfl (ls rfl (ls rfl (ls rfl (ls rfl (ls rfl (ls rfl (ls rfl (ls rfl (os rfl (os rfl (os rfl oz)))))))))))))))), lg lz, trivial⟩ ?_
      refine aw_cond _ (os rfl (os rfl (os rfl (os rfl oz)))) (fun hc => ?_) (fun hc => ?_)
      · skip
        replace h0 := ifb_t h0 hc
        clear hc
        refine aw_seq ?_
        refine aw_region (by decide) ?_
        replace h0 := bnd_some h0
        obtain ⟨x_15, hx_15, h0⟩ := h0
        refine rts _ rfl (opD_pure ht9_UB (c_sure22 hx_15) trivial) ?_
        refine rts _ rfl (opD_assign lz) ?_
        refine .nil ?_
        refine aw_keep [(6, _)] ⟨lg lz, trivial⟩ ?_
        refine aw_ret ?_
        obtain rfl := some_of h0
        exact done_ext (.inr rfl) ((res_one rfl (it_tmp oz)).le (Pd.le_refl _)) (pl_bnd _ _ _)
      · skip
        replace h0 := ifb_f h0 hc
        clear hc
        refine aw_skip ?_
        refine aw_keep [(4, _), (8, _), (9, _), (16, _)] ⟨lg oz, lg (os rfl oz), lg (os rfl (os rfl oz)), lg (os rfl (os rfl (os rfl oz))), trivial⟩ ?_
        refine aw_seq ?_
        refine aw_region (by decide) ?_
        refine rts _ rfl (opD_move (os rfl (os rfl oz))) ?_
        refine rts _ rfl (opD_move (ls rfl (os rfl (os rfl (os rfl oz))))) ?_
        replace h0 := ixb_some h0
        obtain ⟨x_16, hx_16, hbx_16, h0⟩ := h0
        have hN_ : (IntKind.i64.wrap (2 + ((IntKind.i64.wrap (xx)).tmod (if (IntKind.i64.wrap ((vz_3.length : Int) - 2)) > 1 then IntKind.i64.wrap ((vz_3.length : Int) - 2) else 1)))) = (n0 : Int) := hn0
        have hx_16' : vz_3[n0]? = some x_16 := by rw [hN_] at hx_16; exact hx_16
        have hxz : x_16 = (List.replicate 512 (0 : Int)) := Option.some.inj (hx_16'.symm.trans hvn)
        subst hxz
        refine rts _ rfl (opD_indexAddr_sl (i := n0) Go.Proofs.Try.underlying22 sz26_UB (ls rfl lz) lz hN_ (by rw [tg_len]; exact hn1)) ?_
        refine rts _ rfl (opD_load_el_one (z := (true, (List.replicate 512 (0 : Int)))) ag26_UB lz (by rw [tg_get, hx_16']; rw [decide_eq_true rfl]; rfl) rfl) ?_
        refine rts _ rfl (opD_move (ls rfl (ls rfl (ls rfl (ls rfl (os rfl oz)))))) ?_
        refine rts _ rfl (opD_conv_int Go.Proofs.Try.underlying5 Go.Proofs.Try.underlying3 lz rfl) ?_
        refine rts _ rfl (opD_move (ls rfl (ls rfl (ls rfl (ls rfl (ls rfl (ls rfl (os rfl oz)))))))) ?_
        replace h0 := ixb_some h0
        obtain ⟨x_17, hx_17, hbx_17, h0⟩ := h0
        refine rts _ rfl (opD_indexAddr_hx (i := (IntKind.i64.wrap (x_2)).toNat) Go.Proofs.Try.underlying26 sz5_UB rfl ⟨_, loc_getN rfl rfl⟩ (ls rfl (ls rfl (ls rfl lz))) (ls rfl lz) hbx_17.2.2 hbx_17.2.1) ?_
        refine rts _ rfl (storeE1N rfl (k := kI .u8) (y := x_2) sz5_UB rfl (Nat.le_refl 2) rfl lz (ls rfl lz) rfl hbx_17.2.1 (kb_I _) (by simp only [na, nb, nc, nd, nf, ng, nh, ni, nj, nk] <;> rfl)) ?_
        refine .nil ?_
        refine aw_keep [(4, _), (9, _), (16, _)] ⟨lg (lx (ls rfl (ls rfl (ls rfl (ls rfl (ls rfl (ls rfl (ls rfl (ls rfl oz))))))))), lg (lx (ls rfl (ls rfl (ls rfl (ls rfl (ls rfl (ls rfl (ls rfl (ls rfl (os rfl (os rfl oz))))))))))), lg (lx (ls rfl (ls rfl (ls rfl (ls rfl (ls rfl (ls rfl (ls rfl (ls rfl (os rfl (os rfl (os rfl oz)))))))))))), trivial⟩ ?_
        have hs1_ : (vz_3.set ((IntKind.i64.wrap (2 + ((IntKind.i64.wrap (xx)).tmod (if (IntKind.i64.wrap ((vz_3.length : Int) - 2)) > 1 then IntKind.i64.wrap ((vz_3.length : Int) - 2) else 1))))).toNat ((List.replicate 512 (0 : Int)).set (IntKind.i64.wrap (x_2)).toNat x_2)).length = vz_3.length := List.length_set
        have hs2_ : ∀ j, j ≠ n0 → (vz_3.set ((IntKind.i64.wrap (2 + ((IntKind.i64.wrap (xx)).tmod (if (IntKind.i64.wrap ((vz_3.length : Int) - 2)) > 1 then IntKind.i64.wrap ((vz_3.length : Int) - 2) else 1))))).toNat ((List.replicate 512 (0 : Int)).set (IntKind.i64.wrap (x_2)).toNat x_2))[j]? = vz_3[j]? := fun j hj => by rw [hN_]; exact List.getElem?_set_ne (Ne.symm hj)
        have hs3_ : ∀ x, (vz_3.set ((IntKind.i64.wrap (2 + ((IntKind.i64.wrap (xx)).tmod (if (IntKind.i64.wrap ((vz_3.length : Int) - 2)) > 1 then IntKind.i64.wrap ((vz_3.length : Int) - 2) else 1))))).toNat ((List.replicate 512 (0 : Int)).set (IntKind.i64.wrap (x_2)).toNat x_2))[n0]? = some x → x = ((List.replicate 512 (0 : Int)).set (IntKind.i64.wrap (x_2)).toNat x_2) := fun x hx => by rw [hN_, show ((n0 : Int)).toNat = n0 from rfl, List.getElem?_set_self hn1] at hx; exact (Option.some.inj hx).symm
        have hs4_ : ∀ x, vz_3[n0]? = some x → x.length = ((List.replicate 512 (0 : Int)).set (IntKind.i64.wrap (x_2)).toNat x_2).length := fun x hx => by rw [Option.some.inj (hx.symm.trans hvn), List.length_set]
        refine aw_seal (k := kI .u8) (l := ((List.replicate 512 (0 : Int)).set (IntKind.i64.wrap (x_2)).toNat x_2)) (bs' := [⟨24, (flat (kI .u64) p1)⟩, ⟨25, (flat (kI .u8) p2)⟩, ⟨hot 5 2 + HOT, []⟩]) (i := 2) (r := 2) (te := 5) rfl [(4, ptr (s.boxes.length + 0) 0), (9, sl (kR (kI .u8)) none none (vz_3.set ((IntKind.i64.wrap (2 + ((IntKind.i64.wrap (xx)).tmod (if (IntKind.i64.wrap ((vz_3.length : Int) - 2)) > 1 then IntKind.i64.wrap ((vz_3.length : Int) - 2) else 1))))).toNat ((List.replicate 512 (0 : Int)).set (IntKind.i64.wrap (x_2)).toNat x_2))), (16, pl (.int .i64 (IntKind.i64.wrap (2 + ((IntKind.i64.wrap (xx)).tmod (if (IntKind.i64.wrap ((vz_3.length : Int) - 2)) > 1 then IntKind.i64.wrap ((vz_3.length : Int) - 2) else 1))))))] rfl rfl (Nat.le_refl 2) rfl (by decide) ⟨rfl, SealL.refl _, ⟨rfl, SealL.refl _, ⟨rfl, rfl, trivial⟩⟩⟩ (bl_cons (flatKB (kb_I _)) (bl_cons (flatKB (kb_I _)) (bl_cons bnd_nil bl_nil))) ⟨seal_e oz (seal_same _), seal_e (os rfl oz) (seal_HR hs1_ hs2_ hs3_ hs4_), seal_e (os rfl (os rfl oz)) (seal_same _), trivial⟩ ?_
        refine aw_seq ?_
        refine aw_region (by decide) ?_
        refine rts _ rfl (opD_move (os rfl oz)) ?_
        replace h0 := grd_some h0
        obtain ⟨hg_54, h0⟩ := h0
        refine rts _ rfl (loadFN ag24_UB sz24_UB (ls rfl oz) (loc_getN rfl rfl) rfl hg_54) ?_
        replace h0 := bnd_some h0
        obtain ⟨x_18, hx_18, h0⟩ := h0
        refine rts _ rfl (opD_pure ht8_UB (c_sdirty hx_18) ⟨(le_of_eq (ls rfl lz)).trans (sl_any _ _ _ _), le_of_eq lz, trivial⟩) ?_
        refine rts _ rfl (opD_assign lz) ?_
        refine .nil ?_
        refine aw_keep [(4, _), (9, _), (16, _), (17, _)] ⟨lg (ls rfl (ls rfl (ls rfl (ls rfl oz)))), lg (ls rfl (ls rfl (ls rfl (ls rfl (os rfl oz))))), lg (ls rfl (ls rfl (ls rfl (ls rfl (os rfl (os rfl oz)))))), lg lz, trivial⟩ ?_
        refine aw_seq ?_
        refine aw_region (by decide) ?_
        refine rts _ rfl (opD_move (os rfl (os rfl (os rfl oz)))) ?_
        refine rts _ rfl (opD_len_sl Go.Proofs.Try.underlying33 lz) ?_
        refine rts _ rfl (opD_eql lz (ev_const _ _)) ?_
        refine rts _ rfl (opD_move lz) ?_
        refine rtg _ rfl lz (fun hg21_4_55 => opD_move (ls rfl (ls rfl (ls rfl (ls rfl (os rfl (os rfl (os rfl oz)))))))) ?_
        replace h0 := grd_some h0
        obtain ⟨hg_57, h0⟩ := h0
        refine rtg _ rfl (ls rfl lz) (fun hg21_5_56 => opD_indexAddr_sl (i := (0 : Int).toNat) Go.Proofs.Try.underlying33 sz3_UB (lz.trans (pif_pos hg21_5_56)) (ev_const _ _) (hg_57 hg21_5_56).eq (hg_57 hg21_5_56).2) ?_
        refine rtg _ rfl (ls rfl (ls rfl lz)) (fun hg21_6_58 => opD_load_el_one ag3_UB (lz.trans (pif_pos hg21_6_58)) (at_getD default (hg_57 hg21_6_58).2) rfl) ?_
        refine rtg _ rfl (ls rfl (ls rfl (ls rfl lz))) (fun hg21_7_59 => opD_move (ls rfl (ls rfl (ls rfl (ls rfl (ls rfl (ls rfl (ls rfl (os rfl (os rfl oz)))))))))) ?_
        refine rtg _ rfl (ls rfl (ls rfl (ls rfl (ls rfl lz)))) (fun hg21_8_60 => opD_eql ((ls rfl lz).trans (pif_pos hg21_8_60)) (lz.trans (pif_pos hg21_8_60))) ?_
        refine rts _ rfl (opD_and (ls rfl (ls rfl (ls rfl (ls rfl (ls rfl lz))))) lz) ?_
        refine rts _ rfl (opD_move lz) ?_
        refine rtg _ rfl lz (fun hg21_11_61 => opD_move (ls rfl (ls rfl (ls rfl (ls rfl (ls rfl (ls rfl (ls rfl (ls rfl (ls rfl (ls rfl (ls rfl (os rfl oz))))))))))))) ?_
        replace h0 := grd_some h0
        obtain ⟨hg_63, h0⟩ := h0
        refine rtg _ rfl (ls rfl lz) (fun hg21_12_62 => loadFN ag24_UB sz24_UB (ls rfl (ls rfl (ls rfl (ls rfl (ls rfl (ls rfl (ls rfl (ls rfl (ls rfl (ls rfl (ls rfl (ls rfl oz)))))))))))) (loc_getN rfl rfl) rfl (hg_63 hg21_12_62)) ?_
        replace h0 := bnd_some h0
        obtain ⟨x_19, hx_19, h0⟩ := h0
        refine rtg _ rfl (ls rfl (ls rfl lz)) (fun hg21_13_64 => opD_pure ht7_UB (c_sclean (gif_some hx_19 hg21_13_64)) ⟨(le_of_eq ((ls rfl lz).trans (pif_pos hg21_13_64))).trans (sl_any _ _ _ _), le_of_eq (lz.trans (pif_pos hg21_13_64)), trivial⟩) ?_
        refine rtg _ rfl (ls rfl (ls rfl (ls rfl lz))) (fun hg21_14_65 => opD_not (lz.trans (pif_pos hg21_14_65))) ?_
        refine rts _ rfl (opD_and (ls rfl (ls rfl (ls rfl (ls rfl lz)))) lz) ?_
        refine rts _ rfl (opD_move lz) ?_
        replace h0 := bnd_some h0
        obtain ⟨x_20, hx_20, h0⟩ := h0
        refine rtg _ rfl lz (fun hg21_17_66 => opD_pure ht9_UB (c_sure22 (gif_some hx_20 hg21_17_66)) trivial) ?_
        refine rts _ rfl (opD_and (ls rfl lz) lz) ?_
        refine rts _ rfl (opD_assign lz) ?_
        refine .nil ?_
        refine aw_keep [(6, _)] ⟨lg lz, trivial⟩ ?_
        refine aw_ret ?_
        obtain rfl := some_of h0
        exact done_ext (.inr rfl) ((res_one rfl (it_tmp oz)).le (Pd.le_refl _)) (pl_bnd _ _ _)
end Go.Proofs.Ytokcgacehdgkcaa.Eng.A
