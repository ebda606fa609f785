/- EE2: what functions do, walked; used by the laws of this seat. -/
import Derived.Test.YtjbgddpaclcjfaaDoorEE1
import Derived.Test.YtjbgddpaclcjfaaDoorEngX4
import Derived.Test.YtjbgddpaclcjfaaDoorEX9
import Derived.Shelf.SlSortCmp.WholeK
import Derived.Shelf.Small.Wraps
import Derived.Shelf.Small.Bits
import Derived.Shelf.SlSortCmp.NoneTotal
import Derived.WalkKit
namespace Go.Proofs.YtjbgddpaclcjfaaDoor.Eng.A
set_option linter.unusedVariables false
set_option linter.unusedSimpArgs false
open Go.RowKit Go.Proofs.YtjbgddpaclcjfaaDoor.Plain Go.Proofs.YtjbgddpaclcjfaaDoor.Eng Go.Proofs.YtjbgddpaclcjfaaDoor.Eng.Pk Go.Proofs.YtjbgddpaclcjfaaDoor.Eng.Rd

theorem ag48_SR1 : aggT Go.Proofs.Tryd.prog 48 = some false := by kernel_rfl
theorem sz48_SR1 : sizeT Go.Proofs.Tryd.prog 48 = some 1 := by kernel_rfl
theorem ag137_SR1 : aggT Go.Proofs.Tryd.prog 137 = some true := by kernel_rfl
theorem sz137_SR1 : sizeT Go.Proofs.Tryd.prog 137 = some 2 := by kernel_rfl
theorem zt137_SR1 : zeroT Go.Proofs.Tryd.prog 137 = some [.int .i64 0, .int .i64 0] := by kernel_rfl
theorem el137_SR1 : elT Go.Proofs.Tryd.prog 137 = some (2, 16) := by kernel_rfl
theorem ht143_SR1 : hasText Go.Proofs.Tryd.prog 143 = true := by kernel_rfl
theorem ht184_SR1 : hasText Go.Proofs.Tryd.prog 184 = true := by kernel_rfl
theorem ht209_SR1 : hasText Go.Proofs.Tryd.prog 209 = true := by kernel_rfl
theorem ht182_SR1 : hasText Go.Proofs.Tryd.prog 182 = true := by kernel_rfl
theorem ht142_SR1 : hasText Go.Proofs.Tryd.prog 142 = true := by kernel_rfl
theorem ht183_SR1 : hasText Go.Proofs.Tryd.prog 183 = true := by kernel_rfl
open Go.Shelf
def sortStx_ren : Go.Shelf.Ren := ⟨fun | 6 => 183 | 15 => 136 | 14 => 210 | 28 => 177 | 29 => 178 | 20 => 229 | 21 => 230 | 22 => 231 | 23 => 232 | 24 => 233 | 25 => 234 | 26 => 235 | 27 => 236 | 46 => 252 | 47 => 205 | 48 => 206 | 49 => 253 | 50 => 254 | 57 => 261 | n => n, fun | 22 => 48 | 24 => 137 | 25 => 242 | 3 => 3 | 39 => 222 | 0 => 0 | 53 => 275 | 55 => 88 | 4 => 4 | 46 => 267 | 45 => 266 | 50 => 272 | 5 => 5 | 9 => 9 | 66 => 307 | 70 => 311 | 76 => 332 | 77 => 52 | n => n, fun | n => n⟩
theorem sortStx : Go.Proofs.SlLaysF0.n6 Tryd.prog sortStx_ren := {
  mixed := by kernel_rfl
  f6 := ⟨Tryd.f183.name, by decide, Tryd.func183.trans (congrArg some (by kernel_rfl))⟩
  f14 := ⟨Tryd.f210.name, by decide, Tryd.func210.trans (congrArg some (by kernel_rfl))⟩
  f15 := Tryd.func136.trans (congrArg some (by kernel_rfl))
  f20 := ⟨Tryd.f229.name, by decide, Tryd.func229.trans (congrArg some (by kernel_rfl))⟩
  f21 := ⟨Tryd.f230.name, by decide, Tryd.func230.trans (congrArg some (by kernel_rfl))⟩
  f22 := ⟨Tryd.f231.name, by decide, Tryd.func231.trans (congrArg some (by kernel_rfl))⟩
  f23 := ⟨Tryd.f232.name, by decide, Tryd.func232.trans (congrArg some (by kernel_rfl))⟩
  f24 := ⟨Tryd.f233.name, by decide, Tryd.func233.trans (congrArg some (by kernel_rfl))⟩
  f25 := ⟨Tryd.f234.name, by decide, Tryd.func234.trans (congrArg some (by kernel_rfl))⟩
  f26 := ⟨Tryd.f235.name, by decide, Tryd.func235.trans (congrArg some (by kernel_rfl))⟩
  f27 := ⟨Tryd.f236.name, by decide, Tryd.func236.trans (congrArg some (by kernel_rfl))⟩
  f28 := Tryd.func177.trans (congrArg some (by kernel_rfl))
  f29 := Tryd.func178.trans (congrArg some (by kernel_rfl))
  f46 := ⟨Tryd.f252.name, by decide, Tryd.func252.trans (congrArg some (by kernel_rfl))⟩
  f47 := Tryd.func205.trans (congrArg some (by kernel_rfl))
  f48 := Tryd.func206.trans (congrArg some (by kernel_rfl))
  f49 := ⟨Tryd.f253.name, by decide, Tryd.func253.trans (congrArg some (by kernel_rfl))⟩
  f50 := ⟨Tryd.f254.name, by decide, Tryd.func254.trans (congrArg some (by kernel_rfl))⟩
  f57 := ⟨Tryd.f261.name, by decide, Tryd.func261.trans (congrArg some (by kernel_rfl))⟩
  t0 := Tryd.underlying0
  a0 := Tryd.isAgg0
  z0 := Tryd.sizeOf0
  v0 := Tryd.zeroValue0
  t3 := Tryd.underlying3
  a3 := Tryd.isAgg3
  z3 := Tryd.sizeOf3
  v3 := Tryd.zeroValue3
  t4 := Tryd.underlying4
  a4 := Tryd.isAgg4
  z4 := Tryd.sizeOf4
  v4 := Tryd.zeroValue4
  t5 := Tryd.underlying5
  a5 := Tryd.isAgg5
  z5 := Tryd.sizeOf5
  v5 := Tryd.zeroValue5
  t9 := Tryd.underlying9
  a9 := Tryd.isAgg9
  z9 := Tryd.sizeOf9
  v9 := Tryd.zeroValue9
  t22 := Tryd.underlying48
  a22 := Tryd.isAgg48
  z22 := Tryd.sizeOf48
  v22 := Tryd.zeroValue48
  t25 := Tryd.underlying242
  a25 := Tryd.isAgg242
  z25 := Tryd.sizeOf242
  v25 := Tryd.zeroValue242
  t39 := Tryd.underlying222
  a39 := Tryd.isAgg222
  z39 := Tryd.sizeOf222
  v39 := Tryd.zeroValue222
  t45 := Tryd.underlying266
  a45 := Tryd.isAgg266
  z45 := Tryd.sizeOf266
  v45 := Tryd.zeroValue266
  t46 := Tryd.underlying267
  a46 := Tryd.isAgg267
  z46 := Tryd.sizeOf267
  v46 := Tryd.zeroValue267
  t50 := Tryd.underlying272
  a50 := Tryd.isAgg272
  z50 := Tryd.sizeOf272
  v50 := Tryd.zeroValue272
  t53 := Tryd.underlying275
  a53 := Tryd.isAgg275
  z53 := Tryd.sizeOf275
  v53 := Tryd.zeroValue275
  t55 := Tryd.underlying88
  a55 := Tryd.isAgg88
  z55 := Tryd.sizeOf88
  v55 := Tryd.zeroValue88
  t66 := Tryd.underlying307
  a66 := Tryd.isAgg307
  z66 := Tryd.sizeOf307
  v66 := Tryd.zeroValue307
  t70 := Tryd.underlying311
  a70 := Tryd.isAgg311
  z70 := Tryd.sizeOf311
  v70 := Tryd.zeroValue311
  t76 := Tryd.underlying332
  a76 := Tryd.isAgg332
  z76 := Tryd.sizeOf332
  v76 := Tryd.zeroValue332
  t77 := Tryd.underlying52
  a77 := Tryd.isAgg52
  z77 := Tryd.sizeOf52
  v77 := Tryd.zeroValue52 }
def lay122_ren : Go.Shelf.Ren := ⟨fun | 122 => 145 | 215 => 185 | n => n, fun | 3 => 3 | 4 => 4 | n => n, fun | n => n⟩
theorem lay122 : Go.Proofs.Lays.n122 Tryd.prog lay122_ren := {
  mixed := by kernel_rfl
  f122 := Tryd.func145.trans (congrArg some (by kernel_rfl))
  f215 := Tryd.func185.trans (congrArg some (by kernel_rfl))
  t3 := Tryd.underlying3
  a3 := Tryd.isAgg3
  z3 := Tryd.sizeOf3
  v3 := Tryd.zeroValue3
  t4 := Tryd.underlying4
  a4 := Tryd.isAgg4
  z4 := Tryd.sizeOf4
  v4 := Tryd.zeroValue4 }


open Go.Shelf Go.Lib Go.Sort
/-! ### Values -/
set_option maxRecDepth 100000 in
set_option maxHeartbeats 2000000 in
theorem c_vals {l : List Stx} {s : St} : AC Go.Proofs.Tryd.prog 143 [sl kStx none none l] s (fncs 184 [ptr s.boxes.length 0]) (s.ext [⟨48, [sl kStx none none l]⟩] []) := by
  refine ac_of_aw (s.boxes.length + 1) s.fr.length Go.Proofs.Tryd.func143 rfl (by simp [Go.Proofs.Tryd.ntmps143]) ?_
  refine aw_ext0 ?_
  refine aw_seq ?_
  refine aw_region (by decide) ?_
  refine rts _ rfl (boxON rfl ez (one_sl _ _ _ _) (sl_b kb_Stx) rfl rfl) ?_
  refine rts _ rfl (opD_assign (ev_const _ _)) ?_
  refine .nil ?_
  refine aw_keep [(1, _)] ⟨lg (ls rfl lz), trivial⟩ ?_
  refine aw_seq ?_
  refine aw_region (by decide) ?_
  refine rts _ rfl (opD_makeFuncs (xs := [.tmp 1]) (qs := [_]) ⟨le_of_eq oz, trivial⟩) ?_
  refine rts _ rfl (opD_assign lz) ?_
  refine .nil ?_
  refine aw_keep [(2, _)] ⟨lg lz, trivial⟩ ?_
  refine aw_ret ?_
  exact done_updLN (l := []) (n := s.boxes.length + 1) rfl trivial (.inr rfl) ((res_one rfl (it_tmp oz)).le (Pd.le_refl _)) (fncs_bnd fun q hq => by rw [List.mem_singleton] at hq; subst hq; exact ptr_bnd _ (Nat.lt_succ_self _)) fun B hB q hq => by
    rw [List.mem_singleton] at hB; subst hB
    rw [List.mem_singleton] at hq; subst hq
    exact sl_b kb_Stx

set_option maxRecDepth 100000 in
set_option maxHeartbeats 2000000 in
theorem c_valit {l : List Stx} {b : Nat} (hl : l.length ≤ 140737488355328) : ItSeqE Go.Proofs.Tryd.prog 184 [ptr b 0] (fun s => s.boxes[b]? = some ⟨48, [sl kStx none none l]⟩) (l.map fun x => [agg (kStx.cs x)]) := by
  intro lb rec g0 w0 S X s hC hE hY h0
  rw [List.length_map]
  refine it_of_al Go.Proofs.Tryd.func184 rfl (by simp [Go.Proofs.Tryd.ntmps184]) rfl ?_
  refine al_seq (al_of_aw ?_)
  refine aw_region (by decide) ?_
  refine rts _ rfl (opD_load_one ag48_SR1 (es ez) (hC 0 s h0) rfl) ?_
  refine rts _ rfl (opD_len_sl Go.Proofs.Tryd.underlying48 lz) ?_
  refine rts _ rfl (opD_move (ev_const _ _)) ?_
  refine .nil ?_
  refine al_keep [(0, pl (.func (.yield lb) #[] #[])), (5, sl kStx none none l), (6, pl (.int .i64 (l.length : Int))), (7, pl (.int .i64 ((0 : Nat) : Int)))] ⟨lg (ls rfl (ls rfl (ls rfl ez))), lg (ls rfl (ls rfl lz)), lg (ls rfl lz), lg lz, trivial⟩ ?_
  refine al_block ?_
  refine al_loop (fun n e st => ∃ j : Nat, j + n = l.length ∧ S j st ∧ Holds e [(0, pl (.func (.yield lb) #[] #[])), (5, sl kStx none none l), (6, pl (.int .i64 (l.length : Int))), (7, pl (.int .i64 (j : Int)))]) l.length ⟨0, by omega, h0, ⟨le_of_eq (eg oz), le_of_eq (eg (os rfl oz)), le_of_eq (eg (os rfl (os rfl oz))), le_of_eq (eg (os rfl (os rfl (os rfl oz)))), trivial⟩⟩ ?_
  rintro n e st ⟨j, hj, hS, hH⟩
  refine al_keep _ hH ?_
  refine al_seq (al_of_aw ?_)
  refine aw_region (by decide) ?_
  refine rts _ rfl (opD_lss (os rfl (os rfl (os rfl oz))) (os rfl (os rfl oz))) ?_
  refine .nil ?_
  refine al_keep [(0, _), (5, _), (6, _), (7, _), (8, _)] ⟨lg (ls rfl oz), lg (ls rfl (os rfl oz)), lg (ls rfl (os rfl (os rfl oz))), lg (ls rfl (os rfl (os rfl (os rfl oz)))), lg lz, trivial⟩ ?_
  refine al_seq (al_cond _ (os rfl (os rfl (os rfl (os rfl oz)))) (fun hc => ?_) (fun hc => ?_))
  · have hlt : j < l.length := by have := of_decide_eq_true hc; omega
    have hx := List.getElem?_eq_getElem hlt
    generalize l[j] = x at hx
    refine al_of_aw (aw_skip ?_)
    refine al_seq ?_
    refine al_block ?_
    refine al_seq (al_of_aw (aw_ext0 ?_))
    refine aw_region (by decide) ?_
    refine rts _ rfl (opD_indexAddr_sl (i := j) Go.Proofs.Tryd.underlying48 sz137_SR1 (os rfl oz) (os rfl (os rfl (os rfl oz))) rfl hlt) ?_
    refine rts _ rfl (opD_load_el_aggX (qs := [_, _]) ag137_SR1 sz137_SR1 lz hx (Nat.le_of_ble_eq_true rfl) rfl) ?_
    refine rts _ rfl (allocN rfl zt137_SR1 rfl rfl) ?_
    refine rts _ rfl (storeAN (i := 0) rfl sz137_SR1 lz (ls rfl lz) (ones_cons (one_pl rfl) (ones_cons (one_pl rfl) ones_nil)) rfl rfl (Nat.le_of_ble_eq_true rfl) (List.cons_ne_nil _ _) (bnd_cons (pl_bnd _ _ _) (bnd_cons (pl_bnd _ _ _) bnd_nil)) rfl rfl) ?_
    refine .nil ?_
    have hS1 : S j (st.ext [⟨137, [pl (.int .i64 x.From), pl (.int .i64 x.Many)]⟩] []) := hE j st _ hS
    refine al_keep [(0, _), (4, _), (5, _), (6, _), (7, _)] ⟨lg (lx (ls rfl (ls rfl (ls rfl oz)))), lg (lx lz), lg (lx (ls rfl (ls rfl (ls rfl (os rfl oz))))), lg (lx (ls rfl (ls rfl (ls rfl (os rfl (os rfl oz)))))), lg (lx (ls rfl (ls rfl (ls rfl (os rfl (os rfl (os rfl oz))))))), trivial⟩ ?_
    refine al_seq ?_
    refine al_region (by decide) ?_
    refine rys _ rfl (opD_move oz) ?_
    refine rys _ rfl (opD_load_aggX (qs := [_, _]) ag137_SR1 sz137_SR1 (ls rfl (os rfl oz)) (loc_getN (i := 0) rfl rfl) (Nat.le_of_ble_eq_true rfl) rfl) ?_
    refine .yld (xs := [.tmp 12]) (ps := [agg (kStx.cs x)]) (N := S (j + 1)) (X := X) rfl (ls rfl lz) ⟨le_of_eq lz, trivial⟩ (hY j _ _ (by rw [List.getElem?_map, hx]; rfl) hS1) (fun s' hs' => ?_) (fun c s' hs' => ?_)
    · refine rys _ rfl (opD_not lz) ?_
      refine .nil ?_
      refine al_keep [(0, _), (5, _), (6, _), (7, _), (14, _)] ⟨lg (ls rfl (ls rfl (ls rfl (ls rfl oz)))), lg (ls rfl (ls rfl (ls rfl (ls rfl (os rfl (os rfl oz)))))), lg (ls rfl (ls rfl (ls rfl (ls rfl (os rfl (os rfl (os rfl oz))))))), lg (ls rfl (ls rfl (ls rfl (ls rfl (os rfl (os rfl (os rfl (os rfl oz)))))))), lg lz, trivial⟩ ?_
      refine al_cond _ (os rfl (os rfl (os rfl (os rfl oz)))) (fun hc => by cases hc) (fun _ => ?_)
      refine al_of_aw (aw_skip ?_)
      refine al_of_aw ?_
      refine aw_region (by decide) ?_
      refine rts _ rfl (opD_add (os rfl (os rfl (os rfl oz))) (ev_const _ _) (r := ((j + 1 : Nat) : Int)) (by rw [wrap_i64 (by omega)]; omega)) ?_
      refine rts _ rfl (opD_move lz) ?_
      refine .nil ?_
      exact ⟨n - 1, by omega, j + 1, by omega, hs', ⟨le_of_eq (eg (ls rfl (ls rfl oz))), le_of_eq (eg (ls rfl (ls rfl (os rfl oz)))), le_of_eq (eg (ls rfl (ls rfl (os rfl (os rfl oz))))), le_of_eq (eg lz), trivial⟩⟩
    · refine rts _ rfl (opD_not lz) ?_
      refine .nil ?_
      refine aw_keep [(14, _)] ⟨lg lz, trivial⟩ ?_
      refine aw_cond _ oz (fun _ => ?_) (fun hc => by cases hc)
      exact aw_ret ⟨.inr rfl, hs'⟩
  · have hge : j = l.length := by have := of_decide_eq_false hc; omega
    refine al_of_aw (aw_exit ?_)
    subst hge
    exact ⟨.inl rfl, hS⟩

/-! ### AppendSeq, Collect -/
/-- The version of a row that is handed out. -/
def CV : Nat := 281474976710658
set_option maxRecDepth 100000 in
set_option maxHeartbeats 2000000 in
theorem c_apseq {l : List Stx} {b : Nat} {s : St} (hl : l.length * 16 ≤ 140737488355328) (hB : s.boxes[b]? = some ⟨48, [sl kStx none none l]⟩) :
    AC Go.Proofs.Tryd.prog 209 [pl (.slice none 0 0), fncs 184 [ptr b 0]] s (hsl s.boxes.length CV 0 l.length kStx.sz) (s.ext [⟨hot 137 CV, flat kStx l⟩, ⟨48, []⟩] []) := by
  refine ac_of_aw (s.boxes.length + 2) s.fr.length Go.Proofs.Tryd.func209 rfl (by simp [Go.Proofs.Tryd.ntmps209]) ?_
  refine aw_hotnil kStx (te := 137) (r := CV - 2 * l.length) rfl 0 ez ?_
  refine aw_keep [(0, hsl (s.boxes.length + 0) (CV - 2 * l.length) 0 ([] : List Stx).length kStx.sz), (1, _)] ⟨lg lz, lg (ls rfl (es ez)), trivial⟩ ?_
  refine aw_seq ?_
  refine aw_region (by decide) ?_
  refine rts _ rfl (boxON (n := 1) rfl oz (one_hsl _ _ _ _ _) (hsl_bnd _ (by show _ < _; omega)) rfl rfl) ?_
  refine rts _ rfl (opD_assign (ev_const _ _)) ?_
  refine .nil ?_
  refine aw_keep [(1, _), (2, _)] ⟨lg (ls rfl (ls rfl (os rfl oz))), lg (ls rfl lz), trivial⟩ ?_
  refine aw_seq (aw_seq ?_)
  refine aw_region (by decide) ?_
  refine rts _ rfl (opD_move oz) ?_
  refine .nil ?_
  refine aw_keep [(2, ptr (s.boxes.length + 1) 0), (6, _)] ⟨lg (ls rfl (os rfl oz)), lg lz, trivial⟩ ?_
  refine aw_block ?_
  refine aw_wkN rfl 2 0 rfl rfl ?_
  refine aw_rangeSeqE (C := fun s1 => s1.boxes[b]? = some ⟨48, [sl kStx none none l]⟩) (ys := l.map fun x => [agg (kStx.cs x)])
    (fun j s1 => ∃ bs, s1 = s.ext (⟨hot 137 (CV - 2 * l.length + 2 * j), flat kStx (l.take j)⟩ :: ⟨48, [hsl (s.boxes.length + 0) (CV - 2 * l.length + 2 * j) 0 (l.take j).length kStx.sz]⟩ :: bs) []) (fun _ _ => False)
    (le_of_eq (os rfl oz)) ht184_SR1 (by decide) (c_valit (by omega)) (fun j s1 ⟨bs, h⟩ => by subst h; exact old_get hB) (fun j s1 B ⟨bs, h⟩ => ⟨bs ++ [B], by subst h; rw [ext_ext]; rfl⟩) (fun j qs s1 hj ⟨bs, h⟩ => ?_) ⟨[], rfl⟩ (fun s' hs' => ?_) (fun c s' h => h.elim)
  · subst h
    rw [List.getElem?_map] at hj
    cases hx : l[j]? with
    | none => rw [hx] at hj; cases hj
    | some x =>
    rw [hx] at hj
    obtain rfl : qs = [agg (kStx.cs x)] := (Option.some.inj hj).symm
    have hjl := (List.getElem?_eq_some_iff.1 hx).1
    refine ⟨rfl, ?_⟩
    show AW _ _ _ _ ((Env.of [(2, ptr (s.boxes.length + 1) 0), (6, fncs 184 [ptr b 0])]).put (some 7) (agg (kStx.cs x))) _
    refine aw_region (by decide) ?_
    refine rts _ rfl (allocN (n := bs.length + 2) rfl zt137_SR1 rfl rfl) ?_
    refine rts _ rfl (storeAN (i := bs.length + 2) (B := ⟨137, [pl (.int .i64 0), pl (.int .i64 0)]⟩) (cs' := kStx.cs x) (bs' := ⟨hot 137 (CV - 2 * l.length + 2 * j), flat kStx (l.take j)⟩ :: ⟨48, [hsl (s.boxes.length + 0) (CV - 2 * l.length + 2 * j) 0 (l.take j).length kStx.sz]⟩ :: (bs ++ [⟨137, kStx.cs x⟩])) rfl sz137_SR1 lz (ls rfl lz) (ones_cons (one_pl rfl) (ones_cons (one_pl rfl) ones_nil)) (by simp) rfl (Nat.le_of_ble_eq_true rfl) (List.cons_ne_nil _ _) (bnd_cons (pl_bnd _ _ _) (bnd_cons (pl_bnd _ _ _) bnd_nil)) rfl (by simp)) ?_
    refine .nil ?_
    have g1 : (⟨hot 137 (CV - 2 * l.length + 2 * j), flat kStx (l.take j)⟩ :: ⟨48, [hsl (s.boxes.length + 0) (CV - 2 * l.length + 2 * j) 0 (l.take j).length kStx.sz]⟩ :: (bs ++ [⟨137, kStx.cs x⟩]))[bs.length + 2]? = some (⟨137, kStx.cs x⟩ : Bx) := by simp
    refine aw_keep [(2, _), (5, _)] ⟨lg (lx (ls rfl (ls rfl oz))), lg (lx lz), trivial⟩ ?_
    refine aw_block ?_
    refine aw_region (by decide) ?_
    refine rts _ rfl (opD_load_one ag48_SR1 oz (loc_getN rfl rfl) rfl) ?_
    refine rts _ rfl (opD_load_aggX (qs := [_, _]) ag137_SR1 sz137_SR1 (ls rfl (os rfl oz)) (loc_getN rfl g1) (Nat.le_of_ble_eq_true rfl) rfl) ?_
    refine rts _ rfl (opD_buildSlice (k := kStx) [x] Go.Proofs.Tryd.underlying48 sz137_SR1 zt137_SR1 (by decide) rfl (parts_cons (cellsA lz) parts_nil) rfl rfl) ?_
    refine rts _ rfl (appendHN (i := 0) (k := kStx) rfl Go.Proofs.Tryd.underlying48 el137_SR1 rfl (by unfold CV; omega) (by unfold CV; omega) (ls rfl (ls rfl lz)) lz rfl kb_Stx ?_ ?_ rfl) ?_
    · rw [List.length_take, Nat.min_eq_left (by omega)]
      show (j + 1) * 16 ≤ _
      omega
    · rw [List.length_take, Nat.min_eq_left (by omega)]
      show j + 1 ≤ _
      omega
    refine rts _ rfl (storeON (i := 1) rfl sz48_SR1 (ls rfl (ls rfl (ls rfl (ls rfl oz)))) (le_of_eq lz) (one_hsl _ _ _ _ _) rfl (Nat.le_of_ble_eq_true rfl) (hsl_bnd _ (by simp only [List.length_cons, List.length_set]; omega)) rfl rfl) ?_
    refine .nil ?_
    refine ⟨bs ++ [⟨137, kStx.cs x⟩], ?_⟩
    rw [List.take_add_one, hx, show CV - 2 * l.length + 2 * (j + 1) = CV - 2 * l.length + 2 * j + 2 by omega]
    rfl
  · rw [List.length_map] at hs'
    obtain ⟨bs, rfl⟩ := hs'
    rw [List.take_length, show CV - 2 * l.length + 2 * l.length = CV by unfold CV; omega]
    refine wk_yesN rfl (l := [(2, ptr (s.boxes.length + 1) 0)]) (bs' := [⟨hot 137 CV, flat kStx l⟩, ⟨48, [hsl (s.boxes.length + 0) CV 0 l.length kStx.sz]⟩]) (j := 0) ⟨le_of_eq (eg oz), trivial⟩ (bnd_cons (ptr_bnd _ (by omega)) bnd_nil) (Nat.zero_le _) rfl (bxle_same (bxle_same bxle_nil)) rfl rfl (bl_cons (flatKB kb_Stx) (bl_cons (bnd_cons (hsl_bnd _ (by omega)) bnd_nil) bl_nil)) ?_
    refine aw_keep [(2, _)] ⟨lg oz, trivial⟩ ?_
    refine aw_seq ?_
    refine aw_region (by decide) ?_
    refine rts _ rfl (opD_load_one ag48_SR1 oz (loc_getN rfl rfl) rfl) ?_
    refine rts _ rfl (opD_assign lz) ?_
    refine .nil ?_
    refine aw_keep [(4, _)] ⟨lg lz, trivial⟩ ?_
    refine aw_kill (bs' := [⟨hot 137 CV, flat kStx l⟩, ⟨48, []⟩]) ⟨rfl, .inl rfl, rfl, .inr rfl, trivial⟩ ?_
    refine aw_ret ?_
    exact done_updLN (l := []) (n := s.boxes.length + 2) rfl trivial (.inr rfl) ((res_one rfl (it_tmp oz)).le (Pd.le_refl _)) (hsl_bnd _ (by omega)) (bl_cons (flatKB kb_Stx) (bl_cons bnd_nil bl_nil))

set_option maxRecDepth 100000 in
set_option maxHeartbeats 2000000 in
theorem c_collect {l : List Stx} {b : Nat} {s : St} (hl : l.length * 16 ≤ 140737488355328) (hB : s.boxes[b]? = some ⟨48, [sl kStx none none l]⟩) :
    AC Go.Proofs.Tryd.prog 182 [fncs 184 [ptr b 0]] s (hsl s.boxes.length CV 0 l.length kStx.sz) (s.ext [⟨hot 137 CV, flat kStx l⟩, ⟨48, []⟩] []) := by
  refine ac_of_aw (s.boxes.length + 2) s.fr.length Go.Proofs.Tryd.func182 rfl (by simp [Go.Proofs.Tryd.ntmps182]) ?_
  refine aw_seq ?_
  refine aw_region (by decide) ?_
  refine rts _ rfl (opD_assign (ev_const _ _)) ?_
  refine .nil ?_
  refine aw_keep [(0, _)] ⟨lg (ls rfl ez), trivial⟩ ?_
  refine aw_seq ?_
  refine aw_region (by decide) ?_
  refine rts _ rfl (opD_move oz) ?_
  refine rts _ rfl (opD_call (xs := [.const (.slice none 0 0), .tmp 3]) ht209_SR1 (c_apseq hl hB) ⟨le_of_eq (ev_const _ _), le_of_eq lz, trivial⟩) ?_
  refine rts _ rfl (opD_assign lz) ?_
  refine .nil ?_
  refine aw_keep [(2, _)] ⟨lg lz, trivial⟩ ?_
  refine aw_ret ?_
  exact done_updLN (l := []) (n := s.boxes.length + 2) rfl trivial (.inr rfl) ((res_one rfl (it_tmp oz)).le (Pd.le_refl _)) (hsl_bnd _ (by omega)) (bl_cons (flatKB kb_Stx) (bl_cons bnd_nil bl_nil))

/-! ### The sort -/
def ecx (x : Stx) : List Value := [.int .i64 x.From, .int .i64 x.Many]
def xcf (a b : Stx) : Int := Lib.compareInt a.From b.From
theorem xlt (x y : Stx) : ltOf xcf x y = decide (x.From < y.From) := by
  unfold ltOf xcf Lib.compareInt
  by_cases h1 : x.From < y.From
  · simp [h1]
  · by_cases h2 : y.From < x.From <;> simp [h1, h2]
theorem xswo : SWO (ltOf xcf) where
  irrefl x := by rw [xlt]; simp
  trans x y z h1 h2 := by rw [xlt] at *; simp at *; omega
  ntrans x y z h1 h2 := by rw [xlt] at *; simp at *; omega
def srtA (d : Array Stx) : Array Stx := pdq (ltOf xcf) d 0 d.size (Lib.bitLen d.size) true true
/-- As the sort lays them. -/
def srt (l : List Stx) : List Stx := (srtA l.toArray).toList
theorem srtA_spec (d : Array Stx) : PermIn 0 d.size d (srtA d) ∧ SortedIn (ltOf xcf) 0 d.size (srtA d) := pdq_sorts (ltOf xcf) xswo d 0 d.size (Lib.bitLen d.size) true true (Nat.zero_le _) (Nat.le_refl _) (Or.inl rfl)

theorem srtA_size (d : Array Stx) : (srtA d).size = d.size := (srtA_spec d).1.1
theorem srt_perm (l : List Stx) : (srt l).Perm l := by
  obtain ⟨⟨h1, _, h3⟩, _⟩ := srtA_spec l.toArray
  have e1 : (srtA l.toArray).extract 0 l.toArray.size = srtA l.toArray := by rw [← h1]; exact Array.extract_size
  have e2 : l.toArray.extract 0 l.toArray.size = l.toArray := Array.extract_size
  rw [e1, e2] at h3
  simpa [srt] using h3
theorem srt_len (l : List Stx) : (srt l).length = l.length := (srt_perm l).length_eq
theorem srt_asc (l : List Stx) : (srt l).Pairwise (fun a b => a.From ≤ b.From) := by
  obtain ⟨⟨h1, _, _⟩, h2⟩ := srtA_spec l.toArray
  rw [List.pairwise_iff_getElem]
  intro i j hi hj hij
  have hsz : (srt l).length = (srtA l.toArray).size := by simp [srt]
  have := h2 i j (Nat.zero_le _) hij (by rw [← h1]; omega)
  rw [xlt, getElem!_pos _ _ (by omega), getElem!_pos _ _ (by omega)] at this
  have h3 := of_decide_eq_false this
  have g1 : (srt l)[i] = (srtA l.toArray)[i]'(by omega) := by simp [srt]
  have g2 : (srt l)[j] = (srtA l.toArray)[j]'(by omega) := by simp [srt]
  rw [g1, g2]
  omega

set_option maxHeartbeats 1000000 in
theorem clos (x y : Stx) (W : World) : Calls Go.Proofs.Tryd.prog 144 #[.agg #[.int .i64 x.From, .int .i64 x.Many], .agg #[.int .i64 y.From, .int .i64 y.Many]] W fun e w' => e = .returned (.int .i64 (Lib.compareInt x.From y.From)) ∧ ∃ q os', w' = grow (W.drewN q) os' := by
  have hcon := fun W' => Any.cmp_Compare_int lay122 x.From y.From W'
  change ∀ W', Calls Go.Proofs.Tryd.prog 145 _ _ _ at hcon
  generalize Lib.compareInt x.From y.From = r at hcon ⊢
  go_enter Go.Proofs.Tryd.func144, Go.Proofs.Tryd.ntmps144
  go_wp2_with (go_at_call 145; refine (hcon _).mono ?_; rintro e w' ⟨rfl, rfl⟩)
  go_ret
  exact ⟨rfl, 0, _, by rw [alloc_eq_grow, alloc_eq_grow, grow_grow]; rfl⟩
theorem c_sortfunc {i r : Nat} {l : List Stx} {s : St} (hr : 2 ≤ r) (hev : r % 2 = 0) (hB : s.boxes[i]? = some ⟨hot 137 r, flat kStx l⟩) (hl : l.length < 4611686018427387904) :
    AC Go.Proofs.Tryd.prog 183 [hsl i r 0 l.length kStx.sz, pl (.func (.func 144) #[] #[])] s (pl (.tuple #[])) ⟨s.boxes.set i ⟨hot 137 r, flat kStx (srt l)⟩, s.fr, s.stat⟩ := by
  have eg0 : ∀ args w, (callFunc 144 args).run Go.Proofs.Tryd.prog w = .ok (.enter 144 args) w := enters_of Go.Proofs.Tryd.func144 (by kernel_rfl) rfl
  have aE : ∀ w, (isAgg (sortStx_ren.t 24)).run Go.Proofs.Tryd.prog w = .ok true w := fun w => by kernel_rfl
  have zE : ∀ w, (Go.sizeOf (sortStx_ren.t 24)).run Go.Proofs.Tryd.prog w = .ok 2 w := fun w => by kernel_rfl
  have hC : ∀ (blk cap : Nat) (d : Array Stx) (w : World), HoldsK ecx kStx.sz w blk 0 d → blk < w.heap.size → d.size < 4611686018427387904 → Calls Go.Proofs.Tryd.prog 183 #[.slice (some ⟨blk, 0, none⟩) d.size cap, .func (.func 144) #[] #[]] w fun e w' => e = .returned (.tuple #[]) ∧ ∃ n os, w' = sortWorldK ecx kStx.sz w blk 0 n (srtA d) os := fun blk cap d w h1 h2 h3 =>
    AnyQ.slices_SortFunc_eq sortStx 2 aE zE ecx (fun _ => rfl) (fun x v hv => by simp [ecx] at hv; rcases hv with rfl | rfl <;> rfl) xcf xswo 144 #[] blk 0 cap d w eg0 (fun _ _ _ _ x y => clos x y _) h1 h2 h3
  refine ac_sort (F := srtA) (enc := ecx) (fun _ => rfl) kb_Stx srtA_size hC (fun A w => ?_) rfl hr hev (by decide) hB hl
  refine (AnyF.slices_SortFunc_none sortStx A 0 _ w).mono ?_
  rintro e w' ⟨rfl, rfl⟩
  exact ⟨rfl, 0, #[], by rw [grow_empty]; rfl⟩

/-! ### SortedFunc, sorted -/
set_option maxRecDepth 100000 in
set_option maxHeartbeats 2000000 in
theorem c_sortedf {l : List Stx} {b : Nat} {s : St} (hl : l.length * 16 ≤ 140737488355328) (hB : s.boxes[b]? = some ⟨48, [sl kStx none none l]⟩) :
    AC Go.Proofs.Tryd.prog 142 [fncs 184 [ptr b 0], pl (.func (.func 144) #[] #[])] s (hsl s.boxes.length CV 0 l.length kStx.sz) (s.ext [⟨hot 137 CV, flat kStx (srt l)⟩, ⟨48, []⟩] []) := by
  refine ac_of_aw (s.boxes.length + 2) s.fr.length Go.Proofs.Tryd.func142 rfl (by simp [Go.Proofs.Tryd.ntmps142]) ?_
  refine aw_seq ?_
  refine aw_region (by decide) ?_
  refine rts _ rfl (opD_assign (ev_const _ _)) ?_
  refine .nil ?_
  refine aw_keep [(0, _), (1, _)] ⟨lg (ls rfl ez), lg (ls rfl (es ez)), trivial⟩ ?_
  refine aw_seq ?_
  refine aw_region (by decide) ?_
  refine rts _ rfl (opD_move oz) ?_
  refine rts _ rfl (opD_call (xs := [.tmp 6]) ht182_SR1 (c_collect hl hB) ⟨le_of_eq lz, trivial⟩) ?_
  refine rts _ rfl (opD_assign lz) ?_
  refine .nil ?_
  refine aw_keep [(1, _), (5, hsl (s.boxes.length + 0) CV 0 l.length kStx.sz)] ⟨lg (ls rfl (ls rfl (ls rfl (os rfl oz)))), lg lz, trivial⟩ ?_
  refine aw_seq ?_
  refine aw_region (by decide) ?_
  refine rts _ rfl (opD_move (os rfl oz)) ?_
  refine rts _ rfl (opD_move (ls rfl oz)) ?_
  refine rts _ rfl (opD_to (X' := s.ext [⟨hot 137 CV, flat kStx (srt l)⟩, ⟨48, []⟩] []) (opD_call (xs := [.tmp 8, .tmp 9]) ht183_SR1 (c_sortfunc (i := s.boxes.length + 0) (by decide) (by decide) (loc_getN (i := 0) rfl rfl) (by omega)) ⟨le_of_eq (ls rfl lz), le_of_eq lz, trivial⟩) (ul_loc (k := 0) rfl rfl rfl)) ?_
  refine .nil ?_
  refine aw_keep [(5, _)] ⟨lg (ls rfl (ls rfl (ls rfl (os rfl oz)))), trivial⟩ ?_
  refine aw_seq ?_
  refine aw_region (by decide) ?_
  refine rts _ rfl (opD_move oz) ?_
  refine rts _ rfl (opD_assign lz) ?_
  refine .nil ?_
  refine aw_keep [(4, _)] ⟨lg lz, trivial⟩ ?_
  refine aw_ret ?_
  exact done_updLN (l := []) (n := s.boxes.length + 2) rfl trivial (.inr rfl) ((res_one rfl (it_tmp oz)).le (Pd.le_refl _)) (hsl_bnd _ (by omega)) (bl_cons (flatKB kb_Stx) (bl_cons bnd_nil bl_nil))
def F_sorted (l : List Stx) : Option (List Stx) := grd (Fits 16 l.length) (some (srt l))
set_option maxRecDepth 100000 in
set_option maxHeartbeats 2000000 in
theorem c_sorted {l R : List Stx} {s : St} {N : Nat} (h0 : F_sorted l = some R) (hNs : s.boxes.length = N) : AC Go.Proofs.Tryd.prog 91 [sl kStx none none l] s (hsl (N + 1) 281474976710658 0 R.length kStx.sz) (s.ext [⟨48, []⟩, ⟨hot 137 281474976710658, flat kStx R⟩, ⟨48, []⟩] []) := by
  subst hNs
  unfold F_sorted at h0
  replace h0 := grd_some h0
  obtain ⟨hl, h0⟩ := h0
  obtain rfl := some_of h0
  rw [srt_len]
  refine ac_of_aw (s.boxes.length + 3) s.fr.length Go.Proofs.Tryd.func91 rfl (by simp [Go.Proofs.Tryd.ntmps91]) ?_
  refine aw_seq ?_
  refine aw_region (by decide) ?_
  refine rts _ rfl (opD_assign (ev_const _ _)) ?_
  refine .nil ?_
  refine aw_keep [(0, _)] ⟨lg (ls rfl ez), trivial⟩ ?_
  refine aw_seq ?_
  refine aw_region (by decide) ?_
  refine rts _ rfl (opD_move oz) ?_
  refine rts _ rfl (opD_call (xs := [.tmp 3]) ht143_SR1 c_vals ⟨le_of_eq lz, trivial⟩) ?_
  refine rts _ rfl (opD_call (xs := [.tmp 4, .func 144]) ht142_SR1 (c_sortedf (b := s.boxes.length) hl.1 (loc_getN (i := 0) rfl rfl)) ⟨le_of_eq lz, le_of_eq (ev_func _ _), trivial⟩) ?_
  refine rts _ rfl (opD_assign lz) ?_
  refine .nil ?_
  rw [ext_ext, ext_boxes_length]
  refine aw_keep [(2, hsl (s.boxes.length + 1) CV 0 l.length kStx.sz)] ⟨lg lz, trivial⟩ ?_
  refine aw_kill (bs := [⟨48, [sl kStx none none l]⟩, ⟨hot 137 CV, flat kStx (srt l)⟩, ⟨48, []⟩]) (bs' := [⟨48, []⟩, ⟨hot 137 CV, flat kStx (srt l)⟩, ⟨48, []⟩]) ⟨rfl, .inr rfl, rfl, .inl rfl, rfl, .inl rfl, trivial⟩ ?_
  refine aw_ret ?_
  exact done_updLN (l := []) (n := s.boxes.length + 3) rfl trivial (.inr rfl) ((res_one rfl (it_tmp oz)).le (Pd.le_refl _)) (hsl_bnd _ (by omega)) (bl_cons bnd_nil (bl_cons (flatKB kb_Stx) (bl_cons bnd_nil bl_nil)))
end Go.Proofs.YtjbgddpaclcjfaaDoor.Eng.A
