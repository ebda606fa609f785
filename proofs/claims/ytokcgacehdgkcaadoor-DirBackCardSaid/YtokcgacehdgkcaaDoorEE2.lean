/- EE2: what functions do, walked; used by the laws of this seat. -/
import Derived.Test.YtokcgacehdgkcaaDoorEE1
import Derived.Test.YtokcgacehdgkcaaDoorEngX4
import Derived.Test.YtokcgacehdgkcaaDoorEX9
import Derived.Shelf.SlSortCmp.WholeK
import Derived.Shelf.Small.Wraps
import Derived.Shelf.Small.Bits
import Derived.Shelf.SlSortCmp.NoneTotal
import Derived.WalkKit
namespace Go.Proofs.YtokcgacehdgkcaaDoor.Eng.A
set_option linter.unusedVariables false
set_option linter.unusedSimpArgs false
open Go.RowKit Go.Proofs.YtokcgacehdgkcaaDoor.Plain Go.Proofs.YtokcgacehdgkcaaDoor.Eng Go.Proofs.YtokcgacehdgkcaaDoor.Eng.Pk Go.Proofs.YtokcgacehdgkcaaDoor.Eng.Rd

theorem ag79_SR1 : aggT Tryd.prog 79 = some false := by kernel_rfl
theorem sz79_SR1 : sizeT Tryd.prog 79 = some 1 := by kernel_rfl
theorem ag114_SR1 : aggT Tryd.prog 114 = some true := by kernel_rfl
theorem sz114_SR1 : sizeT Tryd.prog 114 = some 2 := by kernel_rfl
theorem zt114_SR1 : zeroT Tryd.prog 114 = some [.int .i64 0, .int .i64 0] := by kernel_rfl
theorem el114_SR1 : elT Tryd.prog 114 = some (2, 16) := by kernel_rfl
theorem ht137_SR1 : hasText Tryd.prog 137 = true := by kernel_rfl
theorem ht174_SR1 : hasText Tryd.prog 174 = true := by kernel_rfl
theorem ht201_SR1 : hasText Tryd.prog 201 = true := by kernel_rfl
theorem ht172_SR1 : hasText Tryd.prog 172 = true := by kernel_rfl
theorem ht136_SR1 : hasText Tryd.prog 136 = true := by kernel_rfl
theorem ht173_SR1 : hasText Tryd.prog 173 = true := by kernel_rfl
open Go.Shelf
def sortStx_ren : Go.Shelf.Ren := ⟨fun | 6 => 173 | 15 => 119 | 14 => 202 | 28 => 159 | 29 => 160 | 20 => 216 | 21 => 217 | 22 => 218 | 23 => 219 | 24 => 220 | 25 => 221 | 26 => 222 | 27 => 223 | 46 => 235 | 47 => 186 | 48 => 187 | 49 => 236 | 50 => 237 | 57 => 242 | n => n, fun | 22 => 79 | 24 => 114 | 25 => 231 | 3 => 3 | 39 => 211 | 0 => 0 | 53 => 266 | 55 => 56 | 4 => 4 | 46 => 258 | 45 => 257 | 50 => 263 | 5 => 5 | 9 => 9 | 66 => 286 | 70 => 290 | 76 => 311 | 77 => 312 | n => n, fun | n => n⟩
theorem sortStx : Go.Proofs.SlLaysF0.n6 Tryd.prog sortStx_ren := {
  mixed := by kernel_rfl
  f6 := ⟨Tryd.f173.name, by decide, Tryd.func173.trans (congrArg some (by kernel_rfl))⟩
  f14 := ⟨Tryd.f202.name, by decide, Tryd.func202.trans (congrArg some (by kernel_rfl))⟩
  f15 := Tryd.func119.trans (congrArg some (by kernel_rfl))
  f20 := ⟨Tryd.f216.name, by decide, Tryd.func216.trans (congrArg some (by kernel_rfl))⟩
  f21 := ⟨Tryd.f217.name, by decide, Tryd.func217.trans (congrArg some (by kernel_rfl))⟩
  f22 := ⟨Tryd.f218.name, by decide, Tryd.func218.trans (congrArg some (by kernel_rfl))⟩
  f23 := ⟨Tryd.f219.name, by decide, Tryd.func219.trans (congrArg some (by kernel_rfl))⟩
  f24 := ⟨Tryd.f220.name, by decide, Tryd.func220.trans (congrArg some (by kernel_rfl))⟩
  f25 := ⟨Tryd.f221.name, by decide, Tryd.func221.trans (congrArg some (by kernel_rfl))⟩
  f26 := ⟨Tryd.f222.name, by decide, Tryd.func222.trans (congrArg some (by kernel_rfl))⟩
  f27 := ⟨Tryd.f223.name, by decide, Tryd.func223.trans (congrArg some (by kernel_rfl))⟩
  f28 := Tryd.func159.trans (congrArg some (by kernel_rfl))
  f29 := Tryd.func160.trans (congrArg some (by kernel_rfl))
  f46 := ⟨Tryd.f235.name, by decide, Tryd.func235.trans (congrArg some (by kernel_rfl))⟩
  f47 := Tryd.func186.trans (congrArg some (by kernel_rfl))
  f48 := Tryd.func187.trans (congrArg some (by kernel_rfl))
  f49 := ⟨Tryd.f236.name, by decide, Tryd.func236.trans (congrArg some (by kernel_rfl))⟩
  f50 := ⟨Tryd.f237.name, by decide, Tryd.func237.trans (congrArg some (by kernel_rfl))⟩
  f57 := ⟨Tryd.f242.name, by decide, Tryd.func242.trans (congrArg some (by kernel_rfl))⟩
  t0 := Tryd.underlying0
  a0 := Tryd.isAgg0
  z0 := Tryd.sizeOf0
  v0 := Tryd.zeroValue0
  t3 := Tryd.underlying3
  a3 := Tryd.isAgg3
  z3 := Tryd.sizeOf3
  v3 := Tryd.zeroValue3
  t4 := Tryd.underlying4
  a4 := Tryd.isAgg4
  z4 := Tryd.sizeOf4
  v4 := Tryd.zeroValue4
  t5 := Tryd.underlying5
  a5 := Tryd.isAgg5
  z5 := Tryd.sizeOf5
  v5 := Tryd.zeroValue5
  t9 := Tryd.underlying9
  a9 := Tryd.isAgg9
  z9 := Tryd.sizeOf9
  v9 := Tryd.zeroValue9
  t22 := Tryd.underlying79
  a22 := Tryd.isAgg79
  z22 := Tryd.sizeOf79
  v22 := Tryd.zeroValue79
  t25 := Tryd.underlying231
  a25 := Tryd.isAgg231
  z25 := Tryd.sizeOf231
  v25 := Tryd.zeroValue231
  t39 := Tryd.underlying211
  a39 := Tryd.isAgg211
  z39 := Tryd.sizeOf211
  v39 := Tryd.zeroValue211
  t45 := Tryd.underlying257
  a45 := Tryd.isAgg257
  z45 := Tryd.sizeOf257
  v45 := Tryd.zeroValue257
  t46 := Tryd.underlying258
  a46 := Tryd.isAgg258
  z46 := Tryd.sizeOf258
  v46 := Tryd.zeroValue258
  t50 := Tryd.underlying263
  a50 := Tryd.isAgg263
  z50 := Tryd.sizeOf263
  v50 := Tryd.zeroValue263
  t53 := Tryd.underlying266
  a53 := Tryd.isAgg266
  z53 := Tryd.sizeOf266
  v53 := Tryd.zeroValue266
  t55 := Tryd.underlying56
  a55 := Tryd.isAgg56
  z55 := Tryd.sizeOf56
  v55 := Tryd.zeroValue56
  t66 := Tryd.underlying286
  a66 := Tryd.isAgg286
  z66 := Tryd.sizeOf286
  v66 := Tryd.zeroValue286
  t70 := Tryd.underlying290
  a70 := Tryd.isAgg290
  z70 := Tryd.sizeOf290
  v70 := Tryd.zeroValue290
  t76 := Tryd.underlying311
  a76 := Tryd.isAgg311
  z76 := Tryd.sizeOf311
  v76 := Tryd.zeroValue311
  t77 := Tryd.underlying312
  a77 := Tryd.isAgg312
  z77 := Tryd.sizeOf312
  v77 := Tryd.zeroValue312 }
def lay122_ren : Go.Shelf.Ren := ⟨fun | 122 => 139 | 215 => 175 | n => n, fun | 3 => 3 | 4 => 4 | n => n, fun | n => n⟩
theorem lay122 : Go.Proofs.Lays.n122 Tryd.prog lay122_ren := {
  mixed := by kernel_rfl
  f122 := Tryd.func139.trans (congrArg some (by kernel_rfl))
  f215 := Tryd.func175.trans (congrArg some (by kernel_rfl))
  t3 := Tryd.underlying3
  a3 := Tryd.isAgg3
  z3 := Tryd.sizeOf3
  v3 := Tryd.zeroValue3
  t4 := Tryd.underlying4
  a4 := Tryd.isAgg4
  z4 := Tryd.sizeOf4
  v4 := Tryd.zeroValue4 }


open Go.Shelf Go.Lib Go.Sort
/-! ### Values -/
set_option maxRecDepth 100000 in
set_option maxHeartbeats 2000000 in
theorem c_vals {l : List Stx} {s : St} : AC Tryd.prog 137 [sl kStx none none l] s (fncs 174 [ptr s.boxes.length 0]) (s.ext [⟨79, [sl kStx none none l]⟩] []) := by
  refine ac_of_aw (s.boxes.length + 1) s.fr.length Tryd.func137 rfl (by simp [Tryd.ntmps137]) ?_
  refine aw_ext0 ?_
  refine aw_seq ?_
  refine aw_region (by decide) ?_
  refine rts _ rfl (boxON rfl ez (one_sl _ _ _ _) (sl_b kb_Stx) rfl rfl) ?_
  refine rts _ rfl (opD_assign (ev_const _ _)) ?_
  refine .nil ?_
  refine aw_keep [(1, _)] ⟨lg (ls rfl lz), trivial⟩ ?_
  refine aw_seq ?_
  refine aw_region (by decide) ?_
  refine rts _ rfl (opD_makeFuncs (xs := [.tmp 1]) (qs := [_]) ⟨le_of_eq oz, trivial⟩) ?_
  refine rts _ rfl (opD_assign lz) ?_
  refine .nil ?_
  refine aw_keep [(2, _)] ⟨lg lz, trivial⟩ ?_
  refine aw_ret ?_
  exact done_updLN (l := []) (n := s.boxes.length + 1) rfl trivial (.inr rfl) ((res_one rfl (it_tmp oz)).le zLr) (fncs_bnd fun q hq => by rw [List.mem_singleton] at hq; subst hq; exact ptr_bnd _ (Nat.lt_succ_self _)) fun B hB q hq => by
    rw [List.mem_singleton] at hB; subst hB
    rw [List.mem_singleton] at hq; subst hq
    exact sl_b kb_Stx

set_option maxRecDepth 100000 in
set_option maxHeartbeats 2000000 in
theorem c_valit {l : List Stx} {b : Nat} (hl : l.length ≤ 140737488355328) : ItSeqE Tryd.prog 174 [ptr b 0] (fun s => s.boxes[b]? = some ⟨79, [sl kStx none none l]⟩) (l.map fun x => [agg (kStx.cs x)]) := by
  intro lb rec g0 w0 S X s hC hE hY h0
  rw [List.length_map]
  refine it_of_al Tryd.func174 rfl (by simp [Tryd.ntmps174]) rfl ?_
  refine al_seq (al_of_aw ?_)
  refine aw_region (by decide) ?_
  refine rts _ rfl (opD_load_one ag79_SR1 (es ez) (hC 0 s h0) rfl) ?_
  refine rts _ rfl (opD_len_sl Tryd.underlying79 lz) ?_
  refine rts _ rfl (opD_move (ev_const _ _)) ?_
  refine .nil ?_
  refine al_keep [(0, pl (.func (.yield lb) #[] #[])), (5, sl kStx none none l), (6, pl (.int .i64 (l.length : Int))), (7, pl (.int .i64 ((0 : Nat) : Int)))] ⟨lg (ls rfl (ls rfl (ls rfl ez))), lg (ls rfl (ls rfl lz)), lg (ls rfl lz), lg lz, trivial⟩ ?_
  refine al_block ?_
  refine al_loop (fun n e st => ∃ j : Nat, j + n = l.length ∧ S j st ∧ Holds e [(0, pl (.func (.yield lb) #[] #[])), (5, sl kStx none none l), (6, pl (.int .i64 (l.length : Int))), (7, pl (.int .i64 (j : Int)))]) l.length ⟨0, by omega, h0, ⟨le_of_eq (eg oz), le_of_eq (eg (os rfl oz)), le_of_eq (eg (os rfl (os rfl oz))), le_of_eq (eg (os rfl (os rfl (os rfl oz)))), trivial⟩⟩ ?_
  rintro n e st ⟨j, hj, hS, hH⟩
  refine al_keep _ hH ?_
  refine al_seq (al_of_aw ?_)
  refine aw_region (by decide) ?_
  refine rts _ rfl (opD_lss (os rfl (os rfl (os rfl oz))) (os rfl (os rfl oz))) ?_
  refine .nil ?_
  refine al_keep [(0, _), (5, _), (6, _), (7, _), (8, _)] ⟨lg (ls rfl oz), lg (ls rfl (os rfl oz)), lg (ls rfl (os rfl (os rfl oz))), lg (ls rfl (os rfl (os rfl (os rfl oz)))), lg lz, trivial⟩ ?_
  refine al_seq (al_cond _ (os rfl (os rfl (os rfl (os rfl oz)))) (fun hc => ?_) (fun hc => ?_))
  · have hlt : j < l.length := by have := of_decide_eq_true hc; omega
    have hx := List.getElem?_eq_getElem hlt
    generalize l[j] = x at hx
    refine al_of_aw (aw_skip ?_)
    refine al_seq ?_
    refine al_block ?_
    refine al_seq (al_of_aw (aw_ext0 ?_))
    refine aw_region (by decide) ?_
    refine rts _ rfl (opD_indexAddr_sl (i := j) Tryd.underlying79 sz114_SR1 (os rfl oz) (os rfl (os rfl (os rfl oz))) rfl hlt) ?_
    refine rts _ rfl (opD_load_el_aggX (qs := [_, _]) ag114_SR1 sz114_SR1 lz hx (zNb rfl) rfl) ?_
    refine rts _ rfl (allocN rfl zt114_SR1 rfl rfl) ?_
    refine rts _ rfl (storeAN (i := 0) rfl sz114_SR1 lz (ls rfl lz) (ones_cons (one_pl rfl) (ones_cons (one_pl rfl) ones_nil)) rfl rfl (zNb rfl) (List.cons_ne_nil _ _) (zbc zPb (zbc zPb bnd_nil)) rfl rfl) ?_
    refine .nil ?_
    have hS1 : S j (st.ext [⟨114, [pl (.int .i64 x.From), pl (.int .i64 x.Many)]⟩] []) := hE j st _ hS
    refine al_keep [(0, _), (4, _), (5, _), (6, _), (7, _)] ⟨lg (lx (ls rfl (ls rfl (ls rfl oz)))), lg (lx lz), lg (lx (ls rfl (ls rfl (ls rfl (os rfl oz))))), lg (lx (ls rfl (ls rfl (ls rfl (os rfl (os rfl oz)))))), lg (lx (ls rfl (ls rfl (ls rfl (os rfl (os rfl (os rfl oz))))))), trivial⟩ ?_
    refine al_seq ?_
    refine al_region (by decide) ?_
    refine rys _ rfl (opD_move oz) ?_
    refine rys _ rfl (opD_load_aggX (qs := [_, _]) ag114_SR1 sz114_SR1 (ls rfl (os rfl oz)) (loc_getN (i := 0) rfl rfl) (zNb rfl) rfl) ?_
    refine .yld (xs := [.tmp 12]) (ps := [agg (kStx.cs x)]) (N := S (j + 1)) (X := X) rfl (ls rfl lz) ⟨le_of_eq lz, trivial⟩ (hY j _ _ (by rw [List.getElem?_map, hx]; rfl) hS1) (fun s' hs' => ?_) (fun c s' hs' => ?_)
    · refine rys _ rfl (opD_not lz) ?_
      refine .nil ?_
      refine al_keep [(0, _), (5, _), (6, _), (7, _), (14, _)] ⟨lg (ls rfl (ls rfl (ls rfl (ls rfl oz)))), lg (ls rfl (ls rfl (ls rfl (ls rfl (os rfl (os rfl oz)))))), lg (ls rfl (ls rfl (ls rfl (ls rfl (os rfl (os rfl (os rfl oz))))))), lg (ls rfl (ls rfl (ls rfl (ls rfl (os rfl (os rfl (os rfl (os rfl oz)))))))), lg lz, trivial⟩ ?_
      refine al_cond _ (os rfl (os rfl (os rfl (os rfl oz)))) (fun hc => by cases hc) (fun _ => ?_)
      refine al_of_aw (aw_skip ?_)
      refine al_of_aw ?_
      refine aw_region (by decide) ?_
      refine rts _ rfl (opD_add (os rfl (os rfl (os rfl oz))) (ev_const _ _) (r := ((j + 1 : Nat) : Int)) (by rw [wrap_i64 (by omega)]; omega)) ?_
      refine rts _ rfl (opD_move lz) ?_
      refine .nil ?_
      exact ⟨n - 1, by omega, j + 1, by omega, hs', ⟨le_of_eq (eg (ls rfl (ls rfl oz))), le_of_eq (eg (ls rfl (ls rfl (os rfl oz)))), le_of_eq (eg (ls rfl (ls rfl (os rfl (os rfl oz))))), le_of_eq (eg lz), trivial⟩⟩
    · refine rts _ rfl (opD_not lz) ?_
      refine .nil ?_
      refine aw_keep [(14, _)] ⟨lg lz, trivial⟩ ?_
      refine aw_cond _ oz (fun _ => ?_) (fun hc => by cases hc)
      exact aw_ret ⟨.inr rfl, hs'⟩
  · have hge : j = l.length := by have := of_decide_eq_false hc; omega
    refine al_of_aw (aw_exit ?_)
    subst hge
    exact ⟨.inl rfl, hS⟩

/-! ### AppendSeq, Collect -/
/-- The version of a row that is handed out. -/
def CV : Nat := 281474976710658
set_option maxRecDepth 100000 in
set_option maxHeartbeats 2000000 in
theorem c_apseq {l : List Stx} {b : Nat} {s : St} (hl : l.length * 16 ≤ 140737488355328) (hB : s.boxes[b]? = some ⟨79, [sl kStx none none l]⟩) :
    AC Tryd.prog 201 [pl (.slice none 0 0), fncs 174 [ptr b 0]] s (hsl s.boxes.length CV 0 l.length kStx.sz) (s.ext [⟨hot 114 CV, flat kStx l⟩, ⟨79, []⟩] []) := by
  refine ac_of_aw (s.boxes.length + 2) s.fr.length Tryd.func201 rfl (by simp [Tryd.ntmps201]) ?_
  refine aw_hotnil kStx (te := 114) (r := CV - 2 * l.length) rfl 0 ez ?_
  refine aw_keep [(0, hsl (s.boxes.length + 0) (CV - 2 * l.length) 0 ([] : List Stx).length kStx.sz), (1, _)] ⟨lg lz, lg (ls rfl (es ez)), trivial⟩ ?_
  refine aw_seq ?_
  refine aw_region (by decide) ?_
  refine rts _ rfl (boxON (n := 1) rfl oz (one_hsl _ _ _ _ _) (hsl_bnd _ (by show _ < _; omega)) rfl rfl) ?_
  refine rts _ rfl (opD_assign (ev_const _ _)) ?_
  refine .nil ?_
  refine aw_keep [(1, _), (2, _)] ⟨lg (ls rfl (ls rfl (os rfl oz))), lg (ls rfl lz), trivial⟩ ?_
  refine aw_seq (aw_seq ?_)
  refine aw_region (by decide) ?_
  refine rts _ rfl (opD_move oz) ?_
  refine .nil ?_
  refine aw_keep [(2, ptr (s.boxes.length + 1) 0), (6, _)] ⟨lg (ls rfl (os rfl oz)), lg lz, trivial⟩ ?_
  refine aw_block ?_
  refine aw_wkN rfl 2 0 rfl rfl ?_
  refine aw_rangeSeqE (C := fun s1 => s1.boxes[b]? = some ⟨79, [sl kStx none none l]⟩) (ys := l.map fun x => [agg (kStx.cs x)])
    (fun j s1 => ∃ bs, s1 = s.ext (⟨hot 114 (CV - 2 * l.length + 2 * j), flat kStx (l.take j)⟩ :: ⟨79, [hsl (s.boxes.length + 0) (CV - 2 * l.length + 2 * j) 0 (l.take j).length kStx.sz]⟩ :: bs) []) (fun _ _ => False)
    (le_of_eq (os rfl oz)) ht174_SR1 (by decide) (c_valit (by omega)) (fun j s1 ⟨bs, h⟩ => by subst h; exact old_get hB) (fun j s1 B ⟨bs, h⟩ => ⟨bs ++ [B], by subst h; rw [ext_ext]; rfl⟩) (fun j qs s1 hj ⟨bs, h⟩ => ?_) ⟨[], rfl⟩ (fun s' hs' => ?_) (fun c s' h => h.elim)
  · subst h
    rw [List.getElem?_map] at hj
    cases hx : l[j]? with
    | none => rw [hx] at hj; cases hj
    | some x =>
    rw [hx] at hj
    obtain rfl : qs = [agg (kStx.cs x)] := (Option.some.inj hj).symm
    have hjl := (List.getElem?_eq_some_iff.1 hx).1
    refine ⟨rfl, ?_⟩
    show AW _ _ _ _ ((Env.of [(2, ptr (s.boxes.length + 1) 0), (6, fncs 174 [ptr b 0])]).put (some 7) (agg (kStx.cs x))) _
    refine aw_region (by decide) ?_
    refine rts _ rfl (allocN (n := bs.length + 2) rfl zt114_SR1 rfl rfl) ?_
    refine rts _ rfl (storeAN (i := bs.length + 2) (B := ⟨114, [pl (.int .i64 0), pl (.int .i64 0)]⟩) (cs' := kStx.cs x) (bs' := ⟨hot 114 (CV - 2 * l.length + 2 * j), flat kStx (l.take j)⟩ :: ⟨79, [hsl (s.boxes.length + 0) (CV - 2 * l.length + 2 * j) 0 (l.take j).length kStx.sz]⟩ :: (bs ++ [⟨114, kStx.cs x⟩])) rfl sz114_SR1 lz (ls rfl lz) (ones_cons (one_pl rfl) (ones_cons (one_pl rfl) ones_nil)) (by simp) rfl (zNb rfl) (List.cons_ne_nil _ _) (zbc zPb (zbc zPb bnd_nil)) rfl (by simp)) ?_
    refine .nil ?_
    have g1 : (⟨hot 114 (CV - 2 * l.length + 2 * j), flat kStx (l.take j)⟩ :: ⟨79, [hsl (s.boxes.length + 0) (CV - 2 * l.length + 2 * j) 0 (l.take j).length kStx.sz]⟩ :: (bs ++ [⟨114, kStx.cs x⟩]))[bs.length + 2]? = some (⟨114, kStx.cs x⟩ : Bx) := by simp
    refine aw_keep [(2, _), (5, _)] ⟨lg (lx (ls rfl (ls rfl oz))), lg (lx lz), trivial⟩ ?_
    refine aw_block ?_
    refine aw_region (by decide) ?_
    refine rts _ rfl (opD_load_one ag79_SR1 oz (loc_getN rfl rfl) rfl) ?_
    refine rts _ rfl (opD_load_aggX (qs := [_, _]) ag114_SR1 sz114_SR1 (ls rfl (os rfl oz)) (loc_getN rfl g1) (zNb rfl) rfl) ?_
    refine rts _ rfl (opD_buildSlice (k := kStx) [x] Tryd.underlying79 sz114_SR1 zt114_SR1 (by decide) rfl (parts_cons (cellsA lz) parts_nil) rfl rfl) ?_
    refine rts _ rfl (appendHN (i := 0) (k := kStx) rfl Tryd.underlying79 el114_SR1 rfl (by unfold CV; omega) (by unfold CV; omega) (ls rfl (ls rfl lz)) lz rfl kb_Stx ?_ ?_ rfl) ?_
    · rw [List.length_take, Nat.min_eq_left (by omega)]
      show (j + 1) * 16 ≤ _
      omega
    · rw [List.length_take, Nat.min_eq_left (by omega)]
      show j + 1 ≤ _
      omega
    refine rts _ rfl (storeON (i := 1) rfl sz79_SR1 (ls rfl (ls rfl (ls rfl (ls rfl oz)))) (le_of_eq lz) (one_hsl _ _ _ _ _) rfl (zNb rfl) (hsl_bnd _ (by simp only [List.length_cons, List.length_set]; omega)) rfl rfl) ?_
    refine .nil ?_
    refine ⟨bs ++ [⟨114, kStx.cs x⟩], ?_⟩
    rw [List.take_add_one, hx, show CV - 2 * l.length + 2 * (j + 1) = CV - 2 * l.length + 2 * j + 2 by omega]
    rfl
  · rw [List.length_map] at hs'
    obtain ⟨bs, rfl⟩ := hs'
    rw [List.take_length, show CV - 2 * l.length + 2 * l.length = CV by unfold CV; omega]
    refine wk_yesN rfl (l := [(2, ptr (s.boxes.length + 1) 0)]) (bs' := [⟨hot 114 CV, flat kStx l⟩, ⟨79, [hsl (s.boxes.length + 0) CV 0 l.length kStx.sz]⟩]) (j := 0) ⟨le_of_eq (eg oz), trivial⟩ (zbc (ptr_bnd _ (by omega)) bnd_nil) (Nat.zero_le _) rfl (bxle_same (bxle_same bxle_nil)) rfl rfl (bl_cons (flatKB kb_Stx) (bl_cons (zbc (hsl_bnd _ (by omega)) bnd_nil) bl_nil)) ?_
    refine aw_keep [(2, _)] ⟨lg oz, trivial⟩ ?_
    refine aw_seq ?_
    refine aw_region (by decide) ?_
    refine rts _ rfl (opD_load_one ag79_SR1 oz (loc_getN rfl rfl) rfl) ?_
    refine rts _ rfl (opD_assign lz) ?_
    refine .nil ?_
    refine aw_keep [(4, _)] ⟨lg lz, trivial⟩ ?_
    refine aw_kill (bs' := [⟨hot 114 CV, flat kStx l⟩, ⟨79, []⟩]) ⟨rfl, .inl rfl, rfl, .inr rfl, trivial⟩ ?_
    refine aw_ret ?_
    exact done_updLN (l := []) (n := s.boxes.length + 2) rfl trivial (.inr rfl) ((res_one rfl (it_tmp oz)).le zLr) (hsl_bnd _ (by omega)) (bl_cons (flatKB kb_Stx) (bl_cons bnd_nil bl_nil))

set_option maxRecDepth 100000 in
set_option maxHeartbeats 2000000 in
theorem c_collect {l : List Stx} {b : Nat} {s : St} (hl : l.length * 16 ≤ 140737488355328) (hB : s.boxes[b]? = some ⟨79, [sl kStx none none l]⟩) :
    AC Tryd.prog 172 [fncs 174 [ptr b 0]] s (hsl s.boxes.length CV 0 l.length kStx.sz) (s.ext [⟨hot 114 CV, flat kStx l⟩, ⟨79, []⟩] []) := by
  refine ac_of_aw (s.boxes.length + 2) s.fr.length Tryd.func172 rfl (by simp [Tryd.ntmps172]) ?_
  refine aw_seq ?_
  refine aw_region (by decide) ?_
  refine rts _ rfl (opD_assign (ev_const _ _)) ?_
  refine .nil ?_
  refine aw_keep [(0, _)] ⟨lg (ls rfl ez), trivial⟩ ?_
  refine aw_seq ?_
  refine aw_region (by decide) ?_
  refine rts _ rfl (opD_move oz) ?_
  refine rts _ rfl (opD_call (xs := [.const (.slice none 0 0), .tmp 3]) ht201_SR1 (c_apseq hl hB) ⟨le_of_eq (ev_const _ _), le_of_eq lz, trivial⟩) ?_
  refine rts _ rfl (opD_assign lz) ?_
  refine .nil ?_
  refine aw_keep [(2, _)] ⟨lg lz, trivial⟩ ?_
  refine aw_ret ?_
  exact done_updLN (l := []) (n := s.boxes.length + 2) rfl trivial (.inr rfl) ((res_one rfl (it_tmp oz)).le zLr) (hsl_bnd _ (by omega)) (bl_cons (flatKB kb_Stx) (bl_cons bnd_nil bl_nil))

/-! ### The sort -/
def ecx (x : Stx) : List Value := [.int .i64 x.From, .int .i64 x.Many]
def xcf (a b : Stx) : Int := Lib.compareInt a.From b.From
theorem xlt (x y : Stx) : ltOf xcf x y = decide (x.From < y.From) := by
  unfold ltOf xcf Lib.compareInt
  by_cases h1 : x.From < y.From
  · simp [h1]
  · by_cases h2 : y.From < x.From <;> simp [h1, h2]
theorem xswo : SWO (ltOf xcf) where
  irrefl x := by rw [xlt]; simp
  trans x y z h1 h2 := by rw [xlt] at *; simp at *; omega
  ntrans x y z h1 h2 := by rw [xlt] at *; simp at *; omega
def srtA (d : Array Stx) : Array Stx := pdq (ltOf xcf) d 0 d.size (Lib.bitLen d.size) true true
/-- As the sort lays them. -/
def srt (l : List Stx) : List Stx := (srtA l.toArray).toList
theorem srtA_spec (d : Array Stx) : PermIn 0 d.size d (srtA d) ∧ SortedIn (ltOf xcf) 0 d.size (srtA d) := pdq_sorts (ltOf xcf) xswo d 0 d.size (Lib.bitLen d.size) true true (Nat.zero_le _) (Nat.le_refl _) (Or.inl rfl)

theorem srtA_size (d : Array Stx) : (srtA d).size = d.size := (srtA_spec d).1.1
theorem srt_perm (l : List Stx) : (srt l).Perm l := by
  obtain ⟨⟨h1, _, h3⟩, _⟩ := srtA_spec l.toArray
  have e1 : (srtA l.toArray).extract 0 l.toArray.size = srtA l.toArray := by rw [← h1]; exact Array.extract_size
  have e2 : l.toArray.extract 0 l.toArray.size = l.toArray := Array.extract_size
  rw [e1, e2] at h3
  simpa [srt] using h3
theorem srt_len (l : List Stx) : (srt l).length = l.length := (srt_perm l).length_eq
theorem srt_asc (l : List Stx) : (srt l).Pairwise (fun a b => a.From ≤ b.From) := by
  obtain ⟨⟨h1, _, _⟩, h2⟩ := srtA_spec l.toArray
  rw [List.pairwise_iff_getElem]
  intro i j hi hj hij
  have hsz : (srt l).length = (srtA l.toArray).size := by simp [srt]
  have := h2 i j (Nat.zero_le _) hij (by rw [← h1]; omega)
  rw [xlt, getElem!_pos _ _ (by omega), getElem!_pos _ _ (by omega)] at this
  have h3 := of_decide_eq_false this
  have g1 : (srt l)[i] = (srtA l.toArray)[i]'(by omega) := by simp [srt]
  have g2 : (srt l)[j] = (srtA l.toArray)[j]'(by omega) := by simp [srt]
  rw [g1, g2]
  omega

set_option maxHeartbeats 1000000 in
theorem clos (x y : Stx) (W : World) : Calls Tryd.prog 138 #[.agg #[.int .i64 x.From, .int .i64 x.Many], .agg #[.int .i64 y.From, .int .i64 y.Many]] W fun e w' => e = .returned (.int .i64 (Lib.compareInt x.From y.From)) ∧ ∃ q os', w' = grow (W.drewN q) os' := by
  have hcon := fun W' => Any.cmp_Compare_int lay122 x.From y.From W'
  change ∀ W', Calls Tryd.prog 139 _ _ _ at hcon
  generalize Lib.compareInt x.From y.From = r at hcon ⊢
  go_enter Tryd.func138, Tryd.ntmps138
  go_wp2_with (go_at_call 139; refine (hcon _).mono ?_; rintro e w' ⟨rfl, rfl⟩)
  go_ret
  exact ⟨rfl, 0, _, by rw [alloc_eq_grow, alloc_eq_grow, grow_grow]; rfl⟩
theorem c_sortfunc {i r : Nat} {l : List Stx} {s : St} (hr : 2 ≤ r) (hev : r % 2 = 0) (hB : s.boxes[i]? = some ⟨hot 114 r, flat kStx l⟩) (hl : l.length < 4611686018427387904) :
    AC Tryd.prog 173 [hsl i r 0 l.length kStx.sz, pl (.func (.func 138) #[] #[])] s (pl (.tuple #[])) ⟨s.boxes.set i ⟨hot 114 r, flat kStx (srt l)⟩, s.fr, s.stat⟩ := by
  have eg0 : ∀ args w, (callFunc 138 args).run Tryd.prog w = .ok (.enter 138 args) w := enters_of Tryd.func138 (by kernel_rfl) rfl
  have aE : ∀ w, (isAgg (sortStx_ren.t 24)).run Tryd.prog w = .ok true w := fun w => by kernel_rfl
  have zE : ∀ w, (Go.sizeOf (sortStx_ren.t 24)).run Tryd.prog w = .ok 2 w := fun w => by kernel_rfl
  have hC : ∀ (blk cap : Nat) (d : Array Stx) (w : World), HoldsK ecx kStx.sz w blk 0 d → blk < w.heap.size → d.size < 4611686018427387904 → Calls Tryd.prog 173 #[.slice (some ⟨blk, 0, none⟩) d.size cap, .func (.func 138) #[] #[]] w fun e w' => e = .returned (.tuple #[]) ∧ ∃ n os, w' = sortWorldK ecx kStx.sz w blk 0 n (srtA d) os := fun blk cap d w h1 h2 h3 =>
    AnyQ.slices_SortFunc_eq sortStx 2 aE zE ecx (fun _ => rfl) (fun x v hv => by simp [ecx] at hv; rcases hv with rfl | rfl <;> rfl) xcf xswo 138 #[] blk 0 cap d w eg0 (fun _ _ _ _ x y => clos x y _) h1 h2 h3
  refine ac_sort (F := srtA) (enc := ecx) (fun _ => rfl) kb_Stx srtA_size hC (fun A w => ?_) rfl hr hev (by decide) hB hl
  refine (AnyF.slices_SortFunc_none sortStx A 0 _ w).mono ?_
  rintro e w' ⟨rfl, rfl⟩
  exact ⟨rfl, 0, #[], by rw [grow_empty]; rfl⟩

/-! ### SortedFunc, sorted -/
set_option maxRecDepth 100000 in
set_option maxHeartbeats 2000000 in
theorem c_sortedf {l : List Stx} {b : Nat} {s : St} (hl : l.length * 16 ≤ 140737488355328) (hB : s.boxes[b]? = some ⟨79, [sl kStx none none l]⟩) :
    AC Tryd.prog 136 [fncs 174 [ptr b 0], pl (.func (.func 138) #[] #[])] s (hsl s.boxes.length CV 0 l.length kStx.sz) (s.ext [⟨hot 114 CV, flat kStx (srt l)⟩, ⟨79, []⟩] []) := by
  refine ac_of_aw (s.boxes.length + 2) s.fr.length Tryd.func136 rfl (by simp [Tryd.ntmps136]) ?_
  refine aw_seq ?_
  refine aw_region (by decide) ?_
  refine rts _ rfl (opD_assign (ev_const _ _)) ?_
  refine .nil ?_
  refine aw_keep [(0, _), (1, _)] ⟨lg (ls rfl ez), lg (ls rfl (es ez)), trivial⟩ ?_
  refine aw_seq ?_
  refine aw_region (by decide) ?_
  refine rts _ rfl (opD_move oz) ?_
  refine rts _ rfl (opD_call (xs := [.tmp 6]) ht172_SR1 (c_collect hl hB) ⟨le_of_eq lz, trivial⟩) ?_
  refine rts _ rfl (opD_assign lz) ?_
  refine .nil ?_
  refine aw_keep [(1, _), (5, hsl (s.boxes.length + 0) CV 0 l.length kStx.sz)] ⟨lg (ls rfl (ls rfl (ls rfl (os rfl oz)))), lg lz, trivial⟩ ?_
  refine aw_seq ?_
  refine aw_region (by decide) ?_
  refine rts _ rfl (opD_move (os rfl oz)) ?_
  refine rts _ rfl (opD_move (ls rfl oz)) ?_
  refine rts _ rfl (opD_to (X' := s.ext [⟨hot 114 CV, flat kStx (srt l)⟩, ⟨79, []⟩] []) (opD_call (xs := [.tmp 8, .tmp 9]) ht173_SR1 (c_sortfunc (i := s.boxes.length + 0) (by decide) (by decide) (loc_getN (i := 0) rfl rfl) (by omega)) ⟨le_of_eq (ls rfl lz), le_of_eq lz, trivial⟩) (ul_loc (k := 0) rfl rfl rfl)) ?_
  refine .nil ?_
  refine aw_keep [(5, _)] ⟨lg (ls rfl (ls rfl (ls rfl (os rfl oz)))), trivial⟩ ?_
  refine aw_seq ?_
  refine aw_region (by decide) ?_
  refine rts _ rfl (opD_move oz) ?_
  refine rts _ rfl (opD_assign lz) ?_
  refine .nil ?_
  refine aw_keep [(4, _)] ⟨lg lz, trivial⟩ ?_
  refine aw_ret ?_
  exact done_updLN (l := []) (n := s.boxes.length + 2) rfl trivial (.inr rfl) ((res_one rfl (it_tmp oz)).le zLr) (hsl_bnd _ (by omega)) (bl_cons (flatKB kb_Stx) (bl_cons bnd_nil bl_nil))
def F_sorted (l : List Stx) : Option (List Stx) := grd (Fits 16 l.length) (some (srt l))
set_option maxRecDepth 100000 in
set_option maxHeartbeats 2000000 in
theorem c_sorted {l R : List Stx} {s : St} {N : Nat} (h0 : F_sorted l = some R) (hNs : s.boxes.length = N) : AC Tryd.prog 102 [sl kStx none none l] s (hsl (N + 1) 281474976710658 0 R.length kStx.sz) (s.ext [⟨79, []⟩, ⟨hot 114 281474976710658, flat kStx R⟩, ⟨79, []⟩] []) := by
  subst hNs
  unfold F_sorted at h0
  replace h0 := grd_some h0
  obtain ⟨hl, h0⟩ := h0
  obtain rfl := some_of h0
  rw [srt_len]
  refine ac_of_aw (s.boxes.length + 3) s.fr.length Tryd.func102 rfl (by simp [Tryd.ntmps102]) ?_
  refine aw_seq ?_
  refine aw_region (by decide) ?_
  refine rts _ rfl (opD_assign (ev_const _ _)) ?_
  refine .nil ?_
  refine aw_keep [(0, _)] ⟨lg (ls rfl ez), trivial⟩ ?_
  refine aw_seq ?_
  refine aw_region (by decide) ?_
  refine rts _ rfl (opD_move oz) ?_
  refine rts _ rfl (opD_call (xs := [.tmp 3]) ht137_SR1 c_vals ⟨le_of_eq lz, trivial⟩) ?_
  refine rts _ rfl (opD_call (xs := [.tmp 4, .func 138]) ht136_SR1 (c_sortedf (b := s.boxes.length) hl.1 (loc_getN (i := 0) rfl rfl)) ⟨le_of_eq lz, le_of_eq (ev_func _ _), trivial⟩) ?_
  refine rts _ rfl (opD_assign lz) ?_
  refine .nil ?_
  rw [ext_ext, ext_boxes_length]
  refine aw_keep [(2, hsl (s.boxes.length + 1) CV 0 l.length kStx.sz)] ⟨lg lz, trivial⟩ ?_
  refine aw_kill (bs := [⟨79, [sl kStx none none l]⟩, ⟨hot 114 CV, flat kStx (srt l)⟩, ⟨79, []⟩]) (bs' := [⟨79, []⟩, ⟨hot 114 CV, flat kStx (srt l)⟩, ⟨79, []⟩]) ⟨rfl, .inr rfl, rfl, .inl rfl, rfl, .inl rfl, trivial⟩ ?_
  refine aw_ret ?_
  exact done_updLN (l := []) (n := s.boxes.length + 3) rfl trivial (.inr rfl) ((res_one rfl (it_tmp oz)).le zLr) (hsl_bnd _ (by omega)) (bl_cons bnd_nil (bl_cons (flatKB kb_Stx) (bl_cons bnd_nil bl_nil)))
end Go.Proofs.YtokcgacehdgkcaaDoor.Eng.A
