/- EH2: what functions do, walked; used by the laws of this seat. -/
import Derived.Test.YtmnhfpcbfdgbcaaDoorEH1
import Derived.Test.YtmnhfpcbfdgbcaaDoorEX6
import Derived.Test.YtmnhfpcbfdgbcaaDoorEW3
import Derived.Test.YtmnhfpcbfdgbcaaDoorEX7
namespace Go.Proofs.YtmnhfpcbfdgbcaaDoor.Eng.Hb
set_option linter.unusedVariables false
set_option linter.unusedSimpArgs false
open Go.RowKit Go.Proofs.YtmnhfpcbfdgbcaaDoor.Plain Go.Proofs.YtmnhfpcbfdgbcaaDoor.Eng Go.Proofs.YtmnhfpcbfdgbcaaDoor.Eng.A
def itV (x : Itm) : Value := .agg #[.int .u64 x.Who, .int .u64 x.No, .int .u64 x.Space, .int .u64 x.Gen, .int .u64 x.Txn]
def K1 : MK (Int × Int) Itm := ⟨fun k => .agg #[.int .u64 k.1, .int .u64 k.2], itV⟩
def K2 : MK Int Int := ⟨fun n => .int .u64 n, fun n => .int .u64 n⟩
theorem ag22 : aggT Go.Proofs.Tryd.prog 22 = some false := by kernel_rfl
theorem chk22 (b : Bool) (n : Nat) (x : Int) (w : World) : (Instr.checkKey b (n + 1) 22 (.int .u64 x)).run Go.Proofs.Tryd.prog w = .ok () w :=
  MapKept.run_checkKey Go.Proofs.Tryd.underlying22 (by simp [MapKept.IsKey]) b n
theorem chk1 (b : Bool) (k : Int × Int) (w : World) : (Instr.checkKey b 10000 198 (K1.ek k)).run Go.Proofs.Tryd.prog w = .ok () w := by
  show (Instr.checkKey b (9998 + 1 + 1) 198 _).run _ w = _
  rw [Instr.checkKey]
  simp only [Sem.run_bind, run_underlying Go.Proofs.Tryd.underlying198, Result.andThen, K1]
  simp [Result.andThen, run_part_one ag22, chk22]
end Go.Proofs.YtmnhfpcbfdgbcaaDoor.Eng.Hb
namespace Go.Proofs.YtmnhfpcbfdgbcaaDoor.Eng.Hb
set_option linter.unusedVariables false
set_option linter.unusedSimpArgs false
open Go.RowKit Go.Proofs.YtmnhfpcbfdgbcaaDoor.Plain Go.Proofs.YtmnhfpcbfdgbcaaDoor.Eng Go.Proofs.YtmnhfpcbfdgbcaaDoor.Eng.A
set_option maxRecDepth 100000 in
theorem eq1 (a b : Int × Int) (w : World) : (Op.equal 198 (K1.ek a) (K1.ek b)).run Go.Proofs.Tryd.prog w = .ok (decide (a = b)) w := by
  have h := eqn (P := Go.Proofs.Tryd.prog) (t := 198) (xs := #[.int .u64 a.1, .int .u64 a.2]) (ys := #[.int .u64 b.1, .int .u64 b.2]) (w := w) (d := 9999) Go.Proofs.Tryd.underlying198 (by kernel_rfl)
    (eqf_cons (by decide) (run_part_one ag22 rfl w) (run_part_one ag22 rfl w) (run_equalIn_int w _ _ _ _ _ _ Go.Proofs.Tryd.underlying22) (eqf_cons (by decide) (run_part_one ag22 rfl w) (run_part_one ag22 rfl w) (run_equalIn_int w _ _ _ _ _ _ Go.Proofs.Tryd.underlying22) eqf_nil))
  have h0 : Op.equal 198 (K1.ek a) (K1.ek b) = Op.equalIn (9999 + 1) 198 (.agg #[.int .u64 a.1, .int .u64 a.2]) (.agg #[.int .u64 b.1, .int .u64 b.2]) := rfl
  rw [h0, h]
  congr 1
  obtain ⟨a1, a2⟩ := a
  obtain ⟨b1, b2⟩ := b
  rw [show (a1 == b1) = decide (a1 = b1) from rfl, show (a2 == b2) = decide (a2 = b2) from rfl, Bool.and_true, ← Bool.decide_and]
  exact decide_eq_decide.2 (by simp)
theorem ask1 (k : Int × Int) (w : World) : ∀ (l : List ((Int × Int) × Itm)) (es : List MapEntry) (i : Nat), es.map (·.key) = l.map (fun x => K1.ek x.1) → (Instr.findAsking 198 (K1.ek k) es i).run Go.Proofs.Tryd.prog w = .ok ((mIdx l k).bind fun j => (es[j]?).map fun e => (i + j, e.val)) w
  | [], [], i, h => by simp [Instr.findAsking, mIdx]
  | [], e :: es, i, h => by simp at h
  | x :: l, [], i, h => by simp at h
  | x :: l, e :: es, i, h => by
    simp only [List.map_cons, List.cons.injEq] at h
    rw [Instr.findAsking]
    simp only [Sem.run_bind, h.1, eq1, Result.andThen]
    by_cases hk : k = x.1
    · subst hk
      simp [mIdx, List.findIdx?_cons]
    · have ih := ask1 k w l es (i + 1) h.2
      rw [decide_eq_false hk]
      simp only [Bool.false_eq_true, if_false, ih]
      congr 1
      unfold mIdx
      rw [List.findIdx?_cons, if_neg (by simpa using fun h => hk h.symm)]
      cases List.findIdx? (fun x => decide (x.1 = k)) l with
      | none => rfl
      | some j => simp; congr 1; funext e; congr 1; omega
theorem kl1 : KL Go.Proofs.Tryd.prog 198 K1 := ⟨chk1, fun k l es w h => by
  have hn : ∀ es : List MapEntry, es ≠ [] → Instr.findNow (.struct #[{ name := "who", type := 22, offset := 0, embedded := false, tag := "", pkgPath := "warren/handle", byteOffset := 0 }, { name := "no", type := 22, offset := 1, embedded := false, tag := "", pkgPath := "warren/handle", byteOffset := 8 }]) (K1.ek k) es 0 = none := fun es hes => by
    cases es with
    | nil => exact absurd rfl hes
    | cons e es => rfl
  have ha := ask1 k w l es 0 h
  simp only [Nat.zero_add] at ha
  cases es with
  | nil =>
    cases l with
    | nil => simp [Instr.findKey, run_underlying Go.Proofs.Tryd.underlying198, Result.andThen, Instr.findNow, mIdx]
    | cons x l => simp at h
  | cons e es =>
    simp only [Instr.findKey, Sem.run_bind, run_underlying Go.Proofs.Tryd.underlying198, Result.andThen, hn (e :: es) (by simp)]
    exact ha, fun k => by simp [Instr.sameBits, K1]⟩
theorem kl2 : KL Go.Proofs.Tryd.prog 22 K2 := ⟨fun b k w => chk22 b 9999 k w, fun k l es w h => by
  have key : ∀ (l : List (Int × Int)) (es : List MapEntry) (i : Nat), es.map (·.key) = l.map (fun x => K2.ek x.1) → Instr.findNow (.int .u64) (K2.ek k) es i = some ((mIdx l k).bind fun j => (es[j]?).map fun e => (i + j, e.val)) := by
    intro l
    induction l with
    | nil => intro es i h; cases es with
      | nil => simp [Instr.findNow, mIdx]
      | cons e es => simp at h
    | cons x l ih =>
      intro es i h
      cases es with
      | nil => simp at h
      | cons e es =>
        simp only [List.map_cons, List.cons.injEq] at h
        have ih := ih es (i + 1) h.2
        have h1 : e.key = .int .u64 x.1 := h.1
        by_cases hk : k = x.1
        · subst hk
          simp [Instr.findNow, h1, K2, Instr.sameNow, mIdx, List.findIdx?_cons]
        · simp [Instr.findNow, h1, K2, Instr.sameNow, hk] at ih ⊢
          have hb : (k == x.1) = false := by simpa using hk
          rw [ih]
          simp only [hb]
          congr 1
          unfold mIdx
          rw [List.findIdx?_cons, if_neg (by simpa using fun h => hk h.symm)]
          cases List.findIdx? (fun x => decide (x.1 = k)) l with
          | none => rfl
          | some j => simp; congr 1; funext e; congr 1; omega
  have := key l es 0 h
  simp only [Nat.zero_add] at this
  exact MapKept.run_findKey Go.Proofs.Tryd.underlying22 this, fun k => by simp [Instr.sameBits, K2]⟩
end Go.Proofs.YtmnhfpcbfdgbcaaDoor.Eng.Hb

namespace Go.Proofs.YtmnhfpcbfdgbcaaDoor.Eng.Hc
set_option linter.unusedVariables false
set_option linter.unusedSimpArgs false
open Go.RowKit Go.Proofs.YtmnhfpcbfdgbcaaDoor.Plain Go.Proofs.YtmnhfpcbfdgbcaaDoor.Eng

theorem ag137 : aggT Go.Proofs.Tryd.prog 137 = some true := by kernel_rfl
theorem sz137 : sizeT Go.Proofs.Tryd.prog 137 = some 5 := by kernel_rfl
theorem zt137 : zeroT Go.Proofs.Tryd.prog 137 = some [.int .u64 0, .int .u64 0, .int .u64 0, .int .u64 0, .int .u64 0] := by kernel_rfl
theorem fo201_0 : fieldOff Go.Proofs.Tryd.prog 201 0 = some 0 := by kernel_rfl
theorem ag196 : aggT Go.Proofs.Tryd.prog 196 = some false := by kernel_rfl
theorem pt198 : placesT Go.Proofs.Tryd.prog 198 2 = some [(0, 1), (1, 1)] := by kernel_rfl
theorem zt198 : zeroT Go.Proofs.Tryd.prog 198 = some [.int .u64 0, .int .u64 0] := by kernel_rfl
theorem pt137 : placesT Go.Proofs.Tryd.prog 137 5 = some [(0, 1), (1, 1), (2, 1), (3, 1), (4, 1)] := by kernel_rfl
theorem cc107 : Go.Proofs.Tryd.prog.concrete 107 = true := by kernel_rfl

open Go.Proofs.YtmnhfpcbfdgbcaaDoor.Eng.A Go.Proofs.YtmnhfpcbfdgbcaaDoor.Eng.Hb Go.Proofs.YtmnhfpcbfdgbcaaDoor.Eng.Er Go.Proofs.YtmnhfpcbfdgbcaaDoor.Eng.Rd Go.Proofs.YtmnhfpcbfdgbcaaDoor.Eng.Pk
/-- A table: the map of the handles, the map of the numbers given, the two together. -/
def TBx (g1 g2 : Nat) : Bx := ⟨201, [mref g1, mref g2]⟩
structure Tbl where
  H : List ((Int × Int) × Itm)
  N : List (Int × Int)
def i0 : Itm := ⟨0, 0, 0, 0, 0⟩
def itC (x : Itm) : List Pd := [pl (.int .u64 x.Who), pl (.int .u64 x.No), pl (.int .u64 x.Space), pl (.int .u64 x.Gen), pl (.int .u64 x.Txn)]
theorem key_le (a b : Int) : (agg [pl (.int .u64 a), pl (.int .u64 b)]).le (pl (K1.ek (a, b))) := fun g w v ⟨cs, hv, h⟩ => by
  match hc : cs.toList, h with
  | [x, y], ⟨h1, h2, _⟩ =>
    have : cs = #[x, y] := by cases cs; simp at hc; rw [hc]
    subst this
    rw [show x = _ from h1, show y = _ from h2] at hv
    exact hv
theorem it_le (x : Itm) : (agg (itC x)).le (pl (K1.ev x)) := fun g w v ⟨cs, hv, h⟩ => by
  match hc : cs.toList, h with
  | [a, b, c, d, f], ⟨h1, h2, h3, h4, h5, _⟩ =>
    have : cs = #[a, b, c, d, f] := by cases cs; simp at hc; rw [hc]
    subst this
    rw [show a = _ from h1, show b = _ from h2, show c = _ from h3, show d = _ from h4, show f = _ from h5] at hv
    exact hv
theorem it_ge (x : Itm) : (pl (K1.ev x)).le (agg (itC x)) := fun g w v hv => ⟨_, hv, rfl, rfl, rfl, rfl, rfl, trivial⟩
theorem look_le (x : Itm) (b : Bool) : (pl (.tuple #[K1.ev x, .bool b])).le (tup [agg (itC x), pl (.bool b)]) := fun g w v hv => ⟨_, hv, it_ge x g w _ rfl, rfl, trivial⟩
theorem zero137 (w : World) : (zeroValue 137).run Go.Proofs.Tryd.prog w = .ok (K1.ev i0) w := by
  have h : Go.Proofs.Tryd.t137.zero = some (K1.ev i0) := by kernel_rfl
  simp [zeroValue, h]
theorem zero22 (w : World) : (zeroValue 22).run Go.Proofs.Tryd.prog w = .ok (K2.ev 0) w := by
  have h : Go.Proofs.Tryd.t22.zero = some (K2.ev 0) := by kernel_rfl
  simp [zeroValue, h]
theorem mget_ev {l : List ((Int × Int) × Itm)} {k : Int × Int} : ((mget l k).map K1.ev).getD (K1.ev i0) = K1.ev ((mget l k).getD i0) := by cases mget l k <;> rfl
def hget (l : List ((Int × Int) × Itm)) (who no : Int) : Itm × Option Int := ((mget l (who, no)).getD i0, if (mget l (who, no)).isSome = true then none else some 11)

set_option maxRecDepth 100000 in
set_option maxHeartbeats 1000000 in
theorem t_get {t : Tbl} {who no : Int} {s : St} {g1 g2 gT : Nat} (hB1 : s.boxes[g1]? = some (MB K1 t.H)) (hB2 : s.boxes[g2]? = some (MB K2 t.N)) (hT : s.boxes[gT]? = some (TBx g1 g2)) : AC Go.Proofs.Tryd.prog 75 [ptr gT 0, pl (.int .u64 who), pl (.int .u64 no)] s (tup [agg (itC (hget t.H who no).1), pl (errV (hget t.H who no).2)]) s := by
  refine ac_of_aw s.boxes.length s.fr.length Go.Proofs.Tryd.func75 rfl (by simp [Go.Proofs.Tryd.ntmps75]) ?_
  refine aw_ext0 ?_
  refine aw_keep [(0, _), (1, _), (2, _)] ⟨lg ez, lg (es ez), lg (es (es ez)), trivial⟩ ?_
  refine aw_seq ?_
  refine aw_region (by decide) ?_
  refine rts _ rfl (opD_allocX zt137 (by first | exact List.length_nil | (simp only [List.length_cons, List.length_nil, Nat.zero_add, Nat.reduceAdd]; rfl)) (by simp only [List.nil_append, List.cons_append, List.map_cons, List.map_nil, List.set_cons_zero, List.set_cons_succ, List.take_succ_cons, List.take_zero, List.drop_succ_cons, List.drop_zero]; rfl)) ?_
  refine rts _ rfl (opD_assign (ev_const _ _)) ?_
  refine .nil ?_
  refine aw_keep [(7, _), (6, _), (0, _), (1, _), (2, _)] ⟨lg lz, lg (ls rfl lz), lg (ls rfl (ls rfl oz)), lg (ls rfl (ls rfl (os rfl oz))), lg (ls rfl (ls rfl (os rfl (os rfl oz)))), trivial⟩ ?_
  refine aw_seq ?_
  refine aw_seq ?_
  refine aw_region (by decide) ?_
  refine rts _ rfl (opD_move (os rfl (os rfl oz))) ?_
  refine rts _ rfl ((by first | exact opD_ptr_eqnil Go.Proofs.Tryd.underlying132 lz | exact opD_nilp_eqnil Go.Proofs.Tryd.underlying132 lz)) ?_
  refine .nil ?_
  refine aw_keep [(11, _), (7, _), (6, _), (0, _), (1, _), (2, _)] ⟨lg lz, lg (ls rfl (ls rfl oz)), lg (ls rfl (ls rfl (os rfl oz))), lg (ls rfl (ls rfl (os rfl (os rfl oz)))), lg (ls rfl (ls rfl (os rfl (os rfl (os rfl oz))))), lg (ls rfl (ls rfl (os rfl (os rfl (os rfl (os rfl oz)))))), trivial⟩ ?_
  refine aw_cond _ oz (fun hc => ?_) (fun hc => ?_)
  · skip
    exfalso; revert hc; simp
  · skip
    refine aw_skip ?_
    refine aw_keep [(11, _), (7, _), (6, _), (0, _), (1, _), (2, _)] ⟨lg oz, lg (os rfl oz), lg (os rfl (os rfl oz)), lg (os rfl (os rfl (os rfl oz))), lg (os rfl (os rfl (os rfl (os rfl oz)))), lg (os rfl (os rfl (os rfl (os rfl (os rfl oz))))), trivial⟩ ?_
    refine aw_seq ?_
    refine aw_region (by decide) ?_
    refine rts _ rfl (opD_move (os rfl (os rfl (os rfl oz)))) ?_
    refine rts _ rfl ((by first | exact opD_nilCheck_ptr lz | exact opD_nilCheck_el lz)) ?_
    refine rts _ rfl ((by first | exact opD_fieldAddr fo201_0 lz | exact opD_fieldAddr_el fo201_0 lz)) ?_
    refine rts _ rfl ((by first | exact opD_load_one ag196 lz (by first | exact loc_get rfl | exact old_get (by assumption)) rfl | exact opD_load_el_one ag196 lz (by first | assumption | simp) rfl)) ?_
    refine rts _ rfl (opD_move (ls rfl (ls rfl (ls rfl (ls rfl (os rfl (os rfl (os rfl (os rfl oz))))))))) ?_
    refine rts _ rfl (opD_move (ls rfl (ls rfl (ls rfl (ls rfl (ls rfl (os rfl (os rfl (os rfl (os rfl (os rfl oz))))))))))) ?_
    refine rts _ rfl (opD_build_struct (rs := [_, _]) Go.Proofs.Tryd.underlying198 pt198 zt198 (parts_cons (cells1 (ls rfl lz) (by first | exact one_pl rfl | exact one_sl _ _ _ _ | exact one_ptr _ _ | exact one_ifc _ _)) (parts_cons (cells1 lz (by first | exact one_pl rfl | exact one_sl _ _ _ _ | exact one_ptr _ _ | exact one_ifc _ _)) parts_nil)) rfl) ?_
    refine rts _ rfl (opD_le (opD_lookup (K := K1) (z := K1.ev i0) true Go.Proofs.Tryd.underlying196 kl1 zero137 (ls rfl (ls rfl (ls rfl lz))) ((le_of_eq lz).trans (key_le who no)) (old_get hB1)) ((le_of_eq (by rw [mget_ev]; rfl)).trans (look_le ((mget t.H (who, no)).getD i0) (mget t.H (who, no)).isSome))) ?_
    refine rts _ rfl (opD_move lz) ?_
    refine rts _ rfl (opD_extract lz rfl) ?_
    refine rts _ rfl (opD_extract (ls rfl lz) rfl) ?_
    refine rts _ rfl (opD_allocX zt137 (by first | exact List.length_nil | (simp only [List.length_cons, List.length_nil, Nat.zero_add, Nat.reduceAdd]; rfl)) (by simp only [List.nil_append, List.cons_append, List.map_cons, List.map_nil, List.set_cons_zero, List.set_cons_succ, List.take_succ_cons, List.take_zero, List.drop_succ_cons, List.drop_zero]; rfl)) ?_
    refine rts _ rfl (opD_storeA sz137 lz (ls rfl (ls rfl lz)) (by repeat (first | exact ones_nil | refine ones_cons (by first | exact one_pl rfl | exact one_sl _ _ _ _ | exact one_ptr _ _) ?_)) rfl rfl (Nat.le_of_ble_eq_true rfl) (List.cons_ne_nil _ _) (by repeat (first | exact bnd_nil | refine bnd_cons (by first | exact pl_bnd _ _ _ | exact sl_bnd (kI_bnd _ _ _ _) | exact ptr_bnd _ (by omega)) ?_)) (by simp only [List.nil_append, List.cons_append, List.map_cons, List.map_nil, List.set_cons_zero, List.set_cons_succ, List.take_succ_cons, List.take_zero, List.drop_succ_cons, List.drop_zero]; rfl) (by simp only [List.nil_append, List.cons_append, List.map_cons, List.map_nil, List.set_cons_zero, List.set_cons_succ, List.take_succ_cons, List.take_zero, List.drop_succ_cons, List.drop_zero]; rfl)) ?_
    refine rts _ rfl (opD_assign (lx (ls rfl lz))) ?_
    refine .nil ?_
    refine aw_keep [(9, _), (8, _), (11, _), (7, _), (6, _), (0, _), (1, _), (2, _)] ⟨lg lz, lg (ls rfl (lx lz)), lg (ls rfl (lx (ls rfl (ls rfl (ls rfl (ls rfl (ls rfl (ls rfl (ls rfl (ls rfl (ls rfl (ls rfl (ls rfl (ls rfl oz)))))))))))))), lg (ls rfl (lx (ls rfl (ls rfl (ls rfl (ls rfl (ls rfl (ls rfl (ls rfl (ls rfl (ls rfl (ls rfl (ls rfl (ls rfl (os rfl oz))))))))))))))), lg (ls rfl (lx (ls rfl (ls rfl (ls rfl (ls rfl (ls rfl (ls rfl (ls rfl (ls rfl (ls rfl (ls rfl (ls rfl (ls rfl (os rfl (os rfl oz)))))))))))))))), lg (ls rfl (lx (ls rfl (ls rfl (ls rfl (ls rfl (ls rfl (ls rfl (ls rfl (ls rfl (ls rfl (ls rfl (ls rfl (ls rfl (os rfl (os rfl (os rfl oz))))))))))))))))), lg (ls rfl (lx (ls rfl (ls rfl (ls rfl (ls rfl (ls rfl (ls rfl (ls rfl (ls rfl (ls rfl (ls rfl (ls rfl (ls rfl (os rfl (os rfl (os rfl (os rfl oz)))))))))))))))))), lg (ls rfl (lx (ls rfl (ls rfl (ls rfl (ls rfl (ls rfl (ls rfl (ls rfl (ls rfl (ls rfl (ls rfl (ls rfl (ls rfl (os rfl (os rfl (os rfl (os rfl (os rfl oz))))))))))))))))))), trivial⟩ ?_
    refine aw_seq ?_
    refine aw_seq ?_
    refine aw_region (by decide) ?_
    refine rts _ rfl (opD_move oz) ?_
    refine rts _ rfl (opD_not lz) ?_
    refine .nil ?_
    refine aw_keep [(26, _), (9, _), (8, _), (11, _), (7, _), (6, _), (0, _), (1, _), (2, _)] ⟨lg lz, lg (ls rfl (ls rfl oz)), lg (ls rfl (ls rfl (os rfl oz))), lg (ls rfl (ls rfl (os rfl (os rfl oz)))), lg (ls rfl (ls rfl (os rfl (os rfl (os rfl oz))))), lg (ls rfl (ls rfl (os rfl (os rfl (os rfl (os rfl oz)))))), lg (ls rfl (ls rfl (os rfl (os rfl (os rfl (os rfl (os rfl oz))))))), lg (ls rfl (ls rfl (os rfl (os rfl (os rfl (os rfl (os rfl (os rfl oz)))))))), lg (ls rfl (ls rfl (os rfl (os rfl (os rfl (os rfl (os rfl (os rfl (os rfl oz))))))))), trivial⟩ ?_
    refine aw_cond _ oz (fun hc => ?_) (fun hc => ?_)
    · skip
      have hc' : mget t.H (who, no) = none := by simpa using hc
      rw [show hget t.H who no = (i0, some 11) from by unfold hget; rw [hc']; rfl]
      refine aw_seq ?_
      refine aw_region (by decide) ?_
      refine rts _ rfl (opD_build_struct (rs := [_, _, _, _, _]) Go.Proofs.Tryd.underlying137 pt137 zt137 parts_nil rfl) ?_
      refine rts _ rfl ((by first | exact opD_makeInterface_pl cc107 (ev_const _ _) | exact opD_makeInterface cc107 (ev_const _ _))) ?_
      refine rts _ rfl (opD_storeA sz137 (ls rfl (ls rfl (os rfl (os rfl (os rfl (os rfl (os rfl oz))))))) (ls rfl lz) (by repeat (first | exact ones_nil | refine ones_cons (by first | exact one_pl rfl | exact one_sl _ _ _ _ | exact one_ptr _ _) ?_)) rfl rfl (Nat.le_of_ble_eq_true rfl) (List.cons_ne_nil _ _) (by repeat (first | exact bnd_nil | refine bnd_cons (by first | exact pl_bnd _ _ _ | exact sl_bnd (kI_bnd _ _ _ _) | exact ptr_bnd _ (by omega)) ?_)) (by simp only [List.nil_append, List.cons_append, List.map_cons, List.map_nil, List.set_cons_zero, List.set_cons_succ, List.take_succ_cons, List.take_zero, List.drop_succ_cons, List.drop_zero]; rfl) (by simp only [List.nil_append, List.cons_append, List.map_cons, List.map_nil, List.set_cons_zero, List.set_cons_succ, List.take_succ_cons, List.take_zero, List.drop_succ_cons, List.drop_zero]; rfl)) ?_
      refine rts _ rfl (opD_assign (lx lz)) ?_
      refine .nil ?_
      refine aw_keep [(7, _), (26, _), (9, _), (8, _), (11, _), (6, _), (0, _), (1, _), (2, _)] ⟨lg lz, lg (ls rfl (lx (ls rfl (ls rfl oz)))), lg (ls rfl (lx (ls rfl (ls rfl (os rfl oz))))), lg (ls rfl (lx (ls rfl (ls rfl (os rfl (os rfl oz)))))), lg (ls rfl (lx (ls rfl (ls rfl (os rfl (os rfl (os rfl oz))))))), lg (ls rfl (lx (ls rfl (ls rfl (os rfl (os rfl (os rfl (os rfl (os rfl oz))))))))), lg (ls rfl (lx (ls rfl (ls rfl (os rfl (os rfl (os rfl (os rfl (os rfl (os rfl oz)))))))))), lg (ls rfl (lx (ls rfl (ls rfl (os rfl (os rfl (os rfl (os rfl (os rfl (os rfl (os rfl oz))))))))))), lg (ls rfl (lx (ls rfl (ls rfl (os rfl (os rfl (os rfl (os rfl (os rfl (os rfl (os rfl (os rfl oz)))))))))))), trivial⟩ ?_
      refine aw_ret ?_
      exact done_ext (.inr rfl) (res_c1 (B := ⟨137, _⟩) rfl ag137 sz137 (eg (os rfl (os rfl (os rfl (os rfl (os rfl oz)))))) (loc_get rfl) rfl (eg oz)) (tup_bnd (bnd_cons (agg_bnd (fun p hp => by simp [itC] at hp; rcases hp with h | h | h | h | h <;> subst h <;> exact pl_bnd _ _ _)) (bnd_cons (pl_bnd _ _ _) bnd_nil)))
    · skip
      have hs : (mget t.H (who, no)).isSome = true := by simpa using hc
      rw [show hget t.H who no = ((mget t.H (who, no)).getD i0, none) from by unfold hget; rw [hs]; rfl]
      refine aw_skip ?_
      refine aw_keep [(26, _), (9, _), (8, _), (11, _), (7, _), (6, _), (0, _), (1, _), (2, _)] ⟨lg oz, lg (os rfl oz), lg (os rfl (os rfl oz)), lg (os rfl (os rfl (os rfl oz))), lg (os rfl (os rfl (os rfl (os rfl oz)))), lg (os rfl (os rfl (os rfl (os rfl (os rfl oz))))), lg (os rfl (os rfl (os rfl (os rfl (os rfl (os rfl oz)))))), lg (os rfl (os rfl (os rfl (os rfl (os rfl (os rfl (os rfl oz))))))), lg (os rfl (os rfl (os rfl (os rfl (os rfl (os rfl (os rfl (os rfl oz)))))))), trivial⟩ ?_
      refine aw_seq ?_
      refine aw_region (by decide) ?_
      refine rts _ rfl (opD_load_agg ag137 sz137 (os rfl (os rfl oz)) (loc_get rfl) (Nat.le_refl 5)) ?_
      refine rts _ rfl (opD_storeA sz137 (ls rfl (os rfl (os rfl (os rfl (os rfl (os rfl oz)))))) lz (by repeat (first | exact ones_nil | refine ones_cons (by first | exact one_pl rfl | exact one_sl _ _ _ _ | exact one_ptr _ _) ?_)) rfl rfl (Nat.le_of_ble_eq_true rfl) (List.cons_ne_nil _ _) (by repeat (first | exact bnd_nil | refine bnd_cons (by first | exact pl_bnd _ _ _ | exact sl_bnd (kI_bnd _ _ _ _) | exact ptr_bnd _ (by omega)) ?_)) (by simp only [List.nil_append, List.cons_append, List.map_cons, List.map_nil, List.set_cons_zero, List.set_cons_succ, List.take_succ_cons, List.take_zero, List.drop_succ_cons, List.drop_zero]; rfl) (by simp only [List.nil_append, List.cons_append, List.map_cons, List.map_nil, List.set_cons_zero, List.set_cons_succ, List.take_succ_cons, List.take_zero, List.drop_succ_cons, List.drop_zero]; rfl)) ?_
      refine rts _ rfl (opD_assign (ev_const _ _)) ?_
      refine .nil ?_
      refine aw_keep [(7, _), (26, _), (9, _), (8, _), (11, _), (6, _), (0, _), (1, _), (2, _)] ⟨lg lz, lg (ls rfl (lx (ls rfl oz))), lg (ls rfl (lx (ls rfl (os rfl oz)))), lg (ls rfl (lx (ls rfl (os rfl (os rfl oz))))), lg (ls rfl (lx (ls rfl (os rfl (os rfl (os rfl oz)))))), lg (ls rfl (lx (ls rfl (os rfl (os rfl (os rfl (os rfl (os rfl oz)))))))), lg (ls rfl (lx (ls rfl (os rfl (os rfl (os rfl (os rfl (os rfl (os rfl oz))))))))), lg (ls rfl (lx (ls rfl (os rfl (os rfl (os rfl (os rfl (os rfl (os rfl (os rfl oz)))))))))), lg (ls rfl (lx (ls rfl (os rfl (os rfl (os rfl (os rfl (os rfl (os rfl (os rfl (os rfl oz))))))))))), trivial⟩ ?_
      refine aw_ret ?_
      exact done_ext (.inr rfl) (res_c1 (B := ⟨137, _⟩) rfl ag137 sz137 (eg (os rfl (os rfl (os rfl (os rfl (os rfl oz)))))) (loc_get rfl) rfl (eg oz)) (tup_bnd (bnd_cons (agg_bnd (fun p hp => by simp [itC] at hp; rcases hp with h | h | h | h | h <;> subst h <;> exact pl_bnd _ _ _)) (bnd_cons (pl_bnd _ _ _) bnd_nil)))
end Go.Proofs.YtmnhfpcbfdgbcaaDoor.Eng.Hc


namespace Go.Proofs.YtmnhfpcbfdgbcaaDoor.Eng.Hd
set_option linter.unusedVariables false
set_option linter.unusedSimpArgs false
open Go.RowKit Go.Proofs.YtmnhfpcbfdgbcaaDoor.Plain Go.Proofs.YtmnhfpcbfdgbcaaDoor.Eng

theorem ag137 : aggT Go.Proofs.Tryd.prog 137 = some true := by kernel_rfl
theorem sz137 : sizeT Go.Proofs.Tryd.prog 137 = some 5 := by kernel_rfl
theorem el137 : elT Go.Proofs.Tryd.prog 137 = some (5, 40) := by kernel_rfl
theorem ht117 : hasText Go.Proofs.Tryd.prog 117 = true := by kernel_rfl
theorem fo201_0 : fieldOff Go.Proofs.Tryd.prog 201 0 = some 0 := by kernel_rfl
theorem ag196 : aggT Go.Proofs.Tryd.prog 196 = some false := by kernel_rfl
theorem zt198 : zeroT Go.Proofs.Tryd.prog 198 = some [.int .u64 0, .int .u64 0] := by kernel_rfl
theorem zt137 : zeroT Go.Proofs.Tryd.prog 137 = some [.int .u64 0, .int .u64 0, .int .u64 0, .int .u64 0, .int .u64 0] := by kernel_rfl
theorem sz198 : sizeT Go.Proofs.Tryd.prog 198 = some 2 := by kernel_rfl
theorem fo198_0 : fieldOff Go.Proofs.Tryd.prog 198 0 = some 0 := by kernel_rfl
theorem ag22 : aggT Go.Proofs.Tryd.prog 22 = some false := by kernel_rfl

open Go.Proofs.YtmnhfpcbfdgbcaaDoor.Eng.A Go.Proofs.YtmnhfpcbfdgbcaaDoor.Eng.Hb Go.Proofs.YtmnhfpcbfdgbcaaDoor.Eng.Hc Go.Proofs.YtmnhfpcbfdgbcaaDoor.Eng.Er Go.Proofs.YtmnhfpcbfdgbcaaDoor.Eng.Rd Go.Proofs.YtmnhfpcbfdgbcaaDoor.Eng.Pk
def ofL (l : List ((Int × Int) × Itm)) (who : Int) : List Itm := (l.filter fun x => decide (x.1.1 = who)).map (·.2)
theorem ofL_y {l : List ((Int × Int) × Itm)} {x : (Int × Int) × Itm} {who : Int} (h : x.1.1 = who) : ofL (l ++ [x]) who = ofL l who ++ [x.2] := by simp [ofL, h]
theorem ofL_n {l : List ((Int × Int) × Itm)} {x : (Int × Int) × Itm} {who : Int} (h : ¬ x.1.1 = who) : ofL (l ++ [x]) who = ofL l who := by simp [ofL, h]
theorem ofL_le (l : List ((Int × Int) × Itm)) (who : Int) : (ofL l who).length ≤ l.length := by
  unfold ofL; rw [List.length_map]; exact List.length_filter_le _ _
theorem key_ge (k : Int × Int) : (pl (K1.ek k)).le (agg [pl (.int .u64 k.1), pl (.int .u64 k.2)]) := fun g w v hv => ⟨_, hv, rfl, rfl, trivial⟩
theorem map_snoc {y : ((Int × Int) × Itm) × Nat} (vs : List (((Int × Int) × Itm) × Nat)) : (vs ++ [y]).map (·.2) = vs.map (·.2) ++ [y.2] := by simp
theorem map_snoc1 {y : ((Int × Int) × Itm) × Nat} (vs : List (((Int × Int) × Itm) × Nat)) : (vs ++ [y]).map (·.1) = vs.map (·.1) ++ [y.1] := by simp

set_option maxRecDepth 100000 in
set_option maxHeartbeats 1000000 in
theorem t_of_x {fl c : Nat} {lm : List (((Int × Int) × Itm) × Nat)} {who : Int} {R : List Itm} {s : St} {g1 g2 gT : Nat} (hX : s.boxes[g1]? = some (MX K1 lm c)) (hT : s.boxes[gT]? = some (TBx g1 g2)) (hb : Born lm c) (hn : lm.length ≤ 1000000) (h0 : ∀ vs : List ((Int × Int) × Itm), vs.Perm (lm.map (·.1)) → F_hsort fl (ofL vs who) = some R ∧ (ofL vs who).length = R.length) : AC Go.Proofs.Tryd.prog 78 [ptr gT 0, pl (.int .u64 who)] s (sl kItm none none R) s := by
  have hg1 := get_lt hX
  refine ac_of_aw s.boxes.length s.fr.length Go.Proofs.Tryd.func78 rfl (by simp [Go.Proofs.Tryd.ntmps78]) ?_
  refine aw_ext0 ?_
  refine aw_keep [(0, _), (1, _)] ⟨lg ez, lg (es ez), trivial⟩ ?_
  refine aw_seq ?_
  refine aw_region (by decide) ?_
  refine rts _ rfl (opD_assign (ev_const _ _)) ?_
  refine .nil ?_
  refine aw_keep [(4, _), (0, _), (1, _)] ⟨lg lz, lg (ls rfl oz), lg (ls rfl (os rfl oz)), trivial⟩ ?_
  refine aw_seq ?_
  refine aw_seq ?_
  refine aw_region (by decide) ?_
  refine rts _ rfl (opD_move (os rfl oz)) ?_
  refine rts _ rfl ((by first | exact opD_ptr_eqnil Go.Proofs.Tryd.underlying132 lz | exact opD_nilp_eqnil Go.Proofs.Tryd.underlying132 lz)) ?_
  refine .nil ?_
  refine aw_keep [(9, _), (4, _), (0, _), (1, _)] ⟨lg lz, lg (ls rfl (ls rfl oz)), lg (ls rfl (ls rfl (os rfl oz))), lg (ls rfl (ls rfl (os rfl (os rfl oz)))), trivial⟩ ?_
  refine aw_cond _ oz (fun hc => ?_) (fun hc => ?_)
  · skip
    exfalso; revert hc; simp
  · skip
    refine aw_skip ?_
    refine aw_keep [(9, _), (4, _), (0, _), (1, _)] ⟨lg oz, lg (os rfl oz), lg (os rfl (os rfl oz)), lg (os rfl (os rfl (os rfl oz))), trivial⟩ ?_
    refine aw_seq ?_
    refine aw_region (by decide) ?_
    refine rts _ rfl (nilHN rfl kItm (n := 0) (r := 4) (te := 137) rfl rfl (ev_const _ _) rfl) ?_
    refine .nil ?_
    refine aw_keep [(5, _), (9, _), (4, _), (0, _), (1, _)] ⟨lg lz, lg (ls rfl oz), lg (ls rfl (os rfl oz)), lg (ls rfl (os rfl (os rfl oz))), lg (ls rfl (os rfl (os rfl (os rfl oz)))), trivial⟩ ?_
    refine aw_seq ?_
    refine aw_seq ?_
    refine aw_region (by decide) ?_
    refine rts _ rfl (opD_move (os rfl (os rfl (os rfl oz)))) ?_
    refine rts _ rfl ((by first | exact opD_nilCheck_ptr lz | exact opD_nilCheck_el lz)) ?_
    refine rts _ rfl ((by first | exact opD_fieldAddr fo201_0 lz | exact opD_fieldAddr_el fo201_0 lz)) ?_
    refine rts _ rfl ((by first | exact opD_load_one ag196 lz (by first | exact loc_get rfl | exact old_get (by assumption)) rfl | exact opD_load_el_one ag196 lz (by first | assumption | simp) rfl)) ?_
    refine rts _ rfl (opD_rangeX (K := K1) (n := 1) Go.Proofs.Tryd.underlying196 lz hX rfl rfl) ?_
    refine .nil ?_
    refine aw_keep [(14, _), (5, _), (9, _), (4, _), (0, _), (1, _)] ⟨lg lz, lg (ls rfl (ls rfl (ls rfl (ls rfl (ls rfl oz))))), lg (ls rfl (ls rfl (ls rfl (ls rfl (ls rfl (os rfl oz)))))), lg (ls rfl (ls rfl (ls rfl (ls rfl (ls rfl (os rfl (os rfl oz))))))), lg (ls rfl (ls rfl (ls rfl (ls rfl (ls rfl (os rfl (os rfl (os rfl oz)))))))), lg (ls rfl (ls rfl (ls rfl (ls rfl (ls rfl (os rfl (os rfl (os rfl (os rfl oz))))))))), trivial⟩ ?_
    refine aw_block ?_
    refine aw_loop (fun n e st => ∃ (r : Nat) (ol : List Itm) (vs rem : List (((Int × Int) × Itm) × Nat)), Holds e [(1, pl (.int .u64 who)), (5, hsl (s.boxes.length + 0) r 0 ol.length kItm.sz), (14, ptv (s.boxes.length + 1) 1 0)] ∧ st = s.ext [⟨hot 137 r, flat kItm ol⟩, IT g1 c (vs.map (·.2))] [] ∧ n = rem.length ∧ 2 ≤ r ∧ r % 2 = 0 ∧ (vs ++ rem).Perm lm ∧ ol = ofL (vs.map (·.1)) who) (lm.length) (⟨4, [], [], lm, ⟨le_of_eq (eg (os rfl (os rfl (os rfl (os rfl (os rfl oz)))))), le_of_eq (eg (os rfl oz)), le_of_eq (eg oz), trivial⟩, rfl, rfl, by omega, by omega, List.Perm.refl _, rfl⟩) ?_
    rintro n e st ⟨r, ol, vs, rem, hH, rfl, rfl, hr, hev, hp, hol⟩
    refine aw_keep _ hH ?_
    refine aw_cut (s.boxes.length + 2) (s.fr.length + 0) (by rw [ext_boxes_length]; exact Nat.le_refl _) (by rw [ext_fr_length]; exact Nat.le_refl _) ?_
    refine aw_seq ?_
    refine aw_region_n (by decide) rfl (opN_next (os rfl (os rfl oz)) (loc_get rfl) (old_get hX) hb) ?_
    rintro p s1 (⟨rfl, rfl, hall⟩ | ⟨y, hy, hys, rfl, rfl⟩)
    · skip
      refine rts _ rfl (opD_extract_pl lz (v := .bool false) rfl) ?_
      refine .nil ?_
      refine aw_keep [(16, _), (1, _), (5, _), (14, _)] ⟨lg lz, lg (ls rfl (ls rfl oz)), lg (ls rfl (ls rfl (os rfl oz))), lg (ls rfl (ls rfl (os rfl (os rfl oz)))), trivial⟩ ?_
      refine aw_seq ?_
      refine aw_cond _ oz (fun hc => ?_) (fun hc => ?_)
      · skip
        exfalso; revert hc; simp
      · skip
        refine aw_exit ?_
        refine cut_no ?_
        refine aw_keep [(16, _), (1, _), (5, _), (14, _)] ⟨lg oz, lg (os rfl oz), lg (os rfl (os rfl oz)), lg (os rfl (os rfl (os rfl oz))), trivial⟩ ?_
        refine aw_seq ?_
        have hr0 := rem_nil hb hp hall
        subst hr0
        rw [List.append_nil] at hp
        have hs := h0 (vs.map (·.1)) (hp.map _)
        rw [← hol] at hs
        refine aw_region (by decide) ?_
        refine rts _ rfl (opD_move (os rfl (os rfl oz))) ?_
        refine rts _ rfl (callHN rfl ht117 (fun s g h => c_hsort hr hev hs.1 h) rfl ⟨le_of_eq lz, le_of_eq (ev_func _ _), trivial⟩ rfl) ?_
        refine .nil ?_
        refine aw_keep [(16, _), (1, _), (5, _), (14, _)] ⟨lg (ls rfl (ls rfl oz)), lg (ls rfl (ls rfl (os rfl oz))), lg (ls rfl (ls rfl (os rfl (os rfl oz)))), lg (ls rfl (ls rfl (os rfl (os rfl (os rfl oz))))), trivial⟩ ?_
        refine aw_seq ?_
        refine aw_seal (k := kItm) (bs' := [⟨hot 137 r + HOT, []⟩, IT g1 c (vs.map (·.2))]) (i := 0) (r := r) (te := 137) rfl [(5, sl kItm none none R)] rfl rfl hr hev (by decide) ⟨rfl, rfl, sealbs_end _ _ (Nat.le_of_ble_eq_true rfl)⟩ (bl_cons (fun q hq => by cases hq) (bl_cons (fun q hq => by simp [IT] at hq; subst hq; exact itp_bnd _ (by omega)) bl_nil)) ⟨seal_e ((os rfl (os rfl oz)).trans (by rw [hs.2])) seal_sl, trivial⟩ ?_
        refine aw_region (by decide) ?_
        refine rts _ rfl (opD_move oz) ?_
        refine rts _ rfl (opD_assign lz) ?_
        refine .nil ?_
        refine aw_keep [(4, _), (5, _)] ⟨lg lz, lg (ls rfl (ls rfl oz)), trivial⟩ ?_
        refine aw_ret ?_
        exact done_ext (.inr rfl) (res_1 rfl (eg oz)) (sl_bnd (fun x _ p hp => kb_Itm x _ _ p hp))
    · skip
      rw [ext_upd_loc]
      dsimp only [List.set_cons_succ, List.set_cons_zero]
      refine rts _ rfl (opD_extract_pl lz (v := .bool true) rfl) ?_
      refine .nil ?_
      refine aw_keep [(16, _), (1, _), (5, _), (14, _)] ⟨lg lz, lg (ls rfl (ls rfl oz)), lg (ls rfl (ls rfl (os rfl oz))), lg (ls rfl (ls rfl (os rfl (os rfl oz)))), trivial⟩ ?_
      refine aw_seq ?_
      refine aw_cond _ oz (fun hc => ?_) (fun hc => ?_)
      · skip
        refine aw_skip ?_
        refine aw_keep [(16, _), (1, _), (5, _), (14, _)] ⟨lg oz, lg (os rfl oz), lg (os rfl (os rfl oz)), lg (os rfl (os rfl (os rfl oz))), trivial⟩ ?_
        refine aw_block ?_
        refine aw_seq ?_
        refine aw_region (by decide) ?_
        refine rts _ rfl (opD_entry (y := y) (os rfl (os rfl (os rfl oz))) (loc_get rfl) (old_get hX) hb hy) ?_
        refine rts _ rfl (opD_le (opD_extract_pl lz (v := K1.ek y.1.1) rfl) (key_ge _)) ?_
        refine rts _ rfl (opD_le (opD_extract_pl (ls rfl lz) (v := K1.ev y.1.2) rfl) (it_ge _)) ?_
        refine rts _ rfl (opD_allocX zt198 (by first | exact List.length_nil | (simp only [List.length_cons, List.length_nil, Nat.zero_add, Nat.reduceAdd]; rfl)) (by simp only [List.nil_append, List.cons_append, List.map_cons, List.map_nil, List.set_cons_zero, List.set_cons_succ, List.take_succ_cons, List.take_zero, List.drop_succ_cons, List.drop_zero]; rfl)) ?_
        refine rts _ rfl (opD_allocX zt137 (by first | exact List.length_nil | (simp only [List.length_cons, List.length_nil, Nat.zero_add, Nat.reduceAdd]; rfl)) (by simp only [List.nil_append, List.cons_append, List.map_cons, List.map_nil, List.set_cons_zero, List.set_cons_succ, List.take_succ_cons, List.take_zero, List.drop_succ_cons, List.drop_zero]; rfl)) ?_
        refine rts _ rfl (opD_storeA sz198 (ls rfl lz) (ls rfl (ls rfl (ls rfl lz))) (by repeat (first | exact ones_nil | refine ones_cons (by first | exact one_pl rfl | exact one_sl _ _ _ _ | exact one_ptr _ _) ?_)) rfl rfl (Nat.le_of_ble_eq_true rfl) (List.cons_ne_nil _ _) (by repeat (first | exact bnd_nil | refine bnd_cons (by first | exact pl_bnd _ _ _ | exact hsl_bnd _ (by omega) | exact ptv_bnd _ (by omega)) ?_)) (by simp only [List.nil_append, List.cons_append, List.map_cons, List.map_nil, List.set_cons_zero, List.set_cons_succ, List.take_succ_cons, List.take_zero, List.drop_succ_cons, List.drop_zero]; rfl) (by simp only [List.nil_append, List.cons_append, List.map_cons, List.map_nil, List.set_cons_zero, List.set_cons_succ, List.take_succ_cons, List.take_zero, List.drop_succ_cons, List.drop_zero]; rfl)) ?_
        refine rts _ rfl (opD_storeA sz137 (lx lz) (lx (ls rfl (ls rfl lz))) (by repeat (first | exact ones_nil | refine ones_cons (by first | exact one_pl rfl | exact one_sl _ _ _ _ | exact one_ptr _ _) ?_)) rfl rfl (Nat.le_of_ble_eq_true rfl) (List.cons_ne_nil _ _) (by repeat (first | exact bnd_nil | refine bnd_cons (by first | exact pl_bnd _ _ _ | exact hsl_bnd _ (by omega) | exact ptv_bnd _ (by omega)) ?_)) (by simp only [List.nil_append, List.cons_append, List.map_cons, List.map_nil, List.set_cons_zero, List.set_cons_succ, List.take_succ_cons, List.take_zero, List.drop_succ_cons, List.drop_zero]; rfl) (by simp only [List.nil_append, List.cons_append, List.map_cons, List.map_nil, List.set_cons_zero, List.set_cons_succ, List.take_succ_cons, List.take_zero, List.drop_succ_cons, List.drop_zero]; rfl)) ?_
        refine .nil ?_
        refine aw_keep [(7, _), (6, _), (16, _), (1, _), (5, _), (14, _)] ⟨lg (lx (lx lz)), lg (lx (lx (ls rfl lz))), lg (lx (lx (ls rfl (ls rfl (ls rfl (ls rfl (ls rfl oz))))))), lg (lx (lx (ls rfl (ls rfl (ls rfl (ls rfl (ls rfl (os rfl oz)))))))), lg (lx (lx (ls rfl (ls rfl (ls rfl (ls rfl (ls rfl (os rfl (os rfl oz))))))))), lg (lx (lx (ls rfl (ls rfl (ls rfl (ls rfl (ls rfl (os rfl (os rfl (os rfl oz)))))))))), trivial⟩ ?_
        refine aw_seq ?_
        refine aw_region (by decide) ?_
        refine rts _ rfl ((by first | exact opD_fieldAddr fo198_0 (os rfl oz) | exact opD_fieldAddr_el fo198_0 (os rfl oz))) ?_
        refine rts _ rfl ((by first | exact opD_load_one ag22 lz (by first | exact loc_get rfl | exact old_get (by assumption)) rfl | exact opD_load_el_one ag22 lz (by first | assumption | simp) rfl)) ?_
        refine rts _ rfl (opD_move (ls rfl (ls rfl (os rfl (os rfl (os rfl oz)))))) ?_
        refine rts _ rfl (opD_eql (ls rfl lz) lz) ?_
        refine .nil ?_
        refine aw_keep [(23, _), (7, _), (6, _), (16, _), (1, _), (5, _), (14, _)] ⟨lg lz, lg (ls rfl (ls rfl (ls rfl (ls rfl oz)))), lg (ls rfl (ls rfl (ls rfl (ls rfl (os rfl oz))))), lg (ls rfl (ls rfl (ls rfl (ls rfl (os rfl (os rfl oz)))))), lg (ls rfl (ls rfl (ls rfl (ls rfl (os rfl (os rfl (os rfl oz))))))), lg (ls rfl (ls rfl (ls rfl (ls rfl (os rfl (os rfl (os rfl (os rfl oz)))))))), lg (ls rfl (ls rfl (ls rfl (ls rfl (os rfl (os rfl (os rfl (os rfl (os rfl oz))))))))), trivial⟩ ?_
        refine aw_cond _ oz (fun hc => ?_) (fun hc => ?_)
        · skip
          have hw : y.1.1.1 = who := of_decide_eq_true hc
          have hlen : ol.length + 1 ≤ 1000000 := by
            have h1 := ofL_le ((vs ++ [y]).map (·.1)) who
            have h2 := hp.length_eq
            have h4 := (rem_pick hp hy hys)
            obtain ⟨rem2, q1, q2⟩ := h4
            rw [hol]
            have h3 := ofL_le (vs.map (·.1)) who
            simp at h1 h2 h3 ⊢
            omega
          have hol2 : ofL ((vs ++ [y]).map (·.1)) who = ol ++ [y.1.2] := by rw [map_snoc1, ofL_y hw, ← hol]
          refine aw_region (by decide) ?_
          refine rts _ rfl (opD_move (os rfl (os rfl (os rfl (os rfl (os rfl oz)))))) ?_
          refine rts _ rfl (opD_load_agg ag137 sz137 (ls rfl (os rfl oz)) (loc_get rfl) (Nat.le_refl 5)) ?_
          refine rts _ rfl (opD_buildSlice (k := kItm) [y.1.2] Go.Proofs.Tryd.underlying141 sz137 zt137 (by decide) rfl (parts_cons (cellsA lz) parts_nil) rfl rfl) ?_
          refine rts _ rfl (appendHN (k := kItm) rfl Go.Proofs.Tryd.underlying141 el137 rfl hr hev (ls rfl (ls rfl lz)) lz rfl kb_Itm (by simp; omega) (by simp; omega) rfl) ?_
          refine rts _ rfl (opD_assign lz) ?_
          refine .nil ?_
          refine cut_yes (l := [(1, _), (5, _), (14, _)]) ⟨lg (ls rfl (ls rfl (ls rfl (ls rfl (ls rfl (os rfl (os rfl (os rfl (os rfl oz))))))))), lg lz, lg (ls rfl (ls rfl (ls rfl (ls rfl (ls rfl (os rfl (os rfl (os rfl (os rfl (os rfl (os rfl oz))))))))))), trivial⟩ (by repeat (first | exact bnd_nil | refine bnd_cons (by first | exact pl_bnd _ _ _ | exact hsl_bnd _ (by omega) | exact ptv_bnd _ (by omega)) ?_)) (Nat.le_of_ble_eq_true rfl) (Nat.le_of_ble_eq_true rfl) (by simp only [List.nil_append, List.cons_append, List.map_cons, List.map_nil, List.set_cons_zero, List.set_cons_succ, List.take_succ_cons, List.take_zero, List.drop_succ_cons, List.drop_zero]; rfl) (by simp only [List.nil_append, List.cons_append, List.map_cons, List.map_nil, List.set_cons_zero, List.set_cons_succ, List.take_succ_cons, List.take_zero, List.drop_succ_cons, List.drop_zero]; rfl) (bl_cons (flatKB kb_Itm) (bl_cons (fun q hq => by simp [IT] at hq; subst hq; exact itp_bnd _ (by omega)) bl_nil)) ?_
          obtain ⟨rem2, q1, q2⟩ := rem_pick hp hy hys
          refine ⟨rem2.length, by omega, _, _, vs ++ [y], rem2, ⟨le_of_eq (eg oz), le_of_eq (eg (os rfl oz)), le_of_eq (eg (os rfl (os rfl oz))), trivial⟩, by rw [map_snoc], rfl, by omega, by omega, q1, hol2.symm⟩
        · skip
          have hw : ¬ y.1.1.1 = who := of_decide_eq_false hc
          have hol2 : ofL ((vs ++ [y]).map (·.1)) who = ol := by rw [map_snoc1, ofL_n hw, ← hol]
          refine aw_skip ?_
          refine cut_yes (l := [(1, _), (5, _), (14, _)]) ⟨lg (os rfl (os rfl (os rfl (os rfl oz)))), lg (os rfl (os rfl (os rfl (os rfl (os rfl oz))))), lg (os rfl (os rfl (os rfl (os rfl (os rfl (os rfl oz)))))), trivial⟩ (by repeat (first | exact bnd_nil | refine bnd_cons (by first | exact pl_bnd _ _ _ | exact hsl_bnd _ (by omega) | exact ptv_bnd _ (by omega)) ?_)) (Nat.le_of_ble_eq_true rfl) (Nat.le_of_ble_eq_true rfl) (by simp only [List.nil_append, List.cons_append, List.map_cons, List.map_nil, List.set_cons_zero, List.set_cons_succ, List.take_succ_cons, List.take_zero, List.drop_succ_cons, List.drop_zero]; rfl) (by simp only [List.nil_append, List.cons_append, List.map_cons, List.map_nil, List.set_cons_zero, List.set_cons_succ, List.take_succ_cons, List.take_zero, List.drop_succ_cons, List.drop_zero]; rfl) (bl_cons (flatKB kb_Itm) (bl_cons (fun q hq => by simp [IT] at hq; subst hq; exact itp_bnd _ (by omega)) bl_nil)) ?_
          obtain ⟨rem2, q1, q2⟩ := rem_pick hp hy hys
          refine ⟨rem2.length, by omega, _, _, vs ++ [y], rem2, ⟨le_of_eq (eg oz), le_of_eq (eg (os rfl oz)), le_of_eq (eg (os rfl (os rfl oz))), trivial⟩, by rw [map_snoc], rfl, by omega, by omega, q1, hol2.symm⟩
      · skip
        exfalso; revert hc; simp
end Go.Proofs.YtmnhfpcbfdgbcaaDoor.Eng.Hd


namespace Go.Proofs.YtmnhfpcbfdgbcaaDoor.Eng.He
set_option linter.unusedVariables false
set_option linter.unusedSimpArgs false
open Go.RowKit Go.Proofs.YtmnhfpcbfdgbcaaDoor.Plain Go.Proofs.YtmnhfpcbfdgbcaaDoor.Eng

theorem pt201 : placesT Go.Proofs.Tryd.prog 201 2 = some [(0, 1), (1, 1)] := by kernel_rfl
theorem zt201 : zeroT Go.Proofs.Tryd.prog 201 = some [.map none, .map none] := by kernel_rfl
theorem ht75 : hasText Go.Proofs.Tryd.prog 75 = true := by kernel_rfl
theorem zt137 : zeroT Go.Proofs.Tryd.prog 137 = some [.int .u64 0, .int .u64 0, .int .u64 0, .int .u64 0, .int .u64 0] := by kernel_rfl
theorem sz137 : sizeT Go.Proofs.Tryd.prog 137 = some 5 := by kernel_rfl
theorem fo201_0 : fieldOff Go.Proofs.Tryd.prog 201 0 = some 0 := by kernel_rfl
theorem ag196 : aggT Go.Proofs.Tryd.prog 196 = some false := by kernel_rfl
theorem pt198 : placesT Go.Proofs.Tryd.prog 198 2 = some [(0, 1), (1, 1)] := by kernel_rfl
theorem zt198 : zeroT Go.Proofs.Tryd.prog 198 = some [.int .u64 0, .int .u64 0] := by kernel_rfl

open Go.Proofs.YtmnhfpcbfdgbcaaDoor.Eng.A Go.Proofs.YtmnhfpcbfdgbcaaDoor.Eng.Hb Go.Proofs.YtmnhfpcbfdgbcaaDoor.Eng.Hc Go.Proofs.YtmnhfpcbfdgbcaaDoor.Eng.Hd Go.Proofs.YtmnhfpcbfdgbcaaDoor.Eng.Er Go.Proofs.YtmnhfpcbfdgbcaaDoor.Eng.Rd Go.Proofs.YtmnhfpcbfdgbcaaDoor.Eng.Pk
theorem mb_ne {s : St} {κ ν : Type} {K : MK κ ν} {l : List (κ × ν)} {a b g1 g2 : Nat} (h1 : s.boxes[a]? = some (MB K l)) (h2 : s.boxes[b]? = some (TBx g1 g2)) : b ≠ a := fun h => by
  subst h
  rw [h1] at h2
  have := congrArg Bx.t (Option.some.inj h2)
  exact absurd (show HOT = 201 from this) (by decide)
theorem mb_bnd {κ ν : Type} {K : MK κ ν} {l : List (κ × ν)} {n m : Nat} : ∀ q ∈ (MB K l).cs, q.Bnd n m := fun q hq => by
  simp [MB] at hq; subst hq; exact mp_bnd _ _ _ _
theorem mx_bnd {κ ν : Type} {K : MK κ ν} {l : List ((κ × ν) × Nat)} {c n m : Nat} : ∀ q ∈ (MX K l c).cs, q.Bnd n m := fun q hq => by
  simp [MX] at hq; subst hq; exact pl_bnd _ _ _
theorem t_of {fl : Nat} {t : Tbl} {who : Int} {R : List Itm} {s : St} {g1 g2 gT : Nat} (hB1 : s.boxes[g1]? = some (MB K1 t.H)) (hT : s.boxes[gT]? = some (TBx g1 g2)) (hn : t.H.length ≤ 1000000) (h0 : ∀ vs : List ((Int × Int) × Itm), vs.Perm t.H → F_hsort fl (ofL vs who) = some R ∧ (ofL vs who).length = R.length) :
    AC Go.Proofs.Tryd.prog 78 [ptr gT 0, pl (.int .u64 who)] s (sl kItm none none R) s :=
  ac_openM hB1 fun lm c hl hb => t_of_x (upd_same hB1) (upd_other (mb_ne hB1 hT) hT) hb (by rw [← List.length_map (f := fun x => x.1), hl]; exact hn) (by rw [hl]; exact h0)

set_option maxRecDepth 100000 in
set_option maxHeartbeats 1000000 in
theorem t_new {s : St} : AC Go.Proofs.Tryd.prog 79 [] s (ptr (s.boxes.length + 2) 0) (s.ext [MB K1 [], MB K2 [], TBx (s.boxes.length + 0) (s.boxes.length + 1)] []) := by
  refine ac_of_aw (s.boxes.length + 3) s.fr.length Go.Proofs.Tryd.func79 rfl (by simp [Go.Proofs.Tryd.ntmps79]) ?_
  refine aw_ext0 ?_
  refine aw_keep [] trivial ?_
  refine aw_seq ?_
  refine aw_region (by decide) ?_
  refine rts _ rfl (opD_assign (ev_const _ _)) ?_
  refine .nil ?_
  refine aw_keep [(0, _)] ⟨lg lz, trivial⟩ ?_
  refine aw_seq ?_
  refine aw_region (by decide) ?_
  refine rts _ rfl (opD_makeMapX (K := K1) (n := 0) rfl rfl) ?_
  refine rts _ rfl (opD_makeMapX (K := K2) (n := 1) rfl rfl) ?_
  refine rts _ rfl (opD_build_struct (rs := [mref (s.boxes.length + 0), mref (s.boxes.length + 1)]) Go.Proofs.Tryd.underlying201 pt201 zt201 (parts_cons (cells1 (ls rfl lz) (one_mref _)) (parts_cons (cells1 lz (one_mref _)) parts_nil)) rfl) ?_
  refine rts _ rfl (opD_boxA lz (bnd_cons (mref_bnd _ (by simp)) (bnd_cons (mref_bnd _ (by simp)) bnd_nil)) rfl rfl) ?_
  refine rts _ rfl (opD_assign lz) ?_
  refine .nil ?_
  refine aw_keep [(0, _)] ⟨lg lz, trivial⟩ ?_
  refine aw_ret ?_
  exact done_newL (Bs := [MB K1 [], MB K2 [], TBx (s.boxes.length + 0) (s.boxes.length + 1)]) (.inr rfl) (res_1 rfl (eg oz)) (ptr_bnd _ (by simp)) (fun B hB q hq => by
    simp only [List.mem_cons, List.not_mem_nil, or_false] at hB
    rcases hB with rfl | rfl | rfl
    · exact mb_bnd q hq
    · exact mb_bnd q hq
    · simp [TBx] at hq; rcases hq with rfl | rfl <;> exact mref_bnd _ (by simp))

set_option maxRecDepth 100000 in
set_option maxHeartbeats 1000000 in
theorem t_drop {t : Tbl} {who no : Int} {s : St} {g1 g2 gT : Nat} (hB1 : s.boxes[g1]? = some (MB K1 t.H)) (hB2 : s.boxes[g2]? = some (MB K2 t.N)) (hT : s.boxes[gT]? = some (TBx g1 g2)) : AC Go.Proofs.Tryd.prog 77 [ptr gT 0, pl (.int .u64 who), pl (.int .u64 no)] s (pl (errV (hget t.H who no).2)) (s.upd g1 (MB K1 (mdel t.H (who, no)))) := by
  refine ac_of_aw s.boxes.length s.fr.length Go.Proofs.Tryd.func77 rfl (by simp [Go.Proofs.Tryd.ntmps77]) ?_
  refine aw_ext0 ?_
  refine aw_keep [(0, _), (1, _), (2, _)] ⟨lg ez, lg (es ez), lg (es (es ez)), trivial⟩ ?_
  refine aw_seq ?_
  refine aw_region (by decide) ?_
  refine rts _ rfl (opD_assign (ev_const _ _)) ?_
  refine .nil ?_
  refine aw_keep [(6, _), (0, _), (1, _), (2, _)] ⟨lg lz, lg (ls rfl oz), lg (ls rfl (os rfl oz)), lg (ls rfl (os rfl (os rfl oz))), trivial⟩ ?_
  refine aw_seq ?_
  refine aw_seq ?_
  refine aw_region (by decide) ?_
  refine rts _ rfl (opD_move (os rfl oz)) ?_
  refine rts _ rfl (opD_move (ls rfl (os rfl (os rfl oz)))) ?_
  refine rts _ rfl (opD_move (ls rfl (ls rfl (os rfl (os rfl (os rfl oz)))))) ?_
  refine rts _ rfl (opD_call ht75 (t_get (t := t) (old_get hB1) (old_get hB2) (old_get hT)) ⟨le_of_eq (ls rfl (ls rfl lz)), le_of_eq (ls rfl lz), le_of_eq lz, trivial⟩) ?_
  refine rts _ rfl (opD_move lz) ?_
  refine rts _ rfl (opD_extract lz rfl) ?_
  refine rts _ rfl (opD_extract (ls rfl lz) rfl) ?_
  refine rts _ rfl (opD_allocX zt137 (by first | exact List.length_nil | (simp only [List.length_cons, List.length_nil, Nat.zero_add, Nat.reduceAdd]; rfl)) (by simp only [List.nil_append, List.cons_append, List.map_cons, List.map_nil, List.set_cons_zero, List.set_cons_succ, List.take_succ_cons, List.take_zero, List.drop_succ_cons, List.drop_zero]; rfl)) ?_
  refine rts _ rfl (opD_storeA sz137 lz (ls rfl (ls rfl lz)) (by repeat (first | exact ones_nil | refine ones_cons (by first | exact one_pl rfl | exact one_sl _ _ _ _ | exact one_ptr _ _) ?_)) rfl rfl (Nat.le_of_ble_eq_true rfl) (List.cons_ne_nil _ _) (by repeat (first | exact bnd_nil | refine bnd_cons (by first | exact pl_bnd _ _ _ | exact sl_bnd (kI_bnd _ _ _ _) | exact ptr_bnd _ (by omega)) ?_)) (by simp only [List.nil_append, List.cons_append, List.map_cons, List.map_nil, List.set_cons_zero, List.set_cons_succ, List.take_succ_cons, List.take_zero, List.drop_succ_cons, List.drop_zero]; rfl) (by simp only [List.nil_append, List.cons_append, List.map_cons, List.map_nil, List.set_cons_zero, List.set_cons_succ, List.take_succ_cons, List.take_zero, List.drop_succ_cons, List.drop_zero]; rfl)) ?_
  refine rts _ rfl (opD_assign (lx (ls rfl lz))) ?_
  refine .nil ?_
  refine aw_keep [(8, _), (6, _), (0, _), (1, _), (2, _)] ⟨lg lz, lg (ls rfl (lx (ls rfl (ls rfl (ls rfl (ls rfl (ls rfl (ls rfl (ls rfl (ls rfl oz)))))))))), lg (ls rfl (lx (ls rfl (ls rfl (ls rfl (ls rfl (ls rfl (ls rfl (ls rfl (ls rfl (os rfl oz))))))))))), lg (ls rfl (lx (ls rfl (ls rfl (ls rfl (ls rfl (ls rfl (ls rfl (ls rfl (ls rfl (os rfl (os rfl oz)))))))))))), lg (ls rfl (lx (ls rfl (ls rfl (ls rfl (ls rfl (ls rfl (ls rfl (ls rfl (ls rfl (os rfl (os rfl (os rfl oz))))))))))))), trivial⟩ ?_
  refine aw_seq ?_
  refine aw_region (by decide) ?_
  refine rts _ rfl (opD_move oz) ?_
  refine rts _ rfl (opD_bin (r := .bool (hget t.H who no).2.isSome) lz (ev_const _ _) (fun w => by cases (hget t.H who no).2 <;> simp [errV, go_sem]) (fun w => by cases (hget t.H who no).2 <;> simp [errV, go_sem])) ?_
  refine .nil ?_
  refine aw_keep [(17, _), (8, _), (6, _), (0, _), (1, _), (2, _)] ⟨lg lz, lg (ls rfl (ls rfl oz)), lg (ls rfl (ls rfl (os rfl oz))), lg (ls rfl (ls rfl (os rfl (os rfl oz)))), lg (ls rfl (ls rfl (os rfl (os rfl (os rfl oz))))), lg (ls rfl (ls rfl (os rfl (os rfl (os rfl (os rfl oz)))))), trivial⟩ ?_
  refine aw_cond _ oz (fun hc => ?_) (fun hc => ?_)
  · skip
    have hn : mdel t.H (who, no) = t.H := by
      cases hi : mIdx t.H (who, no) with
      | none => unfold mdel; rw [hi]
      | some i =>
        exfalso
        obtain ⟨v, hv⟩ := mIdx_some hi
        unfold hget mget at hc; rw [hi] at hc; simp [hv] at hc
    rw [hn, upd_self hB1]
    refine aw_seq ?_
    refine aw_region (by decide) ?_
    refine rts _ rfl (opD_move (os rfl oz)) ?_
    refine rts _ rfl (opD_assign lz) ?_
    refine .nil ?_
    refine aw_keep [(6, _), (17, _), (8, _), (0, _), (1, _), (2, _)] ⟨lg lz, lg (ls rfl (ls rfl oz)), lg (ls rfl (ls rfl (os rfl oz))), lg (ls rfl (ls rfl (os rfl (os rfl (os rfl oz))))), lg (ls rfl (ls rfl (os rfl (os rfl (os rfl (os rfl oz)))))), lg (ls rfl (ls rfl (os rfl (os rfl (os rfl (os rfl (os rfl oz))))))), trivial⟩ ?_
    refine aw_ret ?_
    exact done_ext (.inr rfl) (res_1 rfl (eg oz)) (pl_bnd _ _ _)
  · skip
    have hn : (hget t.H who no).2 = none := by simpa using hc
    rw [hn]
    refine aw_skip ?_
    refine aw_keep [(17, _), (8, _), (6, _), (0, _), (1, _), (2, _)] ⟨lg oz, lg (os rfl oz), lg (os rfl (os rfl oz)), lg (os rfl (os rfl (os rfl oz))), lg (os rfl (os rfl (os rfl (os rfl oz)))), lg (os rfl (os rfl (os rfl (os rfl (os rfl oz))))), trivial⟩ ?_
    refine aw_seq ?_
    refine aw_region (by decide) ?_
    refine rts _ rfl (opD_move (os rfl (os rfl (os rfl oz)))) ?_
    refine rts _ rfl ((by first | exact opD_nilCheck_ptr lz | exact opD_nilCheck_el lz)) ?_
    refine rts _ rfl ((by first | exact opD_fieldAddr fo201_0 lz | exact opD_fieldAddr_el fo201_0 lz)) ?_
    refine rts _ rfl ((by first | exact opD_load_one ag196 lz (by first | exact loc_get rfl | exact old_get (by assumption)) rfl | exact opD_load_el_one ag196 lz (by first | assumption | simp) rfl)) ?_
    refine rts _ rfl (opD_move (ls rfl (ls rfl (ls rfl (ls rfl (os rfl (os rfl (os rfl (os rfl oz))))))))) ?_
    refine rts _ rfl (opD_move (ls rfl (ls rfl (ls rfl (ls rfl (ls rfl (os rfl (os rfl (os rfl (os rfl (os rfl oz))))))))))) ?_
    refine rts _ rfl (opD_build_struct (rs := [_, _]) Go.Proofs.Tryd.underlying198 pt198 zt198 (parts_cons (cells1 (ls rfl lz) (by first | exact one_pl rfl | exact one_sl _ _ _ _ | exact one_ptr _ _ | exact one_ifc _ _)) (parts_cons (cells1 lz (by first | exact one_pl rfl | exact one_sl _ _ _ _ | exact one_ptr _ _ | exact one_ifc _ _)) parts_nil)) rfl) ?_
    refine rts _ rfl (opD_U (get_lt hB1) (opD_delete (K := K1) (k := (who, no)) rfl Go.Proofs.Tryd.underlying196 kl1 (ls rfl (ls rfl (ls rfl lz))) ((le_of_eq lz).trans (key_le who no)) (old_get hB1))) ?_
    refine .nil ?_
    refine aw_keep [(17, _), (8, _), (6, _), (0, _), (1, _), (2, _)] ⟨lg (lx (ls rfl (ls rfl (ls rfl (ls rfl (ls rfl (ls rfl (ls rfl oz)))))))), lg (lx (ls rfl (ls rfl (ls rfl (ls rfl (ls rfl (ls rfl (ls rfl (os rfl oz))))))))), lg (lx (ls rfl (ls rfl (ls rfl (ls rfl (ls rfl (ls rfl (ls rfl (os rfl (os rfl oz)))))))))), lg (lx (ls rfl (ls rfl (ls rfl (ls rfl (ls rfl (ls rfl (ls rfl (os rfl (os rfl (os rfl oz))))))))))), lg (lx (ls rfl (ls rfl (ls rfl (ls rfl (ls rfl (ls rfl (ls rfl (os rfl (os rfl (os rfl (os rfl oz)))))))))))), lg (lx (ls rfl (ls rfl (ls rfl (ls rfl (ls rfl (ls rfl (ls rfl (os rfl (os rfl (os rfl (os rfl (os rfl oz))))))))))))), trivial⟩ ?_
    refine aw_seq ?_
    refine aw_region (by decide) ?_
    refine rts _ rfl (opD_assign (ev_const _ _)) ?_
    refine .nil ?_
    refine aw_keep [(6, _), (17, _), (8, _), (0, _), (1, _), (2, _)] ⟨lg lz, lg (ls rfl oz), lg (ls rfl (os rfl oz)), lg (ls rfl (os rfl (os rfl (os rfl oz)))), lg (ls rfl (os rfl (os rfl (os rfl (os rfl oz))))), lg (ls rfl (os rfl (os rfl (os rfl (os rfl (os rfl oz)))))), trivial⟩ ?_
    refine aw_ret ?_
    exact done_up ((UpOk.refl s).upd mb_bnd) (.inr rfl) (res_1 rfl (eg oz)) (pl_bnd _ _ _)
end Go.Proofs.YtmnhfpcbfdgbcaaDoor.Eng.He


namespace Go.Proofs.YtmnhfpcbfdgbcaaDoor.Eng.Hf
set_option linter.unusedVariables false
set_option linter.unusedSimpArgs false
open Go.RowKit Go.Proofs.YtmnhfpcbfdgbcaaDoor.Plain Go.Proofs.YtmnhfpcbfdgbcaaDoor.Eng

theorem ag199 : aggT Go.Proofs.Tryd.prog 199 = some false := by kernel_rfl
theorem ag22 : aggT Go.Proofs.Tryd.prog 22 = some false := by kernel_rfl
theorem sz22 : sizeT Go.Proofs.Tryd.prog 22 = some 1 := by kernel_rfl
theorem ag196 : aggT Go.Proofs.Tryd.prog 196 = some false := by kernel_rfl
theorem ag137 : aggT Go.Proofs.Tryd.prog 137 = some true := by kernel_rfl
theorem sz137 : sizeT Go.Proofs.Tryd.prog 137 = some 5 := by kernel_rfl
theorem fo137_0 : fieldOff Go.Proofs.Tryd.prog 137 0 = some 0 := by kernel_rfl
theorem ht78 : hasText Go.Proofs.Tryd.prog 78 = true := by kernel_rfl
theorem cc107 : Go.Proofs.Tryd.prog.concrete 107 = true := by kernel_rfl
theorem fo201_1 : fieldOff Go.Proofs.Tryd.prog 201 1 = some 1 := by kernel_rfl
theorem fo137_1 : fieldOff Go.Proofs.Tryd.prog 137 1 = some 1 := by kernel_rfl
theorem fo201_0 : fieldOff Go.Proofs.Tryd.prog 201 0 = some 0 := by kernel_rfl
theorem pt198 : placesT Go.Proofs.Tryd.prog 198 2 = some [(0, 1), (1, 1)] := by kernel_rfl
theorem zt198 : zeroT Go.Proofs.Tryd.prog 198 = some [.int .u64 0, .int .u64 0] := by kernel_rfl
theorem mixed : Go.Proofs.Tryd.prog.follows .mixedOrders = true := by kernel_rfl

open Go.Proofs.YtmnhfpcbfdgbcaaDoor.Eng.A Go.Proofs.YtmnhfpcbfdgbcaaDoor.Eng.Hb Go.Proofs.YtmnhfpcbfdgbcaaDoor.Eng.Hc Go.Proofs.YtmnhfpcbfdgbcaaDoor.Eng.Hd Go.Proofs.YtmnhfpcbfdgbcaaDoor.Eng.He Go.Proofs.YtmnhfpcbfdgbcaaDoor.Eng.Er Go.Proofs.YtmnhfpcbfdgbcaaDoor.Eng.Rd Go.Proofs.YtmnhfpcbfdgbcaaDoor.Eng.Pk
theorem mget_mset {κ ν : Type} [DecidableEq κ] (l : List (κ × ν)) (k : κ) (v : ν) : mget (mset l k v) k = some v := by
  cases hi : mIdx l k with
  | none =>
    have h1 : mset l k v = l ++ [(k, v)] := by unfold mset; rw [hi]
    have h2 : mIdx (l ++ [(k, v)]) k = some l.length := by
      unfold mIdx at hi ⊢
      rw [List.findIdx?_append, hi]
      simp [List.findIdx?_cons]
    unfold mget
    rw [h1, h2]; simp
  | some i =>
    obtain ⟨w, hw⟩ := mIdx_some hi
    have hl := (List.getElem?_eq_some_iff.1 hw).1
    have h1 : mset l k v = l.set i (k, v) := by unfold mset; rw [hi]
    have h2 : mIdx (l.set i (k, v)) k = some i := by
      unfold mIdx at hi ⊢
      obtain ⟨q1, q2, q3⟩ := List.findIdx?_eq_some_iff_getElem.1 hi
      refine List.findIdx?_eq_some_iff_getElem.2 ⟨by simpa using hl, by simp, fun j hj => ?_⟩
      rw [List.getElem_set_ne (by omega)]
      exact q3 j hj
    unfold mget
    rw [h1, h2]; simp [hl]
def nxt (N : List (Int × Int)) (who : Int) : Int := IntKind.u64.wrap ((mget N who).getD 0 + 1)
def hgive (t : Tbl) (x : Itm) (R : List Itm) : Int × Option Int × Tbl := if 8 ≤ R.length then (0, some 7, t) else (nxt t.N x.Who, none, ⟨mset t.H (x.Who, nxt t.N x.Who) ⟨x.Who, nxt t.N x.Who, x.Space, x.Gen, x.Txn⟩, mset t.N x.Who (nxt t.N x.Who)⟩)
theorem n_le {l : List (Int × Int)} {k : Int} : (pl (if false = true then .tuple #[((mget l k).map K2.ev).getD (K2.ev 0), .bool (mget l k).isSome] else ((mget l k).map K2.ev).getD (K2.ev 0))).le (pl (.int .u64 ((mget l k).getD 0))) := le_of_eq (by cases mget l k <;> rfl)

set_option maxRecDepth 100000 in
set_option maxHeartbeats 1000000 in
theorem t_give {fl : Nat} {t : Tbl} {x : Itm} {R : List Itm} {s : St} {g1 g2 gT : Nat} (h12 : g1 ≠ g2) (hB1 : s.boxes[g1]? = some (MB K1 t.H)) (hB2 : s.boxes[g2]? = some (MB K2 t.N)) (hT : s.boxes[gT]? = some (TBx g1 g2)) (hn : t.H.length ≤ 1000000) (h0 : ∀ vs : List ((Int × Int) × Itm), vs.Perm t.H → F_hsort fl (ofL vs x.Who) = some R ∧ (ofL vs x.Who).length = R.length) : AC Go.Proofs.Tryd.prog 74 [ptr gT 0, agg (itC x)] s (tup [pl (.int .u64 (hgive t x R).1), pl (errV (hgive t x R).2.1)]) ((s.upd g2 (MB K2 (hgive t x R).2.2.N)).upd g1 (MB K1 (hgive t x R).2.2.H)) := by
  refine ac_of_aw s.boxes.length s.fr.length Go.Proofs.Tryd.func74 rfl (by simp [Go.Proofs.Tryd.ntmps74]) ?_
  refine aw_ext0 ?_
  refine aw_keep [(0, _), (1, _)] ⟨lg ez, lg (es ez), trivial⟩ ?_
  refine aw_seq ?_
  refine aw_region (by decide) ?_
  refine rts _ rfl (opD_boxA (os rfl oz) (by repeat (first | exact bnd_nil | refine bnd_cons (by first | exact pl_bnd _ _ _ | exact sl_bnd (kI_bnd _ _ _ _) | exact ptr_bnd _ (by omega)) ?_)) (by first | exact List.length_nil | (simp only [List.length_cons, List.length_nil, Nat.zero_add, Nat.reduceAdd]; rfl)) (by simp only [List.nil_append, List.cons_append, List.map_cons, List.map_nil, List.set_cons_zero, List.set_cons_succ, List.take_succ_cons, List.take_zero, List.drop_succ_cons, List.drop_zero]; rfl)) ?_
  refine rts _ rfl (opD_assign (ev_const _ _)) ?_
  refine rts _ rfl (opD_assign (ev_const _ _)) ?_
  refine .nil ?_
  refine aw_keep [(5, _), (4, _), (3, _), (0, _), (1, _)] ⟨lg lz, lg (ls rfl lz), lg (ls rfl (ls rfl lz)), lg (ls rfl (ls rfl (ls rfl oz))), lg (ls rfl (ls rfl (ls rfl (os rfl oz)))), trivial⟩ ?_
  refine aw_seq ?_
  refine aw_block ?_
  refine aw_seq ?_
  refine aw_region (by decide) ?_
  refine rts _ rfl (opD_move (os rfl (os rfl (os rfl oz)))) ?_
  refine rts _ rfl ((by first | exact opD_ptr_eqnil Go.Proofs.Tryd.underlying132 lz | exact opD_nilp_eqnil Go.Proofs.Tryd.underlying132 lz)) ?_
  refine rts _ rfl (opD_assign lz) ?_
  refine .nil ?_
  refine aw_keep [(6, _), (5, _), (4, _), (3, _), (0, _), (1, _)] ⟨lg lz, lg (ls rfl (ls rfl (ls rfl oz))), lg (ls rfl (ls rfl (ls rfl (os rfl oz)))), lg (ls rfl (ls rfl (ls rfl (os rfl (os rfl oz))))), lg (ls rfl (ls rfl (ls rfl (os rfl (os rfl (os rfl oz)))))), lg (ls rfl (ls rfl (ls rfl (os rfl (os rfl (os rfl (os rfl oz))))))), trivial⟩ ?_
  refine aw_cond _ oz (fun hc => ?_) (fun hc => ?_)
  · skip
    exfalso; revert hc; simp
  · skip
    refine aw_seq ?_
    refine aw_region (by decide) ?_
    refine rts _ rfl (opD_move (os rfl (os rfl (os rfl (os rfl oz))))) ?_
    refine rts _ rfl ((by first | exact opD_fieldAddr fo137_0 (ls rfl (os rfl (os rfl (os rfl oz)))) | exact opD_fieldAddr_el fo137_0 (ls rfl (os rfl (os rfl (os rfl oz)))))) ?_
    refine rts _ rfl ((by first | exact opD_load_one ag22 lz (by first | exact loc_get rfl | exact old_get (by assumption)) rfl | exact opD_load_el_one ag22 lz (by first | assumption | simp) rfl)) ?_
    refine rts _ rfl (opD_call ht78 (t_of (t := t) (who := x.Who) (old_get hB1) (old_get hT) hn h0) ⟨le_of_eq (ls rfl (ls rfl lz)), le_of_eq lz, trivial⟩) ?_
    refine rts _ rfl (opD_len_sl Go.Proofs.Tryd.underlying141 lz) ?_
    refine rts _ rfl (opD_geq lz (ev_const _ _)) ?_
    refine rts _ rfl (opD_assign lz) ?_
    refine .nil ?_
    refine aw_keep [(10, _), (6, _), (5, _), (4, _), (3, _), (0, _), (1, _)] ⟨lg lz, lg (ls rfl (ls rfl (ls rfl (ls rfl (ls rfl (ls rfl (ls rfl oz))))))), lg (ls rfl (ls rfl (ls rfl (ls rfl (ls rfl (ls rfl (ls rfl (os rfl oz)))))))), lg (ls rfl (ls rfl (ls rfl (ls rfl (ls rfl (ls rfl (ls rfl (os rfl (os rfl oz))))))))), lg (ls rfl (ls rfl (ls rfl (ls rfl (ls rfl (ls rfl (ls rfl (os rfl (os rfl (os rfl oz)))))))))), lg (ls rfl (ls rfl (ls rfl (ls rfl (ls rfl (ls rfl (ls rfl (os rfl (os rfl (os rfl (os rfl oz))))))))))), lg (ls rfl (ls rfl (ls rfl (ls rfl (ls rfl (ls rfl (ls rfl (os rfl (os rfl (os rfl (os rfl (os rfl oz)))))))))))), trivial⟩ ?_
    refine aw_cond _ oz (fun hc => ?_) (fun hc => ?_)
    · skip
      have hw : hgive t x R = (0, some 7, t) := by unfold hgive; rw [if_pos (by have := of_decide_eq_true hc; omega)]
      rw [hw, upd_self hB2, upd_self hB1]
      refine aw_seq ?_
      refine aw_region (by decide) ?_
      refine rts _ rfl ((by first | exact opD_makeInterface_pl cc107 (ev_const _ _) | exact opD_makeInterface cc107 (ev_const _ _))) ?_
      refine rts _ rfl (opD_assign (ev_const _ _)) ?_
      refine rts _ rfl (opD_assign (ls rfl lz)) ?_
      refine .nil ?_
      refine aw_keep [(5, _), (4, _), (10, _), (6, _), (3, _), (0, _), (1, _)] ⟨lg lz, lg (ls rfl lz), lg (ls rfl (ls rfl (ls rfl oz))), lg (ls rfl (ls rfl (ls rfl (os rfl oz)))), lg (ls rfl (ls rfl (ls rfl (os rfl (os rfl (os rfl (os rfl oz))))))), lg (ls rfl (ls rfl (ls rfl (os rfl (os rfl (os rfl (os rfl (os rfl oz)))))))), lg (ls rfl (ls rfl (ls rfl (os rfl (os rfl (os rfl (os rfl (os rfl (os rfl oz))))))))), trivial⟩ ?_
      refine aw_ret ?_
      exact done_ext (.inr rfl) (res_2 rfl (eg (os rfl oz)) (eg oz)) (tup_bnd (bnd_cons (pl_bnd _ _ _) (bnd_cons (pl_bnd _ _ _) bnd_nil)))
    · skip
      have hw : hgive t x R = (nxt t.N x.Who, none, ⟨mset t.H (x.Who, nxt t.N x.Who) ⟨x.Who, nxt t.N x.Who, x.Space, x.Gen, x.Txn⟩, mset t.N x.Who (nxt t.N x.Who)⟩) := by unfold hgive; rw [if_neg (by have := of_decide_eq_false hc; omega)]
      rw [hw]
      refine aw_skip ?_
      refine aw_keep [(10, _), (6, _), (5, _), (4, _), (3, _), (0, _), (1, _)] ⟨lg oz, lg (os rfl oz), lg (os rfl (os rfl oz)), lg (os rfl (os rfl (os rfl oz))), lg (os rfl (os rfl (os rfl (os rfl oz)))), lg (os rfl (os rfl (os rfl (os rfl (os rfl oz))))), lg (os rfl (os rfl (os rfl (os rfl (os rfl (os rfl oz)))))), trivial⟩ ?_
      refine aw_seq ?_
      refine aw_drawn [false, false, false, false, false, false, false, false, true] [[0], [0], [0], [0], [0], [0], [0], [0], [0, 1]] mixed (by decide +kernel) ?_
      refine dtp _ rfl (fun s => opD_move (os rfl (os rfl (os rfl (os rfl (os rfl oz)))))) ?_
      refine dtp _ rfl (fun s => (by first | exact opD_nilCheck_ptr lz | exact opD_nilCheck_el lz)) ?_
      refine dtp _ rfl (fun s => (by first | exact opD_fieldAddr fo201_1 lz | exact opD_fieldAddr_el fo201_1 lz)) ?_
      refine dtl _ (fun s' => s'.boxes[gT]? = some (TBx g1 g2)) rfl (fun s' hB => opD_load_one ag199 lz hB rfl) ?_
      refine dtp _ rfl (fun s => (by first | exact opD_fieldAddr fo137_0 (ls rfl (ls rfl (ls rfl (ls rfl (os rfl (os rfl (os rfl (os rfl oz)))))))) | exact opD_fieldAddr_el fo137_0 (ls rfl (ls rfl (ls rfl (ls rfl (os rfl (os rfl (os rfl (os rfl oz)))))))))) ?_
      refine dtl _ (fun s' => s'.boxes[s.boxes.length + 0]? = some ⟨137, itC x⟩) rfl (fun s' hB => opD_load_one (p := pl (.int .u64 x.Who)) ag22 lz hB rfl) ?_
      refine dtl _ (fun s' => s'.boxes[g2]? = some (MB K2 t.N)) rfl (fun s' hB => opD_le (opD_lookup (K := K2) (z := K2.ev 0) false Go.Proofs.Tryd.underlying199 kl2 zero22 (ls rfl (ls rfl lz)) (le_of_eq lz) hB) n_le) ?_
      refine dtp _ rfl (fun s => opD_add lz (ev_const _ _) (r := nxt t.N x.Who) rfl) ?_
      refine dta _ rfl (opD_U (get_lt hB2) (opD_mapUpdate (K := K2) (k := x.Who) (v := nxt t.N x.Who) Go.Proofs.Tryd.underlying199 kl2 (ls rfl (ls rfl (ls rfl (ls rfl lz)))) (le_of_eq (ls rfl (ls rfl lz))) (le_of_eq lz) (old_get hB2))) ?_
      refine .nil ?_
      dsimp only [List.nil_append, List.cons_append]
      refine ⟨rfl, ⟨trivial, trivial, trivial, ⟨(by first | exact loc_get rfl | exact old_get (by assumption) | exact loc_getS (upd_boxes_length _ _ _) rfl), trivial⟩, trivial, ⟨(by first | exact loc_get rfl | exact old_get (by assumption) | exact loc_getS (upd_boxes_length _ _ _) rfl), trivial⟩, ⟨(by first | exact loc_get rfl | exact old_get (by assumption) | exact loc_getS (upd_boxes_length _ _ _) rfl), trivial⟩, trivial, trivial, trivial⟩, ?_⟩
      refine aw_keep [(10, _), (6, _), (5, _), (4, _), (3, _), (0, _), (1, _)] ⟨lg (lx (ls rfl (ls rfl (ls rfl (ls rfl (ls rfl (ls rfl (ls rfl (ls rfl oz))))))))), lg (lx (ls rfl (ls rfl (ls rfl (ls rfl (ls rfl (ls rfl (ls rfl (ls rfl (os rfl oz)))))))))), lg (lx (ls rfl (ls rfl (ls rfl (ls rfl (ls rfl (ls rfl (ls rfl (ls rfl (os rfl (os rfl oz))))))))))), lg (lx (ls rfl (ls rfl (ls rfl (ls rfl (ls rfl (ls rfl (ls rfl (ls rfl (os rfl (os rfl (os rfl oz)))))))))))), lg (lx (ls rfl (ls rfl (ls rfl (ls rfl (ls rfl (ls rfl (ls rfl (ls rfl (os rfl (os rfl (os rfl (os rfl oz))))))))))))), lg (lx (ls rfl (ls rfl (ls rfl (ls rfl (ls rfl (ls rfl (ls rfl (ls rfl (os rfl (os rfl (os rfl (os rfl (os rfl oz)))))))))))))), lg (lx (ls rfl (ls rfl (ls rfl (ls rfl (ls rfl (ls rfl (ls rfl (ls rfl (os rfl (os rfl (os rfl (os rfl (os rfl (os rfl oz))))))))))))))), trivial⟩ ?_
      refine aw_seq ?_
      have hT2 : (s.upd g2 (MB K2 (mset t.N x.Who (nxt t.N x.Who)))).boxes[gT]? = some (TBx g1 g2) := upd_other (mb_ne hB2 hT) hT
      have hB12 : (s.upd g2 (MB K2 (mset t.N x.Who (nxt t.N x.Who)))).boxes[g1]? = some (MB K1 t.H) := upd_other h12 hB1
      have hB22 : (s.upd g2 (MB K2 (mset t.N x.Who (nxt t.N x.Who)))).boxes[g2]? = some (MB K2 (mset t.N x.Who (nxt t.N x.Who))) := upd_same hB2
      refine aw_drawn [false, false, false, false, false, false, false, false, true] [[0], [0], [0], [0], [0], [0], [0], [0], [0, 1]] mixed (by decide +kernel) ?_
      refine dtp _ rfl (fun s => opD_move (os rfl (os rfl (os rfl (os rfl (os rfl oz)))))) ?_
      refine dtp _ rfl (fun s => (by first | exact opD_nilCheck_ptr lz | exact opD_nilCheck_el lz)) ?_
      refine dtp _ rfl (fun s => (by first | exact opD_fieldAddr fo201_1 lz | exact opD_fieldAddr_el fo201_1 lz)) ?_
      refine dtl _ (fun s' => s'.boxes[gT]? = some (TBx g1 g2)) rfl (fun s' hB => opD_load_one ag199 lz hB rfl) ?_
      refine dtp _ rfl (fun s => (by first | exact opD_fieldAddr fo137_0 (ls rfl (ls rfl (ls rfl (ls rfl (os rfl (os rfl (os rfl (os rfl oz)))))))) | exact opD_fieldAddr_el fo137_0 (ls rfl (ls rfl (ls rfl (ls rfl (os rfl (os rfl (os rfl (os rfl oz)))))))))) ?_
      refine dtl _ (fun s' => s'.boxes[s.boxes.length + 0]? = some ⟨137, itC x⟩) rfl (fun s' hB => opD_load_one (p := pl (.int .u64 x.Who)) ag22 lz hB rfl) ?_
      refine dtl _ (fun s' => s'.boxes[g2]? = some (MB K2 (mset t.N x.Who (nxt t.N x.Who)))) rfl (fun s' hB => opD_le (opD_lookup (K := K2) (z := K2.ev 0) false Go.Proofs.Tryd.underlying199 kl2 zero22 (ls rfl (ls rfl lz)) (le_of_eq lz) hB) (n_le.trans (le_of_eq (by rw [mget_mset] <;> rfl)))) ?_
      refine dtp _ rfl (fun s => (by first | exact opD_fieldAddr fo137_1 (ls rfl (ls rfl (ls rfl (ls rfl (ls rfl (ls rfl (ls rfl (os rfl (os rfl (os rfl (os rfl oz))))))))))) | exact opD_fieldAddr_el fo137_1 (ls rfl (ls rfl (ls rfl (ls rfl (ls rfl (ls rfl (ls rfl (os rfl (os rfl (os rfl (os rfl oz))))))))))))) ?_
      refine dta _ rfl (opD_storeS (upd_boxes_length _ _ _) sz22 lz (le_of_eq (ls rfl lz)) (p := pl (.int .u64 (nxt t.N x.Who))) (one_pl rfl) rfl (by show 1 < 5; decide) (pl_bnd _ _ _) rfl) ?_
      refine .nil ?_
      dsimp only [List.nil_append, List.cons_append]
      refine ⟨rfl, ⟨trivial, trivial, trivial, ⟨(by first | exact loc_get rfl | exact old_get (by assumption) | exact loc_getS (upd_boxes_length _ _ _) rfl), trivial⟩, trivial, ⟨(by first | exact loc_get rfl | exact old_get (by assumption) | exact loc_getS (upd_boxes_length _ _ _) rfl), trivial⟩, ⟨(by first | exact loc_get rfl | exact old_get (by assumption) | exact loc_getS (upd_boxes_length _ _ _) rfl), trivial⟩, trivial, trivial, trivial⟩, ?_⟩
      refine aw_keep [(10, _), (6, _), (5, _), (4, _), (3, _), (0, _), (1, _)] ⟨lg (lx (ls rfl (ls rfl (ls rfl (ls rfl (ls rfl (ls rfl (ls rfl (ls rfl oz))))))))), lg (lx (ls rfl (ls rfl (ls rfl (ls rfl (ls rfl (ls rfl (ls rfl (ls rfl (os rfl oz)))))))))), lg (lx (ls rfl (ls rfl (ls rfl (ls rfl (ls rfl (ls rfl (ls rfl (ls rfl (os rfl (os rfl oz))))))))))), lg (lx (ls rfl (ls rfl (ls rfl (ls rfl (ls rfl (ls rfl (ls rfl (ls rfl (os rfl (os rfl (os rfl oz)))))))))))), lg (lx (ls rfl (ls rfl (ls rfl (ls rfl (ls rfl (ls rfl (ls rfl (ls rfl (os rfl (os rfl (os rfl (os rfl oz))))))))))))), lg (lx (ls rfl (ls rfl (ls rfl (ls rfl (ls rfl (ls rfl (ls rfl (ls rfl (os rfl (os rfl (os rfl (os rfl (os rfl oz)))))))))))))), lg (lx (ls rfl (ls rfl (ls rfl (ls rfl (ls rfl (ls rfl (ls rfl (ls rfl (os rfl (os rfl (os rfl (os rfl (os rfl (os rfl oz))))))))))))))), trivial⟩ ?_
      refine aw_seq ?_
      refine aw_drawn [false, false, false, false, false, false, false, false, false, false, true] [[0], [0], [0], [0], [0], [0], [0], [0], [0], [0], [0, 1]] mixed (by decide +kernel) ?_
      refine dtp _ rfl (fun s => opD_move (os rfl (os rfl (os rfl (os rfl (os rfl oz)))))) ?_
      refine dtp _ rfl (fun s => (by first | exact opD_nilCheck_ptr lz | exact opD_nilCheck_el lz)) ?_
      refine dtp _ rfl (fun s => (by first | exact opD_fieldAddr fo201_0 lz | exact opD_fieldAddr_el fo201_0 lz)) ?_
      refine dtl _ (fun s' => s'.boxes[gT]? = some (TBx g1 g2)) rfl (fun s' hB => opD_load_one ag196 lz hB rfl) ?_
      refine dtp _ rfl (fun s => (by first | exact opD_fieldAddr fo137_0 (ls rfl (ls rfl (ls rfl (ls rfl (os rfl (os rfl (os rfl (os rfl oz)))))))) | exact opD_fieldAddr_el fo137_0 (ls rfl (ls rfl (ls rfl (ls rfl (os rfl (os rfl (os rfl (os rfl oz)))))))))) ?_
      refine dtl _ (fun s' => s'.boxes[s.boxes.length + 0]? = some ⟨137, itC (⟨x.Who, nxt t.N x.Who, x.Space, x.Gen, x.Txn⟩ : Itm)⟩) rfl (fun s' hB => opD_load_one (p := pl (.int .u64 (⟨x.Who, nxt t.N x.Who, x.Space, x.Gen, x.Txn⟩ : Itm).Who)) ag22 lz hB rfl) ?_
      refine dtp _ rfl (fun s => (by first | exact opD_fieldAddr fo137_1 (ls rfl (ls rfl (ls rfl (ls rfl (ls rfl (ls rfl (os rfl (os rfl (os rfl (os rfl oz)))))))))) | exact opD_fieldAddr_el fo137_1 (ls rfl (ls rfl (ls rfl (ls rfl (ls rfl (ls rfl (os rfl (os rfl (os rfl (os rfl oz)))))))))))) ?_
      refine dtl _ (fun s' => s'.boxes[s.boxes.length + 0]? = some ⟨137, itC (⟨x.Who, nxt t.N x.Who, x.Space, x.Gen, x.Txn⟩ : Itm)⟩) rfl (fun s' hB => opD_load_one (p := pl (.int .u64 (⟨x.Who, nxt t.N x.Who, x.Space, x.Gen, x.Txn⟩ : Itm).No)) ag22 lz hB rfl) ?_
      refine dtp _ rfl (fun s => opD_build_struct (rs := [_, _]) Go.Proofs.Tryd.underlying198 pt198 zt198 (parts_cons (cells1 (ls rfl (ls rfl lz)) (by first | exact one_pl rfl | exact one_sl _ _ _ _ | exact one_ptr _ _ | exact one_ifc _ _)) (parts_cons (cells1 lz (by first | exact one_pl rfl | exact one_sl _ _ _ _ | exact one_ptr _ _ | exact one_ifc _ _)) parts_nil)) rfl) ?_
      refine dtl _ (fun s' => s'.boxes[s.boxes.length + 0]? = some ⟨137, itC (⟨x.Who, nxt t.N x.Who, x.Space, x.Gen, x.Txn⟩ : Itm)⟩) rfl (fun s' hB => opD_load_agg ag137 sz137 (ls rfl (ls rfl (ls rfl (ls rfl (ls rfl (ls rfl (ls rfl (ls rfl (ls rfl (os rfl (os rfl (os rfl (os rfl oz))))))))))))) hB (Nat.le_refl 5)) ?_
      refine dta _ rfl (opD_U (get_lt hB12) (opD_mapUpdate (K := K1) (k := (x.Who, nxt t.N x.Who)) (v := (⟨x.Who, nxt t.N x.Who, x.Space, x.Gen, x.Txn⟩ : Itm)) Go.Proofs.Tryd.underlying196 kl1 (ls rfl (ls rfl (ls rfl (ls rfl (ls rfl (ls rfl lz)))))) ((le_of_eq (ls rfl lz)).trans (key_le _ _)) ((le_of_eq lz).trans (it_le _)) (old_get hB12))) ?_
      refine .nil ?_
      dsimp only [List.nil_append, List.cons_append]
      refine ⟨rfl, ⟨trivial, trivial, trivial, ⟨(by first | exact loc_get rfl | exact old_get (by assumption) | exact loc_getS (upd_boxes_length _ _ _) rfl), trivial⟩, trivial, ⟨(by first | exact loc_get rfl | exact old_get (by assumption) | exact loc_getS (upd_boxes_length _ _ _) rfl), trivial⟩, trivial, ⟨(by first | exact loc_get rfl | exact old_get (by assumption) | exact loc_getS (upd_boxes_length _ _ _) rfl), trivial⟩, trivial, ⟨(by first | exact loc_get rfl | exact old_get (by assumption) | exact loc_getS (upd_boxes_length _ _ _) rfl), trivial⟩, trivial, trivial⟩, ?_⟩
      refine aw_keep [(10, _), (6, _), (5, _), (4, _), (3, _), (0, _), (1, _)] ⟨lg (lx (ls rfl (ls rfl (ls rfl (ls rfl (ls rfl (ls rfl (ls rfl (ls rfl (ls rfl (ls rfl oz))))))))))), lg (lx (ls rfl (ls rfl (ls rfl (ls rfl (ls rfl (ls rfl (ls rfl (ls rfl (ls rfl (ls rfl (os rfl oz)))))))))))), lg (lx (ls rfl (ls rfl (ls rfl (ls rfl (ls rfl (ls rfl (ls rfl (ls rfl (ls rfl (ls rfl (os rfl (os rfl oz))))))))))))), lg (lx (ls rfl (ls rfl (ls rfl (ls rfl (ls rfl (ls rfl (ls rfl (ls rfl (ls rfl (ls rfl (os rfl (os rfl (os rfl oz)))))))))))))), lg (lx (ls rfl (ls rfl (ls rfl (ls rfl (ls rfl (ls rfl (ls rfl (ls rfl (ls rfl (ls rfl (os rfl (os rfl (os rfl (os rfl oz))))))))))))))), lg (lx (ls rfl (ls rfl (ls rfl (ls rfl (ls rfl (ls rfl (ls rfl (ls rfl (ls rfl (ls rfl (os rfl (os rfl (os rfl (os rfl (os rfl oz)))))))))))))))), lg (lx (ls rfl (ls rfl (ls rfl (ls rfl (ls rfl (ls rfl (ls rfl (ls rfl (ls rfl (ls rfl (os rfl (os rfl (os rfl (os rfl (os rfl (os rfl oz))))))))))))))))), trivial⟩ ?_
      refine aw_seq ?_
      refine aw_region (by decide) ?_
      refine rts _ rfl ((by first | exact opD_fieldAddr fo137_1 (os rfl (os rfl (os rfl (os rfl oz)))) | exact opD_fieldAddr_el fo137_1 (os rfl (os rfl (os rfl (os rfl oz)))))) ?_
      refine rts _ rfl (opD_load_one (p := pl (.int .u64 (⟨x.Who, nxt t.N x.Who, x.Space, x.Gen, x.Txn⟩ : Itm).No)) ag22 lz (loc_getS ((upd_boxes_length _ _ _).trans (upd_boxes_length _ _ _)) (B := ⟨137, itC (⟨x.Who, nxt t.N x.Who, x.Space, x.Gen, x.Txn⟩ : Itm)⟩) rfl) rfl) ?_
      refine rts _ rfl (opD_assign lz) ?_
      refine rts _ rfl (opD_assign (ev_const _ _)) ?_
      refine .nil ?_
      refine aw_keep [(5, _), (4, _), (10, _), (6, _), (3, _), (0, _), (1, _)] ⟨lg lz, lg (ls rfl lz), lg (ls rfl (ls rfl (ls rfl (ls rfl oz)))), lg (ls rfl (ls rfl (ls rfl (ls rfl (os rfl oz))))), lg (ls rfl (ls rfl (ls rfl (ls rfl (os rfl (os rfl (os rfl (os rfl oz)))))))), lg (ls rfl (ls rfl (ls rfl (ls rfl (os rfl (os rfl (os rfl (os rfl (os rfl oz))))))))), lg (ls rfl (ls rfl (ls rfl (ls rfl (os rfl (os rfl (os rfl (os rfl (os rfl (os rfl oz)))))))))), trivial⟩ ?_
      refine aw_ret ?_
      exact done_up (((UpOk.refl s).upd mb_bnd).upd mb_bnd) (.inr rfl) (res_2 rfl (eg (os rfl oz)) (eg oz)) (tup_bnd (bnd_cons (pl_bnd _ _ _) (bnd_cons (pl_bnd _ _ _) bnd_nil)))
end Go.Proofs.YtmnhfpcbfdgbcaaDoor.Eng.Hf


namespace Go.Proofs.YtmnhfpcbfdgbcaaDoor.Eng.Hg
set_option linter.unusedVariables false
set_option linter.unusedSimpArgs false
open Go.RowKit Go.Proofs.YtmnhfpcbfdgbcaaDoor.Plain Go.Proofs.YtmnhfpcbfdgbcaaDoor.Eng

theorem ag22 : aggT Go.Proofs.Tryd.prog 22 = some false := by kernel_rfl
theorem fo137_2 : fieldOff Go.Proofs.Tryd.prog 137 2 = some 2 := by kernel_rfl
theorem ag198 : aggT Go.Proofs.Tryd.prog 198 = some true := by kernel_rfl
theorem sz198 : sizeT Go.Proofs.Tryd.prog 198 = some 2 := by kernel_rfl
theorem ag137 : aggT Go.Proofs.Tryd.prog 137 = some true := by kernel_rfl
theorem sz137 : sizeT Go.Proofs.Tryd.prog 137 = some 5 := by kernel_rfl
theorem ht116 : hasText Go.Proofs.Tryd.prog 116 = true := by kernel_rfl
theorem zt198 : zeroT Go.Proofs.Tryd.prog 198 = some [.int .u64 0, .int .u64 0] := by kernel_rfl
theorem zt137 : zeroT Go.Proofs.Tryd.prog 137 = some [.int .u64 0, .int .u64 0, .int .u64 0, .int .u64 0, .int .u64 0] := by kernel_rfl

open Go.Proofs.YtmnhfpcbfdgbcaaDoor.Eng.A Go.Proofs.YtmnhfpcbfdgbcaaDoor.Eng.Hb Go.Proofs.YtmnhfpcbfdgbcaaDoor.Eng.Hc Go.Proofs.YtmnhfpcbfdgbcaaDoor.Eng.Hd Go.Proofs.YtmnhfpcbfdgbcaaDoor.Eng.He Go.Proofs.YtmnhfpcbfdgbcaaDoor.Eng.Hf Go.Proofs.YtmnhfpcbfdgbcaaDoor.Eng.Er Go.Proofs.YtmnhfpcbfdgbcaaDoor.Eng.Rd Go.Proofs.YtmnhfpcbfdgbcaaDoor.Eng.Pk
abbrev El := ((Int × Int) × Itm) × Nat
/-- What is left when these have been seen. -/
def lft (sp : Int) (vs : List El) (lm : List El) : List El := lm.filter fun z => !(decide (z.2 ∈ vs.map (·.2)) && decide (z.1.2.Space = sp))
theorem lft_nil (sp : Int) (lm : List El) : lft sp [] lm = lm := List.filter_eq_self.2 fun _ _ => by simp
theorem lft_sub {sp : Int} {vs lm : List El} {z : El} (h : z ∈ lft sp vs lm) : z ∈ lm := (List.mem_filter.1 h).1
theorem mem_snoc {vs : List El} {y z : El} (h : ¬ z.2 = y.2) : decide (z.2 ∈ (vs ++ [y]).map (·.2)) = decide (z.2 ∈ vs.map (·.2)) := decide_eq_decide.2 (by rw [map_snoc, List.mem_append]; simp only [List.mem_singleton]; exact ⟨fun q => q.resolve_right h, .inl⟩)
theorem lft_gone {sp : Int} {vs lm : List El} {c : Nat} {y : El} (hb : Born lm c) (hy : y ∈ lm) (h : y.1.2.Space = sp) : (lft sp vs lm).filter (fun u => decide (u.2 ≠ y.2)) = lft sp (vs ++ [y]) lm := by
  unfold lft
  rw [List.filter_filter]
  refine List.filter_congr fun z hz => ?_
  by_cases hzy : z.2 = y.2
  · have := born_same hb hy hz hzy
    subst this
    simp [h]
  · rw [mem_snoc hzy] <;> simp [hzy]
theorem lft_kept {sp : Int} {vs lm : List El} {c : Nat} {y : El} (hb : Born lm c) (hy : y ∈ lm) (h : ¬ y.1.2.Space = sp) : lft sp vs lm = lft sp (vs ++ [y]) lm := by
  unfold lft
  refine List.filter_congr fun z hz => ?_
  by_cases hzy : z.2 = y.2
  · have := born_same hb hy hz hzy
    subst this
    simp [h]
  · rw [mem_snoc hzy] <;> simp [hzy]
theorem lft_all {sp : Int} {vs lm : List El} (hp : (vs ++ []).Perm lm) : lft sp vs lm = lm.filter fun z => decide (¬ z.1.2.Space = sp) := by
  unfold lft
  rw [List.append_nil] at hp
  refine List.filter_congr fun z hz => ?_
  have : z.2 ∈ vs.map (·.2) := List.mem_map_of_mem (hp.symm.subset hz)
  rw [decide_eq_true this]; simp
theorem lft_rem {sp : Int} {vs rem lm : List El} {c : Nat} (hb : Born lm c) (hp : (vs ++ rem).Perm lm) (h : ∀ y ∈ lft sp vs lm, y.2 ∈ vs.map (·.2)) : rem = [] :=
  rem_nil hb hp fun y hy => by
    by_cases hm : y.2 ∈ vs.map (·.2)
    · exact hm
    · exact h y (List.mem_filter.2 ⟨hy, by rw [decide_eq_false hm]; rfl⟩)
theorem nodup_lft {sp : Int} {vs lm : List El} (h : (lm.map fun z => z.1.1).Nodup) : ((lft sp vs lm).map fun z => z.1.1).Nodup := (List.Sublist.map _ List.filter_sublist).nodup h

set_option maxRecDepth 100000 in
set_option maxHeartbeats 1000000 in
theorem t_gone {k : Int × Int} {x : Itm} {sp : Int} {s : St} {gs : Nat} (hG : s.boxes[gs]? = some ⟨22, [pl (.int .u64 sp)]⟩) : AC Go.Proofs.Tryd.prog 116 [agg [pl (.int .u64 k.1), pl (.int .u64 k.2)], agg (itC x), ptr gs 0] s (pl (.bool (decide (x.Space = sp)))) s := by
  refine ac_of_aw s.boxes.length s.fr.length Go.Proofs.Tryd.func116 rfl (by simp [Go.Proofs.Tryd.ntmps116]) ?_
  refine aw_ext0 ?_
  refine aw_keep [(0, _), (1, _), (2, _)] ⟨lg ez, lg (es ez), lg (es (es ez)), trivial⟩ ?_
  refine aw_seq ?_
  refine aw_region (by decide) ?_
  refine rts _ rfl (opD_boxA oz (by repeat (first | exact bnd_nil | refine bnd_cons (by first | exact pl_bnd _ _ _ | exact sl_bnd (kI_bnd _ _ _ _) | exact ptr_bnd _ (by omega)) ?_)) (by first | exact List.length_nil | (simp only [List.length_cons, List.length_nil, Nat.zero_add, Nat.reduceAdd]; rfl)) (by simp only [List.nil_append, List.cons_append, List.map_cons, List.map_nil, List.set_cons_zero, List.set_cons_succ, List.take_succ_cons, List.take_zero, List.drop_succ_cons, List.drop_zero]; rfl)) ?_
  refine rts _ rfl (opD_boxA (ls rfl (os rfl oz)) (by repeat (first | exact bnd_nil | refine bnd_cons (by first | exact pl_bnd _ _ _ | exact sl_bnd (kI_bnd _ _ _ _) | exact ptr_bnd _ (by omega)) ?_)) (by first | exact List.length_nil | (simp only [List.length_cons, List.length_nil, Nat.zero_add, Nat.reduceAdd]; rfl)) (by simp only [List.nil_append, List.cons_append, List.map_cons, List.map_nil, List.set_cons_zero, List.set_cons_succ, List.take_succ_cons, List.take_zero, List.drop_succ_cons, List.drop_zero]; rfl)) ?_
  refine rts _ rfl (opD_assign (ev_const _ _)) ?_
  refine .nil ?_
  refine aw_keep [(5, _), (4, _), (0, _), (1, _), (2, _)] ⟨lg lz, lg (ls rfl lz), lg (ls rfl (ls rfl (ls rfl oz))), lg (ls rfl (ls rfl (ls rfl (os rfl oz)))), lg (ls rfl (ls rfl (ls rfl (os rfl (os rfl oz))))), trivial⟩ ?_
  refine aw_seq ?_
  refine aw_region (by decide) ?_
  refine rts _ rfl ((by first | exact opD_fieldAddr fo137_2 (os rfl oz) | exact opD_fieldAddr_el fo137_2 (os rfl oz))) ?_
  refine rts _ rfl (opD_load_one (p := pl (.int .u64 x.Space)) ag22 lz (loc_get (B := ⟨137, itC x⟩) rfl) rfl) ?_
  refine rts _ rfl (opD_load_one ag22 (ls rfl (ls rfl (os rfl (os rfl (os rfl (os rfl oz)))))) (old_get hG) rfl) ?_
  refine rts _ rfl (opD_eql (ls rfl lz) lz) ?_
  refine rts _ rfl (opD_assign lz) ?_
  refine .nil ?_
  refine aw_keep [(5, _), (4, _), (0, _), (1, _), (2, _)] ⟨lg lz, lg (ls rfl (ls rfl (ls rfl (ls rfl (ls rfl (os rfl oz)))))), lg (ls rfl (ls rfl (ls rfl (ls rfl (ls rfl (os rfl (os rfl oz))))))), lg (ls rfl (ls rfl (ls rfl (ls rfl (ls rfl (os rfl (os rfl (os rfl oz)))))))), lg (ls rfl (ls rfl (ls rfl (ls rfl (ls rfl (os rfl (os rfl (os rfl (os rfl oz))))))))), trivial⟩ ?_
  refine aw_ret ?_
  exact done_ext (.inr rfl) (res_1 rfl (eg oz)) (pl_bnd _ _ _)

set_option maxRecDepth 100000 in
set_option maxHeartbeats 1000000 in
theorem t_delf {c : Nat} {lm : List El} {sp : Int} {s : St} {g1 gs : Nat} (hne : gs ≠ g1) (hX : s.boxes[g1]? = some (MX K1 lm c)) (hG : s.boxes[gs]? = some ⟨22, [pl (.int .u64 sp)]⟩) (hb : Born lm c) (hnd : (lm.map fun z => z.1.1).Nodup) : AC Go.Proofs.Tryd.prog 115 [mref g1, fnc 116 (ptr gs 0)] s (pl (.tuple #[])) (s.upd g1 (MX K1 (lm.filter fun z => decide (¬ z.1.2.Space = sp)) c)) := by
  have hg1 := get_lt hX
  refine ac_of_aw s.boxes.length s.fr.length Go.Proofs.Tryd.func115 rfl (by simp [Go.Proofs.Tryd.ntmps115]) ?_
  refine aw_ext0 ?_
  refine aw_keep [(0, _), (1, _)] ⟨lg ez, lg (es ez), trivial⟩ ?_
  refine aw_seq ?_
  refine aw_region (by decide) ?_
  refine rts _ rfl (opD_move oz) ?_
  refine rts _ rfl (opD_rangeX (K := K1) (n := 0) Go.Proofs.Tryd.underlying196 lz hX rfl rfl) ?_
  refine .nil ?_
  refine aw_keep [(7, _), (0, _), (1, _)] ⟨lg lz, lg (ls rfl (ls rfl oz)), lg (ls rfl (ls rfl (os rfl oz))), trivial⟩ ?_
  refine aw_block ?_
  refine aw_loop (fun n e st => ∃ (vs rem : List El), Holds e [(0, mref g1), (1, fnc 116 (ptr gs 0)), (7, ptv (s.boxes.length + 0) 1 0)] ∧ st = (s.upd g1 (MX K1 (lft sp vs lm) c)).ext [IT g1 c (vs.map (·.2))] [] ∧ n = rem.length ∧ (vs ++ rem).Perm lm) (lm.length) (⟨[], lm, ⟨le_of_eq (eg (os rfl oz)), le_of_eq (eg (os rfl (os rfl oz))), le_of_eq (eg oz), trivial⟩, by rw [lft_nil, upd_self hX]; rfl, rfl, List.Perm.refl _⟩) ?_
  rintro n e st ⟨vs, rem, hH, rfl, rfl, hp⟩
  rw [show s.boxes.length = (s.upd g1 (MX K1 (lft sp vs lm) c)).boxes.length from (upd_boxes_length _ _ _).symm] at hH
  refine aw_keep _ hH ?_
  refine aw_cut (s.boxes.length + 1) (s.fr.length + 0) (by rw [ext_boxes_length, upd_boxes_length]; exact Nat.le_refl _) (by rw [ext_fr_length]; exact Nat.le_refl _) ?_
  refine aw_seq ?_
  refine aw_region_n (by decide) rfl (opN_next (os rfl (os rfl oz)) (loc_get rfl) (old_get (upd_same hX)) (born_filter hb _)) ?_
  rintro p s1 (⟨rfl, rfl, hall⟩ | ⟨y, hy, hys, rfl, rfl⟩)
  · skip
    refine rts _ rfl (opD_extract_pl lz (v := .bool false) rfl) ?_
    refine .nil ?_
    refine aw_keep [(9, _), (0, _), (1, _), (7, _)] ⟨lg lz, lg (ls rfl (ls rfl oz)), lg (ls rfl (ls rfl (os rfl oz))), lg (ls rfl (ls rfl (os rfl (os rfl oz)))), trivial⟩ ?_
    refine aw_seq ?_
    refine aw_cond _ oz (fun hc => ?_) (fun hc => ?_)
    · skip
      exfalso; revert hc; simp
    · skip
      refine aw_exit ?_
      refine cut_no ?_
      have hr0 := lft_rem hb hp hall
      subst hr0
      rw [← lft_all hp]
      exact done_up ((UpOk.refl s).upd mx_bnd) (.inl rfl) (res_0 rfl) (pl_bnd _ _ _)
  · skip
    rw [ext_upd_loc]
    dsimp only [List.set_cons_succ, List.set_cons_zero]
    refine rts _ rfl (opD_extract_pl lz (v := .bool true) rfl) ?_
    refine .nil ?_
    refine aw_keep [(9, _), (0, _), (1, _), (7, _)] ⟨lg lz, lg (ls rfl (ls rfl oz)), lg (ls rfl (ls rfl (os rfl oz))), lg (ls rfl (ls rfl (os rfl (os rfl oz)))), trivial⟩ ?_
    refine aw_seq ?_
    refine aw_cond _ oz (fun hc => ?_) (fun hc => ?_)
    · skip
      refine aw_skip ?_
      refine aw_keep [(9, _), (0, _), (1, _), (7, _)] ⟨lg oz, lg (os rfl oz), lg (os rfl (os rfl oz)), lg (os rfl (os rfl (os rfl oz))), trivial⟩ ?_
      refine aw_block ?_
      refine aw_seq ?_
      refine aw_region (by decide) ?_
      refine rts _ rfl (opD_entry (y := y) (os rfl (os rfl (os rfl oz))) (loc_get rfl) (old_get (upd_same hX)) (born_filter hb _) hy) ?_
      refine rts _ rfl (opD_le (opD_extract_pl lz (v := K1.ek y.1.1) rfl) (key_ge _)) ?_
      refine rts _ rfl (opD_le (opD_extract_pl (ls rfl lz) (v := K1.ev y.1.2) rfl) (it_ge _)) ?_
      refine rts _ rfl (opD_allocX zt198 (by first | exact List.length_nil | (simp only [List.length_cons, List.length_nil, Nat.zero_add, Nat.reduceAdd]; rfl)) (by simp only [List.nil_append, List.cons_append, List.map_cons, List.map_nil, List.set_cons_zero, List.set_cons_succ, List.take_succ_cons, List.take_zero, List.drop_succ_cons, List.drop_zero]; rfl)) ?_
      refine rts _ rfl (opD_allocX zt137 (by first | exact List.length_nil | (simp only [List.length_cons, List.length_nil, Nat.zero_add, Nat.reduceAdd]; rfl)) (by simp only [List.nil_append, List.cons_append, List.map_cons, List.map_nil, List.set_cons_zero, List.set_cons_succ, List.take_succ_cons, List.take_zero, List.drop_succ_cons, List.drop_zero]; rfl)) ?_
      refine rts _ rfl (opD_storeA sz198 (ls rfl lz) (ls rfl (ls rfl (ls rfl lz))) (by repeat (first | exact ones_nil | refine ones_cons (by first | exact one_pl rfl | exact one_sl _ _ _ _ | exact one_ptr _ _) ?_)) rfl rfl (Nat.le_of_ble_eq_true rfl) (List.cons_ne_nil _ _) (by repeat (first | exact bnd_nil | refine bnd_cons (by first | exact pl_bnd _ _ _ | exact mref_bnd _ (by omega) | exact fnc_bnd (ptr_bnd _ (by have := get_lt hG; omega)) | exact ptv_bnd _ (by rw [upd_boxes_length]; omega) | exact ptv_bnd _ (by omega)) ?_)) (by simp only [List.nil_append, List.cons_append, List.map_cons, List.map_nil, List.set_cons_zero, List.set_cons_succ, List.take_succ_cons, List.take_zero, List.drop_succ_cons, List.drop_zero]; rfl) (by simp only [List.nil_append, List.cons_append, List.map_cons, List.map_nil, List.set_cons_zero, List.set_cons_succ, List.take_succ_cons, List.take_zero, List.drop_succ_cons, List.drop_zero]; rfl)) ?_
      refine rts _ rfl (opD_storeA sz137 (lx lz) (lx (ls rfl (ls rfl lz))) (by repeat (first | exact ones_nil | refine ones_cons (by first | exact one_pl rfl | exact one_sl _ _ _ _ | exact one_ptr _ _) ?_)) rfl rfl (Nat.le_of_ble_eq_true rfl) (List.cons_ne_nil _ _) (by repeat (first | exact bnd_nil | refine bnd_cons (by first | exact pl_bnd _ _ _ | exact mref_bnd _ (by omega) | exact fnc_bnd (ptr_bnd _ (by have := get_lt hG; omega)) | exact ptv_bnd _ (by rw [upd_boxes_length]; omega) | exact ptv_bnd _ (by omega)) ?_)) (by simp only [List.nil_append, List.cons_append, List.map_cons, List.map_nil, List.set_cons_zero, List.set_cons_succ, List.take_succ_cons, List.take_zero, List.drop_succ_cons, List.drop_zero]; rfl) (by simp only [List.nil_append, List.cons_append, List.map_cons, List.map_nil, List.set_cons_zero, List.set_cons_succ, List.take_succ_cons, List.take_zero, List.drop_succ_cons, List.drop_zero]; rfl)) ?_
      refine .nil ?_
      refine aw_keep [(5, _), (4, _), (9, _), (0, _), (1, _), (7, _)] ⟨lg (lx (lx lz)), lg (lx (lx (ls rfl lz))), lg (lx (lx (ls rfl (ls rfl (ls rfl (ls rfl (ls rfl oz))))))), lg (lx (lx (ls rfl (ls rfl (ls rfl (ls rfl (ls rfl (os rfl oz)))))))), lg (lx (lx (ls rfl (ls rfl (ls rfl (ls rfl (ls rfl (os rfl (os rfl oz))))))))), lg (lx (lx (ls rfl (ls rfl (ls rfl (ls rfl (ls rfl (os rfl (os rfl (os rfl oz)))))))))), trivial⟩ ?_
      refine aw_seq ?_
      refine aw_region (by decide) ?_
      refine rts _ rfl (opD_move (os rfl (os rfl (os rfl (os rfl oz))))) ?_
      refine rts _ rfl (opD_load_agg ag198 sz198 (ls rfl (os rfl oz)) (loc_get (i := 1) rfl) (Nat.le_refl 2)) ?_
      refine rts _ rfl (opD_load_agg ag137 sz137 (ls rfl (ls rfl oz)) (loc_get (i := 2) rfl) (Nat.le_refl 5)) ?_
      refine rts _ rfl (opD_callC (ps := [agg [pl (.int .u64 y.1.1.1), pl (.int .u64 y.1.1.2)], agg (itC y.1.2)]) (ls rfl (ls rfl lz)) ht116 (t_gone (old_get (upd_other hne hG))) ⟨le_of_eq (ls rfl lz), le_of_eq lz, trivial⟩) ?_
      refine .nil ?_
      refine aw_keep [(16, _), (5, _), (4, _), (9, _), (0, _), (1, _), (7, _)] ⟨lg lz, lg (ls rfl (ls rfl (ls rfl (ls rfl oz)))), lg (ls rfl (ls rfl (ls rfl (ls rfl (os rfl oz))))), lg (ls rfl (ls rfl (ls rfl (ls rfl (os rfl (os rfl oz)))))), lg (ls rfl (ls rfl (ls rfl (ls rfl (os rfl (os rfl (os rfl oz))))))), lg (ls rfl (ls rfl (ls rfl (ls rfl (os rfl (os rfl (os rfl (os rfl oz)))))))), lg (ls rfl (ls rfl (ls rfl (ls rfl (os rfl (os rfl (os rfl (os rfl (os rfl oz))))))))), trivial⟩ ?_
      refine aw_cond _ oz (fun hc => ?_) (fun hc => ?_)
      · skip
        have hw : y.1.2.Space = sp := of_decide_eq_true hc
        refine aw_region (by decide) ?_
        refine rts _ rfl (opD_move (os rfl (os rfl (os rfl (os rfl oz))))) ?_
        refine rts _ rfl (opD_load_agg ag198 sz198 (ls rfl (os rfl (os rfl oz))) (loc_get (i := 1) rfl) (Nat.le_refl 2)) ?_
        refine rts _ rfl (opD_UU hg1 (opD_deleteX (K := K1) (z := y) rfl Go.Proofs.Tryd.underlying196 kl1 (ls rfl lz) ((le_of_eq lz).trans (key_le _ _)) (old_get (upd_same hX)) (born_filter hb _) (nodup_lft hnd) hy)) ?_
        refine .nil ?_
        refine cut_yesU (s := s) ((UpOk.refl _).upd_upd mx_bnd) (upd_boxes_length _ _ _) rfl (l := [(0, _), (1, _), (7, _)]) ⟨lg (lx (ls rfl (ls rfl (os rfl (os rfl (os rfl (os rfl oz))))))), lg (lx (ls rfl (ls rfl (os rfl (os rfl (os rfl (os rfl (os rfl oz)))))))), lg (lx (ls rfl (ls rfl (os rfl (os rfl (os rfl (os rfl (os rfl (os rfl oz))))))))), trivial⟩ (by repeat (first | exact bnd_nil | refine bnd_cons (by first | exact pl_bnd _ _ _ | exact mref_bnd _ (by omega) | exact fnc_bnd (ptr_bnd _ (by have := get_lt hG; omega)) | exact ptv_bnd _ (by rw [upd_boxes_length]; omega) | exact ptv_bnd _ (by omega)) ?_)) (Nat.le_of_ble_eq_true rfl) (Nat.le_of_ble_eq_true rfl) (by simp only [List.nil_append, List.cons_append, List.map_cons, List.map_nil, List.set_cons_zero, List.set_cons_succ, List.take_succ_cons, List.take_zero, List.drop_succ_cons, List.drop_zero]; rfl) (by simp only [List.nil_append, List.cons_append, List.map_cons, List.map_nil, List.set_cons_zero, List.set_cons_succ, List.take_succ_cons, List.take_zero, List.drop_succ_cons, List.drop_zero]; rfl) (bl_cons (fun q hq => by simp [IT] at hq; subst hq; exact itp_bnd _ (by omega)) bl_nil) ?_
        obtain ⟨rem2, q1, q2⟩ := rem_pick hp (lft_sub hy) hys
        refine ⟨rem2.length, by omega, vs ++ [y], rem2, ⟨le_of_eq (eg oz), le_of_eq (eg (os rfl oz)), le_of_eq (eg ((os rfl (os rfl oz)).trans (by rw [upd_boxes_length]))), trivial⟩, by rw [lft_gone hb (lft_sub hy) hw, map_snoc], rfl, q1⟩
      · skip
        have hw : ¬ y.1.2.Space = sp := of_decide_eq_false hc
        refine aw_skip ?_
        refine cut_yesU (s := s) (UpOk.refl _) (upd_boxes_length _ _ _) rfl (l := [(0, _), (1, _), (7, _)]) ⟨lg (os rfl (os rfl (os rfl (os rfl oz)))), lg (os rfl (os rfl (os rfl (os rfl (os rfl oz))))), lg (os rfl (os rfl (os rfl (os rfl (os rfl (os rfl oz)))))), trivial⟩ (by repeat (first | exact bnd_nil | refine bnd_cons (by first | exact pl_bnd _ _ _ | exact mref_bnd _ (by omega) | exact fnc_bnd (ptr_bnd _ (by have := get_lt hG; omega)) | exact ptv_bnd _ (by rw [upd_boxes_length]; omega) | exact ptv_bnd _ (by omega)) ?_)) (Nat.le_of_ble_eq_true rfl) (Nat.le_of_ble_eq_true rfl) (by simp only [List.nil_append, List.cons_append, List.map_cons, List.map_nil, List.set_cons_zero, List.set_cons_succ, List.take_succ_cons, List.take_zero, List.drop_succ_cons, List.drop_zero]; rfl) (by simp only [List.nil_append, List.cons_append, List.map_cons, List.map_nil, List.set_cons_zero, List.set_cons_succ, List.take_succ_cons, List.take_zero, List.drop_succ_cons, List.drop_zero]; rfl) (bl_cons (fun q hq => by simp [IT] at hq; subst hq; exact itp_bnd _ (by omega)) bl_nil) ?_
        obtain ⟨rem2, q1, q2⟩ := rem_pick hp (lft_sub hy) hys
        refine ⟨rem2.length, by omega, vs ++ [y], rem2, ⟨le_of_eq (eg oz), le_of_eq (eg (os rfl oz)), le_of_eq (eg ((os rfl (os rfl oz)).trans (by rw [upd_boxes_length]))), trivial⟩, by rw [← lft_kept hb (lft_sub hy) hw, map_snoc], rfl, q1⟩
    · skip
      exfalso; revert hc; simp
end Go.Proofs.YtmnhfpcbfdgbcaaDoor.Eng.Hg


namespace Go.Proofs.YtmnhfpcbfdgbcaaDoor.Eng.Hh
set_option linter.unusedVariables false
set_option linter.unusedSimpArgs false
open Go.RowKit Go.Proofs.YtmnhfpcbfdgbcaaDoor.Plain Go.Proofs.YtmnhfpcbfdgbcaaDoor.Eng

theorem ht115 : hasText Go.Proofs.Tryd.prog 115 = true := by kernel_rfl
theorem fo201_0 : fieldOff Go.Proofs.Tryd.prog 201 0 = some 0 := by kernel_rfl
theorem ag196 : aggT Go.Proofs.Tryd.prog 196 = some false := by kernel_rfl

open Go.Proofs.YtmnhfpcbfdgbcaaDoor.Eng.A Go.Proofs.YtmnhfpcbfdgbcaaDoor.Eng.Hb Go.Proofs.YtmnhfpcbfdgbcaaDoor.Eng.Hc Go.Proofs.YtmnhfpcbfdgbcaaDoor.Eng.Hd Go.Proofs.YtmnhfpcbfdgbcaaDoor.Eng.He Go.Proofs.YtmnhfpcbfdgbcaaDoor.Eng.Hf Go.Proofs.YtmnhfpcbfdgbcaaDoor.Eng.Hg Go.Proofs.YtmnhfpcbfdgbcaaDoor.Eng.Er Go.Proofs.YtmnhfpcbfdgbcaaDoor.Eng.Rd Go.Proofs.YtmnhfpcbfdgbcaaDoor.Eng.Pk
theorem filter_fst (sp : Int) (lm : List El) : (lm.filter fun z => decide (¬ z.1.2.Space = sp)).map (·.1) = (lm.map (·.1)).filter fun z => decide (¬ z.2.Space = sp) := by
  rw [List.filter_map]; rfl

set_option maxRecDepth 100000 in
set_option maxHeartbeats 1000000 in
theorem t_forget_x {c : Nat} {lm : List El} {sp : Int} {s : St} {g1 g2 gT : Nat} (hX : s.boxes[g1]? = some (MX K1 lm c)) (hT : s.boxes[gT]? = some (TBx g1 g2)) (hb : Born lm c) (hnd : (lm.map fun z => z.1.1).Nodup) : AC Go.Proofs.Tryd.prog 73 [ptr gT 0, pl (.int .u64 sp)] s (pl (.tuple #[])) (s.upd g1 (MX K1 (lm.filter fun z => decide (¬ z.1.2.Space = sp)) c)) := by
  have hg1 := get_lt hX
  refine ac_of_aw s.boxes.length s.fr.length Go.Proofs.Tryd.func73 rfl (by simp [Go.Proofs.Tryd.ntmps73]) ?_
  refine aw_ext0 ?_
  refine aw_keep [(0, _), (1, _)] ⟨lg ez, lg (es ez), trivial⟩ ?_
  refine aw_seq ?_
  refine aw_region (by decide) ?_
  refine rts _ rfl (opD_boxO (os rfl oz) (by first | exact one_pl rfl | exact one_sl _ _ _ _ | exact one_ptr _ _) (by first | exact pl_bnd _ _ _ | exact sl_bnd (kI_bnd _ _ _ _) | exact ptr_bnd _ (by omega)) (by first | exact List.length_nil | (simp only [List.length_cons, List.length_nil, Nat.zero_add, Nat.reduceAdd]; rfl)) (by simp only [List.nil_append, List.cons_append, List.map_cons, List.map_nil, List.set_cons_zero, List.set_cons_succ, List.take_succ_cons, List.take_zero, List.drop_succ_cons, List.drop_zero]; rfl)) ?_
  refine .nil ?_
  refine aw_keep [(3, _), (0, _), (1, _)] ⟨lg lz, lg (ls rfl oz), lg (ls rfl (os rfl oz)), trivial⟩ ?_
  refine aw_seq ?_
  refine aw_region (by decide) ?_
  refine rts _ rfl (opD_move (os rfl oz)) ?_
  refine rts _ rfl ((by first | exact opD_ptr_neqnil Go.Proofs.Tryd.underlying132 lz | exact opD_nilp_neqnil Go.Proofs.Tryd.underlying132 lz)) ?_
  refine .nil ?_
  refine aw_keep [(5, _), (3, _), (0, _), (1, _)] ⟨lg lz, lg (ls rfl (ls rfl oz)), lg (ls rfl (ls rfl (os rfl oz))), lg (ls rfl (ls rfl (os rfl (os rfl oz)))), trivial⟩ ?_
  refine aw_cond _ oz (fun hc => ?_) (fun hc => ?_)
  · skip
    refine aw_region (by decide) ?_
    refine rts _ rfl (opD_move (os rfl (os rfl oz))) ?_
    refine rts _ rfl ((by first | exact opD_nilCheck_ptr lz | exact opD_nilCheck_el lz)) ?_
    refine rts _ rfl ((by first | exact opD_fieldAddr fo201_0 lz | exact opD_fieldAddr_el fo201_0 lz)) ?_
    refine rts _ rfl ((by first | exact opD_load_one ag196 lz (by first | exact loc_get rfl | exact old_get (by assumption)) rfl | exact opD_load_el_one ag196 lz (by first | assumption | simp) rfl)) ?_
    refine rts _ rfl (opD_makeFunc1 (ls rfl (ls rfl (ls rfl (ls rfl (os rfl oz)))))) ?_
    refine rts _ rfl (opD_U hg1 (opD_call ht115 (t_delf (by omega) (old_get hX) (loc_get rfl) hb hnd) ⟨le_of_eq (ls rfl lz), le_of_eq lz, trivial⟩)) ?_
    refine .nil ?_
    exact done_up (bs := [⟨22, [pl (.int .u64 sp)]⟩]) ((UpOk.refl s).upd mx_bnd) (.inl rfl) (res_0 rfl) (pl_bnd _ _ _)
  · skip
    exfalso; revert hc; simp
end Go.Proofs.YtmnhfpcbfdgbcaaDoor.Eng.Hh

