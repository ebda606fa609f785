/- TLd: what the functions of one package do, walked; used by the laws of this seat. -/
import Derived.Test.YtmnhfpcbfdgbcaaDoorTLe
import Derived.Test.YtmnhfpcbfdgbcaaDoorEngV
namespace Go.Proofs.YtmnhfpcbfdgbcaaDoor.Eng.Ld
set_option linter.unusedVariables false
set_option linter.unusedSimpArgs false
open Go.RowKit Go.Proofs.YtmnhfpcbfdgbcaaDoor.Plain Go.Proofs.YtmnhfpcbfdgbcaaDoor.Eng

theorem ag57 : aggT Go.Proofs.Tryd.prog 57 = some true := by kernel_rfl
theorem sz57 : sizeT Go.Proofs.Tryd.prog 57 = some 2 := by kernel_rfl
theorem zt57 : zeroT Go.Proofs.Tryd.prog 57 = some [.int .u64 0, .slice none 0 0] := by kernel_rfl
theorem ht22 : hasText Go.Proofs.Tryd.prog 22 = true := by kernel_rfl
theorem ht23 : hasText Go.Proofs.Tryd.prog 23 = true := by kernel_rfl
theorem pt57 : placesT Go.Proofs.Tryd.prog 57 2 = some [(0, 1), (1, 1)] := by kernel_rfl
theorem fo57_0 : fieldOff Go.Proofs.Tryd.prog 57 0 = some 0 := by kernel_rfl
theorem ag22 : aggT Go.Proofs.Tryd.prog 22 = some false := by kernel_rfl
theorem ht25 : hasText Go.Proofs.Tryd.prog 25 = true := by kernel_rfl
theorem pt63 : placesT Go.Proofs.Tryd.prog 63 5 = some [(0, 1), (1, 1), (2, 1), (3, 1), (4, 1)] := by kernel_rfl
theorem zt63 : zeroT Go.Proofs.Tryd.prog 63 = some [.int .u64 0, .int .u64 0, .int .u8 0, .int .u16 0, .string ⟨#[]⟩] := by kernel_rfl
theorem sz63 : sizeT Go.Proofs.Tryd.prog 63 = some 5 := by kernel_rfl
theorem ht24 : hasText Go.Proofs.Tryd.prog 24 = true := by kernel_rfl
theorem fo63_4 : fieldOff Go.Proofs.Tryd.prog 63 4 = some 4 := by kernel_rfl
theorem sz9 : sizeT Go.Proofs.Tryd.prog 9 = some 1 := by kernel_rfl
theorem fo57_1 : fieldOff Go.Proofs.Tryd.prog 57 1 = some 1 := by kernel_rfl
theorem ag55 : aggT Go.Proofs.Tryd.prog 55 = some false := by kernel_rfl
theorem ag63 : aggT Go.Proofs.Tryd.prog 63 = some true := by kernel_rfl
theorem el63 : elT Go.Proofs.Tryd.prog 63 = some (5, 40) := by kernel_rfl
theorem sz55 : sizeT Go.Proofs.Tryd.prog 55 = some 1 := by kernel_rfl
theorem mixed : Go.Proofs.Tryd.prog.follows .mixedOrders = true := by kernel_rfl
theorem ht26 : hasText Go.Proofs.Tryd.prog 26 = true := by kernel_rfl
theorem ht47 : hasText Go.Proofs.Tryd.prog 47 = true := by kernel_rfl
theorem cc107 : Go.Proofs.Tryd.prog.concrete 107 = true := by kernel_rfl

open Go.Proofs.YtmnhfpcbfdgbcaaDoor.Eng.Pk Go.Proofs.YtmnhfpcbfdgbcaaDoor.Eng.Rd Go.Proofs.YtmnhfpcbfdgbcaaDoor.Eng.Pb Go.Proofs.YtmnhfpcbfdgbcaaDoor.Eng.Er Go.Proofs.YtmnhfpcbfdgbcaaDoor.Eng.Rf06 Go.Proofs.YtmnhfpcbfdgbcaaDoor.Eng.Lg Go.Proofs.YtmnhfpcbfdgbcaaDoor.Eng.Lc Go.Proofs.YtmnhfpcbfdgbcaaDoor.Eng.Ls Go.Proofs.YtmnhfpcbfdgbcaaDoor.Eng.Lt Go.Proofs.YtmnhfpcbfdgbcaaDoor.Eng.Le
/-- A reader: wrong, it has nothing left. -/
def Inv (N : Nat) (l : List Int) (b : Bool) : Prop := (b = true → l = []) ∧ Bts l ∧ l.length ≤ N
theorem rdByte_same {N : Nat} {l : List Int} {b : Bool} (h : Inv N l b) : rdByte l b = rdByte l false := by
  cases b with
  | false => rfl
  | true => obtain rfl := h.1 rfl; rfl
theorem vget_nil_err : (vget ([] : List Int)).2.2.isSome = true := by decide +kernel
theorem rdNum_same {N most : Nat} {l : List Int} {b : Bool} (h : Inv N l b) : rdNum most l b = rdNum most l false := by
  cases b with
  | false => rfl
  | true => obtain rfl := h.1 rfl; rw [rdNum_err (.inl vget_nil_err), rdNum_err (.inl vget_nil_err)]
theorem rdBytes_same {N most : Nat} {l : List Int} {b : Bool} (h : Inv N l b) : rdBytes most l b = rdBytes most l false := by
  unfold rdBytes; rw [rdNum_same h]
theorem inv_byte {N : Nat} {l : List Int} {b : Bool} (h : Inv N l b) : Inv N (rdByte l b).2.1 (rdByte l b).2.2 := by
  rw [rdByte_same h]
  cases l with
  | nil => exact ⟨fun _ => rfl, (fun x hx => nomatch hx), by simp [rdByte]⟩
  | cons c t => exact ⟨(fun hh => nomatch hh), fun x hx => h.2.1 x (List.mem_cons_of_mem _ hx), by have := h.2.2; simp [rdByte] at *; omega⟩
theorem byte_rng {N : Nat} {l : List Int} {b : Bool} (h : Inv N l b) : 0 ≤ (rdByte l b).1 ∧ (rdByte l b).1 < 256 := by
  cases l with
  | nil => simp [rdByte]
  | cons c t => exact h.2.1 c (List.mem_cons_self)
theorem inv_num0 {N most : Nat} {l : List Int} (h : Inv N l false) : Inv N (rdNum most l false).2.1 (rdNum most l false).2.2 := by
  by_cases hc : (vget l).2.2.isSome = false ∧ ¬ (most : Int) < ((vget l).1 : Int)
  · obtain ⟨he, h2⟩ := rdNum_ok (b := false) hc
    rw [he]
    exact ⟨(fun hh => nomatch hh), fun x hx => h.2.1 x (List.mem_of_mem_drop hx), by have := h.2.2; simp only [List.length_drop]; omega⟩
  · rw [rdNum_err (b := false) (by
        cases ho : (vget l).2.2.isSome with
        | false => rw [ho] at hc; right; simpa using hc
        | true => exact .inl rfl)]
    exact ⟨fun _ => rfl, (fun x hx => nomatch hx), by simp⟩
theorem inv_f {N : Nat} {l : List Int} {b : Bool} (h : Inv N l b) : Inv N l false := ⟨(fun hh => nomatch hh), h.2.1, h.2.2⟩
theorem inv_num {N most : Nat} {l : List Int} {b : Bool} (h : Inv N l b) : Inv N (rdNum most l b).2.1 (rdNum most l b).2.2 := by
  rw [rdNum_same h]; exact inv_num0 (inv_f h)
theorem num_most (most : Nat) (l : List Int) (b : Bool) : (rdNum most l b).1 ≤ most := (rdNum_le most l b).1
theorem inv_bytes {N most : Nat} {l : List Int} {b : Bool} (h : Inv N l b) : Inv N (rdBytes most l b).2.1 (rdBytes most l b).2.2 := by
  rw [rdBytes_same h]
  have hn := inv_num0 (most := most) (inv_f h)
  by_cases hc : (rdNum most l false).2.2 = false ∧ ¬ (((rdNum most l false).2.1.length : Nat) : Int) < (((rdNum most l false).1 : Nat) : Int)
  · obtain ⟨he, h2⟩ := refBytes_good hc
    rw [he]
    exact ⟨(fun hh => nomatch hh), fun x hx => hn.2.1 x (List.mem_of_mem_drop hx), by have := hn.2.2; simp only [List.length_drop]; omega⟩
  · rw [refBytes_bad (by
      cases ho : (rdNum most l false).2.2 with
      | false => rw [ho] at hc; right; simpa using hc
      | true => exact .inl rfl)]
    exact ⟨fun _ => rfl, (fun x hx => nomatch hx), by simp⟩
theorem bytes_bts {N most : Nat} {l : List Int} {b : Bool} (h : Inv N l b) : Bts (rdBytes most l b).1 ∧ (rdBytes most l b).1.length ≤ most := by
  refine ⟨?_, (rdBytes_le most l b).1⟩
  have hn := inv_num (most := most) h
  unfold rdBytes
  split
  · exact fun x hx => hn.2.1 x (List.mem_of_mem_take hx)
  · exact fun x hx => nomatch hx
/-- One line out of a reader. -/
def rdLn (q : Nat) (l : List Int) (b : Bool) : Ln × List Int × Bool :=
  let w := rdNum 4611686018427387904 l b
  let k := rdByte w.2.1 w.2.2
  let c := rdNum 65535 k.2.1 k.2.2
  let s := rdBytes 40 c.2.1 c.2.2
  (⟨q, w.1, k.1, c.1, strOf s.1⟩, s.2.1, s.2.2)
def decGo (d : Nat) : Nat → Nat → List Ln → List Int → Bool → List Ln × List Int × Bool
  | 0, _, acc, l, b => (acc, l, b)
  | n + 1, i, acc, l, b => decGo d n (i + 1) (acc ++ [(rdLn (d + i + 1) l b).1]) (rdLn (d + i + 1) l b).2.1 (rdLn (d + i + 1) l b).2.2
theorem rdLn_inv {N q : Nat} {l : List Int} {b : Bool} (h : Inv N l b) : Inv N (rdLn q l b).2.1 (rdLn q l b).2.2 := inv_bytes (inv_num (inv_byte (inv_num h)))
theorem rdLn_ok {N q : Nat} {l : List Int} {b : Bool} (h : Inv N l b) (hq : q < 18446744073709551616) : LnOk (rdLn q l b).1 := by
  have h1 := num_most 4611686018427387904 l b
  have h2 := byte_rng (inv_num (most := 4611686018427387904) h)
  have h3 := num_most 65535 (rdByte (rdNum 4611686018427387904 l b).2.1 (rdNum 4611686018427387904 l b).2.2).2.1 (rdByte (rdNum 4611686018427387904 l b).2.1 (rdNum 4611686018427387904 l b).2.2).2.2
  have h4 := (bytes_bts (most := 40) (inv_num (most := 65535) (inv_byte (inv_num (most := 4611686018427387904) h)))).2
  refine ⟨hq, ?_, h2, ?_, ?_⟩
  · show (rdNum 4611686018427387904 l b).1 < _; omega
  · show (rdNum 65535 _ _).1 < _; omega
  · show (strOf _).size ≤ _; rw [strOf_size]; omega
/-- What bytes are as a ledger. -/
noncomputable def decR (l : List Int) : Option (Nat × List Ln) :=
  let h := rdNum 4611686018427387904 l false
  let m := rdNum 32 h.2.1 h.2.2
  let g := decGo h.1 m.1 0 [] m.2.1 m.2.2
  if (rdDone g.2.2 g.2.1).isSome = false ∧ lgOk h.1 g.1 = true then some (h.1, g.1) else none
noncomputable def decLg (l : List Int) : Pd := match decR l with | some x => lgP x.1 x.2 | none => lgP 0 []
noncomputable def decE (l : List Int) : Option Int := match decR l with | some _ => none | none => some 3

set_option maxRecDepth 100000 in
set_option maxHeartbeats 4000000 in
theorem lg_decode {l : List Int} (hb : Bts l) (hl : l.length + 10 ≤ 140737488355328) : Pure Go.Proofs.Tryd.prog 38 [sl (kI .u8) none none l] (tup [decLg l, pl (errV (decE l))]) := by
  intro s
  have hI0 : Inv 140737488355328 l false := ⟨(fun hh => nomatch hh), hb, by omega⟩
  have hI1 := inv_num (most := 4611686018427387904) hI0
  have hd1 := num_most 4611686018427387904 l false
  have hI2 := inv_num (most := 32) hI1
  have hn1 := num_most 32 (rdNum 4611686018427387904 l false).2.1 (rdNum 4611686018427387904 l false).2.2
  refine ac_of_aw s.boxes.length s.fr.length Go.Proofs.Tryd.func38 rfl (by simp [Go.Proofs.Tryd.ntmps38]) ?_
  refine aw_ext0 ?_
  refine aw_keep [(0, _)] ⟨lg ez, trivial⟩ ?_
  refine aw_seq ?_
  refine aw_region (by decide) ?_
  refine rts _ rfl (opD_allocX zt57 (by first | exact List.length_nil | (simp only [List.length_cons, List.length_nil, Nat.zero_add, Nat.reduceAdd]; rfl)) (by simp only [List.nil_append, List.cons_append, List.map_cons, List.map_nil, List.set_cons_zero, List.set_cons_succ, List.take_succ_cons, List.take_zero, List.drop_succ_cons, List.drop_zero]; rfl)) ?_
  refine rts _ rfl (opD_assign (ev_const _ _)) ?_
  refine .nil ?_
  refine aw_keep [(3, _), (2, _), (0, _)] ⟨lg lz, lg (ls rfl lz), lg (ls rfl (ls rfl oz)), trivial⟩ ?_
  refine aw_seq ?_
  refine aw_region (by decide) ?_
  refine rts _ rfl (opD_move (os rfl (os rfl oz))) ?_
  refine rts _ rfl (opD_callN ht22 (fun s => rd_new hl s) ⟨le_sl lz, trivial⟩ (by first | exact List.length_nil | (simp only [List.length_cons, List.length_nil, Nat.zero_add, Nat.reduceAdd]; rfl)) (by simp only [List.nil_append, List.cons_append, List.map_cons, List.map_nil, List.set_cons_zero, List.set_cons_succ, List.take_succ_cons, List.take_zero, List.drop_succ_cons, List.drop_zero]; rfl)) ?_
  refine rts _ rfl (opD_assign lz) ?_
  refine .nil ?_
  refine aw_keep [(4, _), (3, _), (2, _), (0, _)] ⟨lg lz, lg (ls rfl (ls rfl (ls rfl oz))), lg (ls rfl (ls rfl (ls rfl (os rfl oz)))), lg (ls rfl (ls rfl (ls rfl (os rfl (os rfl oz))))), trivial⟩ ?_
  refine aw_seq ?_
  refine aw_region (by decide) ?_
  refine rts _ rfl (opD_move oz) ?_
  refine rts _ rfl (opD_callL ht23 (fun s g h => rd_num (most := 4611686018427387904) h hI0.2.1 (by have := hI0.2.2; omega) (by decide)) rfl ⟨le_of_eq lz, le_of_eq (ev_const _ _), trivial⟩ (by simp only [List.nil_append, List.cons_append, List.map_cons, List.map_nil, List.set_cons_zero, List.set_cons_succ, List.take_succ_cons, List.take_zero, List.drop_succ_cons, List.drop_zero]; rfl)) ?_
  refine rts _ rfl (opD_build_struct (rs := [_, _]) Go.Proofs.Tryd.underlying57 pt57 zt57 (parts_cons (cells1 lz (by first | exact one_pl rfl | exact one_sl _ _ _ _ | exact one_ptr _ _ | exact one_ifc _ _)) parts_nil) rfl) ?_
  refine rts _ rfl (opD_allocX zt57 (by first | exact List.length_nil | (simp only [List.length_cons, List.length_nil, Nat.zero_add, Nat.reduceAdd]; rfl)) (by simp only [List.nil_append, List.cons_append, List.map_cons, List.map_nil, List.set_cons_zero, List.set_cons_succ, List.take_succ_cons, List.take_zero, List.drop_succ_cons, List.drop_zero]; rfl)) ?_
  refine rts _ rfl (opD_storeA sz57 lz (ls rfl lz) (by repeat (first | exact ones_nil | refine ones_cons (by first | exact one_pl rfl | exact one_sl _ _ _ _ | exact one_ptr _ _) ?_)) rfl rfl (Nat.le_of_ble_eq_true rfl) (List.cons_ne_nil _ _) (by repeat (first | exact bnd_nil | refine bnd_cons (by first | exact pl_bnd _ _ _ | exact sl_bnd (kL_bnd _ _ _) | exact sl_bnd (kI_bnd _ _ _ _) | exact ptr_bnd _ (by omega) | exact any_bnd _ _ | exact sl_own_bnd (kL_bnd _ _ _) (by omega) | exact sl_own_bnd (kL_bnd _ _ _) (by simp only [List.length_append, List.length_cons, List.length_nil]; omega)) ?_)) (by simp only [List.nil_append, List.cons_append, List.map_cons, List.map_nil, List.set_cons_zero, List.set_cons_succ, List.take_succ_cons, List.take_zero, List.drop_succ_cons, List.drop_zero]; rfl) (by simp only [List.nil_append, List.cons_append, List.map_cons, List.map_nil, List.set_cons_zero, List.set_cons_succ, List.take_succ_cons, List.take_zero, List.drop_succ_cons, List.drop_zero]; rfl)) ?_
  refine .nil ?_
  refine aw_keep [(5, _), (4, _), (3, _), (2, _), (0, _)] ⟨lg (lx lz), lg (lx (ls rfl (ls rfl (ls rfl (ls rfl oz))))), lg (lx (ls rfl (ls rfl (ls rfl (ls rfl (os rfl oz)))))), lg (lx (ls rfl (ls rfl (ls rfl (ls rfl (os rfl (os rfl oz))))))), lg (lx (ls rfl (ls rfl (ls rfl (ls rfl (os rfl (os rfl (os rfl oz)))))))), trivial⟩ ?_
  refine aw_seq ?_
  refine aw_seq ?_
  refine aw_fr ⟨63, 5, 0⟩ ?_
  refine aw_wk (bs' := [⟨57, [pl (.int .u64 0), pl (.slice none 0 0)]⟩, rdNumB 4611686018427387904 l false, ⟨57, [pl (.int .u64 ((rdNum 4611686018427387904 l false).1 : Int)), sl kL (some (s.fr.length + 0)) none []]⟩]) (bxle_same (bxle_same (bxle_cons rfl ⟨Pd.le_refl _, (nil_le kL _).trans (sl_nl _ _ _ _), trivial⟩ bxle_nil))) (bl_cons (by repeat (first | exact bnd_nil | refine bnd_cons (by first | exact pl_bnd _ _ _ | exact sl_bnd (kL_bnd _ _ _) | exact sl_bnd (kI_bnd _ _ _ _) | exact ptr_bnd _ (by omega) | exact any_bnd _ _ | exact sl_own_bnd (kL_bnd _ _ _) (by omega) | exact sl_own_bnd (kL_bnd _ _ _) (by simp only [List.length_append, List.length_cons, List.length_nil]; omega)) ?_)) (bl_cons (rdB_bnd _ _ _ _) (bl_cons (by repeat (first | exact bnd_nil | refine bnd_cons (by first | exact pl_bnd _ _ _ | exact sl_bnd (kL_bnd _ _ _) | exact sl_bnd (kI_bnd _ _ _ _) | exact ptr_bnd _ (by omega) | exact any_bnd _ _ | exact sl_own_bnd (kL_bnd _ _ _) (by omega) | exact sl_own_bnd (kL_bnd _ _ _) (by simp only [List.length_append, List.length_cons, List.length_nil]; omega)) ?_)) bl_nil))) ?_
  refine aw_region (by decide) ?_
  refine rts _ rfl (opD_move (os rfl oz)) ?_
  refine rts _ rfl (opD_callL ht23 (fun s g h => rd_num (most := 32) h hI1.2.1 (by have := hI1.2.2; omega) (by decide)) rfl ⟨le_of_eq lz, le_of_eq (ev_const _ _), trivial⟩ (by simp only [List.nil_append, List.cons_append, List.map_cons, List.map_nil, List.set_cons_zero, List.set_cons_succ, List.take_succ_cons, List.take_zero, List.drop_succ_cons, List.drop_zero]; rfl)) ?_
  refine rts _ rfl (opD_move (ev_const _ _)) ?_
  refine .nil ?_
  refine aw_keep [(15, _), (14, _), (5, _), (4, _), (3, _), (2, _), (0, _)] ⟨lg lz, lg (ls rfl lz), lg (ls rfl (ls rfl (ls rfl oz))), lg (ls rfl (ls rfl (ls rfl (os rfl oz)))), lg (ls rfl (ls rfl (ls rfl (os rfl (os rfl oz))))), lg (ls rfl (ls rfl (ls rfl (os rfl (os rfl (os rfl oz)))))), lg (ls rfl (ls rfl (ls rfl (os rfl (os rfl (os rfl (os rfl oz))))))), trivial⟩ ?_
  refine aw_block ?_
  refine aw_loop (fun n e st => ∃ (i : Nat) (acc : List Ln) (l2 : List Int) (b2 : Bool), Holds e [(2, ptr (s.boxes.length + 0) 0), (4, ptr (s.boxes.length + 1) 0), (5, ptr (s.boxes.length + 2) 0), (14, pl (.int .u64 ((rdNum 32 (rdNum 4611686018427387904 l false).2.1 (rdNum 4611686018427387904 l false).2.2).1 : Int))), (15, pl (.int .u64 (i : Int)))] ∧ st = s.ext [⟨57, [pl (.int .u64 0), pl (.slice none 0 0)]⟩, RdB l2 b2, ⟨57, [pl (.int .u64 ((rdNum 4611686018427387904 l false).1 : Int)), sl kL (some (s.fr.length + 0)) none acc]⟩] [⟨63, 5, acc.length⟩] ∧ n + i = (rdNum 32 (rdNum 4611686018427387904 l false).2.1 (rdNum 4611686018427387904 l false).2.2).1 ∧ Inv 140737488355328 l2 b2 ∧ decGo (rdNum 4611686018427387904 l false).1 n i acc l2 b2 = decGo (rdNum 4611686018427387904 l false).1 (rdNum 32 (rdNum 4611686018427387904 l false).2.1 (rdNum 4611686018427387904 l false).2.2).1 0 [] (rdNum 32 (rdNum 4611686018427387904 l false).2.1 (rdNum 4611686018427387904 l false).2.2).2.1 (rdNum 32 (rdNum 4611686018427387904 l false).2.1 (rdNum 4611686018427387904 l false).2.2).2.2 ∧ acc.length = i ∧ ∀ x ∈ acc, LnOk x) ((rdNum 32 (rdNum 4611686018427387904 l false).2.1 (rdNum 4611686018427387904 l false).2.2).1) (⟨0, [], _, _, ⟨le_of_eq (eg (os rfl (os rfl (os rfl (os rfl (os rfl oz)))))), le_of_eq (eg (os rfl (os rfl (os rfl oz)))), le_of_eq (eg (os rfl (os rfl oz))), le_of_eq (eg (os rfl oz)), le_of_eq (eg oz), trivial⟩, rfl, by omega, hI2, rfl, rfl, (fun x hx => nomatch hx)⟩) ?_
  rintro n e st ⟨i, acc, l2, b2, hH, rfl, hn0, hI, hgo, hal, hacc⟩
  refine aw_keep _ hH ?_
  refine aw_cut (s.boxes.length + 3) (s.fr.length + 1) (by rw [ext_boxes_length]; exact Nat.le_refl _) (by rw [ext_fr_length]; exact Nat.le_refl _) ?_
  refine aw_seq ?_
  refine aw_region (by decide) ?_
  refine rts _ rfl (opD_lss (os rfl (os rfl (os rfl (os rfl oz)))) (os rfl (os rfl (os rfl oz)))) ?_
  refine .nil ?_
  refine aw_keep [(16, _), (2, _), (4, _), (5, _), (14, _), (15, _)] ⟨lg lz, lg (ls rfl oz), lg (ls rfl (os rfl oz)), lg (ls rfl (os rfl (os rfl oz))), lg (ls rfl (os rfl (os rfl (os rfl oz)))), lg (ls rfl (os rfl (os rfl (os rfl (os rfl oz))))), trivial⟩ ?_
  refine aw_seq ?_
  refine aw_cond _ oz (fun hc => ?_) (fun hc => ?_)
  · skip
    have hlt : i < (rdNum 32 (rdNum 4611686018427387904 l false).2.1 (rdNum 4611686018427387904 l false).2.2).1 := by have := of_decide_eq_true hc; omega
    obtain ⟨n, rfl⟩ : ∃ m, n = m + 1 := ⟨n - 1, by omega⟩
    have hJ1 := inv_num (most := 4611686018427387904) hI
    have hJ2 := inv_byte hJ1
    have hJ3 := inv_num (most := 65535) hJ2
    have hlo := rdLn_ok (q := (rdNum 4611686018427387904 l false).1 + i + 1) hI (by omega)
    have hli := rdLn_inv (q := (rdNum 4611686018427387904 l false).1 + i + 1) hI
    have hw1 := num_most 4611686018427387904 l2 b2
    have hr1 := byte_rng hJ1
    have hc1 := num_most 65535 (rdByte (rdNum 4611686018427387904 l2 b2).2.1 (rdNum 4611686018427387904 l2 b2).2.2).2.1 (rdByte (rdNum 4611686018427387904 l2 b2).2.1 (rdNum 4611686018427387904 l2 b2).2.2).2.2
    refine aw_skip ?_
    refine aw_keep [(16, _), (2, _), (4, _), (5, _), (14, _), (15, _)] ⟨lg oz, lg (os rfl oz), lg (os rfl (os rfl oz)), lg (os rfl (os rfl (os rfl oz))), lg (os rfl (os rfl (os rfl (os rfl oz)))), lg (os rfl (os rfl (os rfl (os rfl (os rfl oz))))), trivial⟩ ?_
    refine aw_seq ?_
    refine aw_block ?_
    refine aw_seq ?_
    refine aw_region (by decide) ?_
    refine rts _ rfl (opD_move (os rfl (os rfl (os rfl (os rfl (os rfl oz)))))) ?_
    refine rts _ rfl (opD_assign lz) ?_
    refine .nil ?_
    refine aw_keep [(6, _), (16, _), (2, _), (4, _), (5, _), (14, _), (15, _)] ⟨lg lz, lg (ls rfl (ls rfl oz)), lg (ls rfl (ls rfl (os rfl oz))), lg (ls rfl (ls rfl (os rfl (os rfl oz)))), lg (ls rfl (ls rfl (os rfl (os rfl (os rfl oz))))), lg (ls rfl (ls rfl (os rfl (os rfl (os rfl (os rfl oz)))))), lg (ls rfl (ls rfl (os rfl (os rfl (os rfl (os rfl (os rfl oz))))))), trivial⟩ ?_
    refine aw_seq ?_
    refine aw_drawn2X ⟨63, [pl (.int .u64 0), pl (.int .u64 0), pl (.int .u8 0), pl (.int .u16 0), pl (.string ⟨#[]⟩)]⟩ [false, false, false, false, false, false, true, false, true, false, true, false, false, false, true] [[0, 1, 2, 3], [0, 1, 2, 3], [0, 1, 2, 3], [0, 1, 2, 3], [0, 1, 2, 3], [0], [0, 1], [0, 1], [1, 2], [0, 1, 2], [2, 3], [3], [3], [0, 1, 2, 3], [3, 4]] [(true, true), (true, true), (true, true), (true, true), (true, true), (true, true), (true, true), (true, true), (true, true), (true, true), (true, true), (true, true), (true, true), (true, true), (false, true)] 13 [0, 1, 2, 3] (ptr (s.boxes.length + 3) 0) _ rfl mixed (by decide +kernel) (by simp only [List.nil_append, List.cons_append, List.map_cons, List.map_nil, List.set_cons_zero, List.set_cons_succ, List.take_succ_cons, List.take_zero, List.drop_succ_cons, List.drop_zero]; rfl) ?_
    refine d2p _ rfl rfl (fun s => (by first | exact opD_fieldAddr fo57_0 (os rfl (os rfl (os rfl (os rfl oz)))) | exact opD_fieldAddr_el fo57_0 (os rfl (os rfl (os rfl (os rfl oz)))))) ?_
    refine d2l1 rfl ag22 lz (loc_get rfl) rfl rfl ?_
    refine d2p _ rfl rfl (fun s => opD_move (ls rfl (ls rfl oz))) ?_
    refine d2p _ rfl rfl (fun s => opD_add (r := (((rdNum 4611686018427387904 l false).1 + i : Nat) : Int)) (ls rfl lz) lz ((IntWalk.u64_in _ (by omega)).trans (by omega))) ?_
    refine d2p _ rfl rfl (fun s => opD_add (r := (((rdNum 4611686018427387904 l false).1 + i + 1 : Nat) : Int)) lz (ev_const _ _) ((IntWalk.u64_in _ (by omega)).trans (by omega))) ?_
    refine d2p _ rfl rfl (fun s => opD_move (ls rfl (ls rfl (ls rfl (ls rfl (ls rfl (os rfl (os rfl (os rfl oz))))))))) ?_
    refine d2b _ rfl rfl rfl (opD_callL ht23 (fun s g h => rd_num (most := 4611686018427387904) h hI.2.1 (by have := hI.2.2; omega) (by decide)) rfl ⟨le_of_eq lz, le_of_eq (ev_const _ _), trivial⟩ (by simp only [List.nil_append, List.cons_append, List.map_cons, List.map_nil, List.set_cons_zero, List.set_cons_succ, List.take_succ_cons, List.take_zero, List.drop_succ_cons, List.drop_zero]; rfl)) (opD_callL ht23 (fun s g h => rd_num (most := 4611686018427387904) h hI.2.1 (by have := hI.2.2; omega) (by decide)) rfl ⟨le_of_eq lz, le_of_eq (ev_const _ _), trivial⟩ (by simp only [List.nil_append, List.cons_append, List.map_cons, List.map_nil, List.set_cons_zero, List.set_cons_succ, List.take_succ_cons, List.take_zero, List.drop_succ_cons, List.drop_zero]; rfl)) ?_
    refine d2p _ rfl rfl (fun s => opD_move (ls rfl (ls rfl (ls rfl (ls rfl (ls rfl (ls rfl (ls rfl (os rfl (os rfl (os rfl oz))))))))))) ?_
    refine d2b _ rfl rfl rfl (opD_callL ht25 (fun s g h => rd_byte h) rfl ⟨le_of_eq lz, trivial⟩ (by simp only [List.nil_append, List.cons_append, List.map_cons, List.map_nil, List.set_cons_zero, List.set_cons_succ, List.take_succ_cons, List.take_zero, List.drop_succ_cons, List.drop_zero]; rfl)) (opD_callL ht25 (fun s g h => rd_byte h) rfl ⟨le_of_eq lz, trivial⟩ (by simp only [List.nil_append, List.cons_append, List.map_cons, List.map_nil, List.set_cons_zero, List.set_cons_succ, List.take_succ_cons, List.take_zero, List.drop_succ_cons, List.drop_zero]; rfl)) ?_
    refine d2p _ rfl rfl (fun s => opD_move (ls rfl (ls rfl (ls rfl (ls rfl (ls rfl (ls rfl (ls rfl (ls rfl (ls rfl (os rfl (os rfl (os rfl oz))))))))))))) ?_
    refine d2b _ rfl rfl rfl (opD_callL ht23 (fun s g h => rd_num (most := 65535) h hJ2.2.1 (by have := hJ2.2.2; omega) (by decide)) rfl ⟨le_of_eq lz, le_of_eq (ev_const _ _), trivial⟩ (by simp only [List.nil_append, List.cons_append, List.map_cons, List.map_nil, List.set_cons_zero, List.set_cons_succ, List.take_succ_cons, List.take_zero, List.drop_succ_cons, List.drop_zero]; rfl)) (opD_callL ht23 (fun s g h => rd_num (most := 65535) h hJ2.2.1 (by have := hJ2.2.2; omega) (by decide)) rfl ⟨le_of_eq lz, le_of_eq (ev_const _ _), trivial⟩ (by simp only [List.nil_append, List.cons_append, List.map_cons, List.map_nil, List.set_cons_zero, List.set_cons_succ, List.take_succ_cons, List.take_zero, List.drop_succ_cons, List.drop_zero]; rfl)) ?_
    refine d2p _ rfl rfl (fun s => opD_conv_int Go.Proofs.Tryd.underlying22 Go.Proofs.Tryd.underlying58 lz (by first | exact IntWalk.u16_in _ (by omega) | exact rfl)) ?_
    refine d2p _ rfl rfl (fun s => opD_build_struct (rs := [_, _, _, _, _]) Go.Proofs.Tryd.underlying63 pt63 zt63 (parts_cons (cells1 (ls rfl (ls rfl (ls rfl (ls rfl (ls rfl (ls rfl (ls rfl lz))))))) (by first | exact one_pl rfl | exact one_sl _ _ _ _ | exact one_ptr _ _ | exact one_ifc _ _)) (parts_cons (cells1 (ls rfl (ls rfl (ls rfl (ls rfl (ls rfl lz))))) (by first | exact one_pl rfl | exact one_sl _ _ _ _ | exact one_ptr _ _ | exact one_ifc _ _)) (parts_cons (cells1 (ls rfl (ls rfl (ls rfl lz))) (by first | exact one_pl rfl | exact one_sl _ _ _ _ | exact one_ptr _ _ | exact one_ifc _ _)) (parts_cons (cells1 lz (by first | exact one_pl rfl | exact one_sl _ _ _ _ | exact one_ptr _ _ | exact one_ifc _ _)) parts_nil)))) rfl) ?_
    refine d2f (ptr (s.boxes.length + 3) 0) rfl ?_
    refine d2y _ rfl rfl rfl (opD_storeA sz63 lz (ls rfl lz) (by repeat (first | exact ones_nil | refine ones_cons (by first | exact one_pl rfl | exact one_sl _ _ _ _ | exact one_ptr _ _) ?_)) rfl rfl (Nat.le_of_ble_eq_true rfl) (List.cons_ne_nil _ _) (by repeat (first | exact bnd_nil | refine bnd_cons (by first | exact pl_bnd _ _ _ | exact sl_bnd (kL_bnd _ _ _) | exact sl_bnd (kI_bnd _ _ _ _) | exact ptr_bnd _ (by omega) | exact any_bnd _ _ | exact sl_own_bnd (kL_bnd _ _ _) (by omega) | exact sl_own_bnd (kL_bnd _ _ _) (by simp only [List.length_append, List.length_cons, List.length_nil]; omega)) ?_)) (by simp only [List.nil_append, List.cons_append, List.map_cons, List.map_nil, List.set_cons_zero, List.set_cons_succ, List.take_succ_cons, List.take_zero, List.drop_succ_cons, List.drop_zero]; rfl) (by simp only [List.nil_append, List.cons_append, List.map_cons, List.map_nil, List.set_cons_zero, List.set_cons_succ, List.take_succ_cons, List.take_zero, List.drop_succ_cons, List.drop_zero]; rfl)) ?_
    refine .nil ?_
    dsimp only [List.nil_append, List.cons_append]
    refine ⟨rfl, ⟨trivial, ⟨(by first | exact loc_get rfl | exact old_get (by assumption)), (by first | exact loc_get rfl | exact old_get (by assumption)), (by first | exact loc_get rfl | exact old_get (by assumption)), (by first | exact loc_get rfl | exact old_get (by assumption)), trivial⟩, trivial, trivial, trivial, trivial, trivial, trivial, trivial, trivial, trivial, trivial, trivial, trivial, trivial, trivial⟩, ⟨trivial, ⟨(by first | exact loc_get rfl | exact old_get (by assumption)), (by first | exact loc_get rfl | exact old_get (by assumption)), (by first | exact loc_get rfl | exact old_get (by assumption)), (by first | exact loc_get rfl | exact old_get (by assumption)), trivial⟩, trivial, trivial, trivial, trivial, trivial, trivial, trivial, trivial, trivial, trivial, trivial, trivial, trivial, trivial⟩, ⟨rfl, ⟨(fun e => opD_allocX zt63 rfl rfl), (fun e => opD_allocX zt63 rfl rfl), (fun e => opD_allocX zt63 rfl rfl), (fun e => opD_allocX zt63 rfl rfl), trivial⟩⟩, ?_⟩
    refine aw_keep [(7, _), (6, _), (16, _), (2, _), (4, _), (5, _), (14, _), (15, _)] ⟨lg (lx lz), lg (lx (ls rfl (ls rfl (ls rfl (ls rfl (ls rfl (ls rfl (ls rfl (ls rfl (ls rfl (ls rfl (ls rfl (ls rfl (ls rfl (ls rfl oz))))))))))))))), lg (lx (ls rfl (ls rfl (ls rfl (ls rfl (ls rfl (ls rfl (ls rfl (ls rfl (ls rfl (ls rfl (ls rfl (ls rfl (ls rfl (ls rfl (os rfl oz)))))))))))))))), lg (lx (ls rfl (ls rfl (ls rfl (ls rfl (ls rfl (ls rfl (ls rfl (ls rfl (ls rfl (ls rfl (ls rfl (ls rfl (ls rfl (ls rfl (os rfl (os rfl oz))))))))))))))))), lg (lx (ls rfl (ls rfl (ls rfl (ls rfl (ls rfl (ls rfl (ls rfl (ls rfl (ls rfl (ls rfl (ls rfl (ls rfl (ls rfl (ls rfl (os rfl (os rfl (os rfl oz)))))))))))))))))), lg (lx (ls rfl (ls rfl (ls rfl (ls rfl (ls rfl (ls rfl (ls rfl (ls rfl (ls rfl (ls rfl (ls rfl (ls rfl (ls rfl (ls rfl (os rfl (os rfl (os rfl (os rfl oz))))))))))))))))))), lg (lx (ls rfl (ls rfl (ls rfl (ls rfl (ls rfl (ls rfl (ls rfl (ls rfl (ls rfl (ls rfl (ls rfl (ls rfl (ls rfl (ls rfl (os rfl (os rfl (os rfl (os rfl (os rfl oz)))))))))))))))))))), lg (lx (ls rfl (ls rfl (ls rfl (ls rfl (ls rfl (ls rfl (ls rfl (ls rfl (ls rfl (ls rfl (ls rfl (ls rfl (ls rfl (ls rfl (os rfl (os rfl (os rfl (os rfl (os rfl (os rfl oz))))))))))))))))))))), trivial⟩ ?_
    refine aw_seq ?_
    refine aw_region (by decide) ?_
    refine rts _ rfl (opD_move (os rfl (os rfl (os rfl (os rfl oz))))) ?_
    refine rts _ rfl (opD_callL ht24 (fun s g h => rd_bytes (most := 40) h hJ3.2.1 (by have := hJ3.2.2; omega) (by decide)) rfl ⟨le_of_eq lz, le_of_eq (ev_const _ _), trivial⟩ (by simp only [List.nil_append, List.cons_append, List.map_cons, List.map_nil, List.set_cons_zero, List.set_cons_succ, List.take_succ_cons, List.take_zero, List.drop_succ_cons, List.drop_zero]; rfl)) ?_
    refine rts _ rfl (opD_bytes_str Go.Proofs.Tryd.underlying23 Go.Proofs.Tryd.underlying5 Go.Proofs.Tryd.underlying9 lz) ?_
    refine rts _ rfl ((by first | exact opD_fieldAddr fo63_4 (ls rfl (ls rfl (ls rfl oz))) | exact opD_fieldAddr_el fo63_4 (ls rfl (ls rfl (ls rfl oz))))) ?_
    refine rts _ rfl ((by first | exact opD_storeO sz9 lz (le_of_eq (ls rfl lz)) (by first | exact one_pl rfl | exact one_sl _ _ _ _ | exact one_ptr _ _) rfl (by simp) (by first | exact pl_bnd _ _ _ | exact sl_bnd (kL_bnd _ _ _) | exact sl_bnd (kI_bnd _ _ _ _) | exact ptr_bnd _ (by omega) | exact any_bnd _ _ | exact sl_own_bnd (kL_bnd _ _ _) (by omega) | exact sl_own_bnd (kL_bnd _ _ _) (by simp only [List.length_append, List.length_cons, List.length_nil]; omega)) (by simp only [List.nil_append, List.cons_append, List.map_cons, List.map_nil, List.set_cons_zero, List.set_cons_succ, List.take_succ_cons, List.take_zero, List.drop_succ_cons, List.drop_zero]; rfl) (by simp only [List.nil_append, List.cons_append, List.map_cons, List.map_nil, List.set_cons_zero, List.set_cons_succ, List.take_succ_cons, List.take_zero, List.drop_succ_cons, List.drop_zero]; rfl) | exact opD_storeG sz9 lz (le_of_eq (ls rfl lz)) (by first | exact one_pl rfl | exact one_sl _ _ _ _ | exact one_ptr _ _) hG (by simp) (by first | exact pl_bnd _ _ _ | exact sl_bnd (kL_bnd _ _ _) | exact sl_bnd (kI_bnd _ _ _ _) | exact ptr_bnd _ (by omega) | exact any_bnd _ _ | exact sl_own_bnd (kL_bnd _ _ _) (by omega) | exact sl_own_bnd (kL_bnd _ _ _) (by simp only [List.length_append, List.length_cons, List.length_nil]; omega)) (by simp only [List.nil_append, List.cons_append, List.map_cons, List.map_nil, List.set_cons_zero, List.set_cons_succ, List.take_succ_cons, List.take_zero, List.drop_succ_cons, List.drop_zero]; rfl))) ?_
    refine .nil ?_
    refine aw_keep [(7, _), (6, _), (16, _), (2, _), (4, _), (5, _), (14, _), (15, _)] ⟨lg (lx (ls rfl (ls rfl (ls rfl (ls rfl oz))))), lg (lx (ls rfl (ls rfl (ls rfl (ls rfl (os rfl oz)))))), lg (lx (ls rfl (ls rfl (ls rfl (ls rfl (os rfl (os rfl oz))))))), lg (lx (ls rfl (ls rfl (ls rfl (ls rfl (os rfl (os rfl (os rfl oz)))))))), lg (lx (ls rfl (ls rfl (ls rfl (ls rfl (os rfl (os rfl (os rfl (os rfl oz))))))))), lg (lx (ls rfl (ls rfl (ls rfl (ls rfl (os rfl (os rfl (os rfl (os rfl (os rfl oz)))))))))), lg (lx (ls rfl (ls rfl (ls rfl (ls rfl (os rfl (os rfl (os rfl (os rfl (os rfl (os rfl oz))))))))))), lg (lx (ls rfl (ls rfl (ls rfl (ls rfl (os rfl (os rfl (os rfl (os rfl (os rfl (os rfl (os rfl oz)))))))))))), trivial⟩ ?_
    refine aw_region (by decide) ?_
    refine rts _ rfl ((by first | exact opD_fieldAddr fo57_1 (os rfl (os rfl (os rfl (os rfl (os rfl oz))))) | exact opD_fieldAddr_el fo57_1 (os rfl (os rfl (os rfl (os rfl (os rfl oz))))))) ?_
    refine rts _ rfl ((by first | exact opD_load_one ag55 lz (by first | exact loc_get rfl | exact old_get (by assumption)) rfl | exact opD_load_el_one ag55 lz (by first | assumption | simp) rfl)) ?_
    refine rts _ rfl ((by first | exact opD_load_aggX (qs := [_, _, _, _, _]) ag63 sz63 (ls rfl (ls rfl oz)) (by first | exact loc_get rfl | exact old_get (by assumption)) (by simp) rfl | exact opD_load_el_aggX (qs := [_, _, _, _, _]) ag63 sz63 (ls rfl (ls rfl oz)) (by first | assumption | simp) (by decide) rfl)) ?_
    refine rts _ rfl (opD_buildSlice (k := kL) [(rdLn ((rdNum 4611686018427387904 l false).1 + i + 1) l2 b2).1] Go.Proofs.Tryd.underlying55 sz63 zt63 (by decide) rfl (parts_cons (cellsA lz) parts_nil) rfl rfl) ?_
    refine rts _ rfl ((by first | exact opD_appendX Go.Proofs.Tryd.underlying55 el63 (ls rfl (ls rfl lz)) lz rfl (by first | omega | (simp only [List.length_cons, List.length_nil, List.length_append]; omega)) (by first | omega | (simp only [List.length_cons, List.length_nil, List.length_append]; omega)) (by first | (with_reducible exact List.nil_append _) | exact rfl) (by simp only [List.nil_append, List.cons_append, List.map_cons, List.map_nil, List.set_cons_zero, List.set_cons_succ, List.take_succ_cons, List.take_zero, List.drop_succ_cons, List.drop_zero]; rfl) | exact opD_appendN (k := kL) Go.Proofs.Tryd.underlying55 el63 (ls rfl (ls rfl lz)) lz (by first | omega | (simp only [List.length_cons, List.length_nil, List.length_append]; omega)) (by first | omega | (simp only [List.length_cons, List.length_nil, List.length_append]; omega)) (by first | exact List.length_nil | (simp only [List.length_cons, List.length_nil, Nat.zero_add, Nat.reduceAdd]; rfl)) (by simp only [List.nil_append, List.cons_append, List.map_cons, List.map_nil, List.set_cons_zero, List.set_cons_succ, List.take_succ_cons, List.take_zero, List.drop_succ_cons, List.drop_zero]; rfl))) ?_
    refine rts _ rfl ((by first | exact opD_fieldAddr fo57_1 (ls rfl (ls rfl (ls rfl (ls rfl (ls rfl (os rfl (os rfl (os rfl (os rfl (os rfl oz)))))))))) | exact opD_fieldAddr_el fo57_1 (ls rfl (ls rfl (ls rfl (ls rfl (ls rfl (os rfl (os rfl (os rfl (os rfl (os rfl oz)))))))))))) ?_
    refine rts _ rfl ((by first | exact opD_storeO sz55 lz (le_of_eq (ls rfl lz)) (by first | exact one_pl rfl | exact one_sl _ _ _ _ | exact one_ptr _ _) rfl (by simp) (by first | exact pl_bnd _ _ _ | exact sl_bnd (kL_bnd _ _ _) | exact sl_bnd (kI_bnd _ _ _ _) | exact ptr_bnd _ (by omega) | exact any_bnd _ _ | exact sl_own_bnd (kL_bnd _ _ _) (by omega) | exact sl_own_bnd (kL_bnd _ _ _) (by simp only [List.length_append, List.length_cons, List.length_nil]; omega)) (by simp only [List.nil_append, List.cons_append, List.map_cons, List.map_nil, List.set_cons_zero, List.set_cons_succ, List.take_succ_cons, List.take_zero, List.drop_succ_cons, List.drop_zero]; rfl) (by simp only [List.nil_append, List.cons_append, List.map_cons, List.map_nil, List.set_cons_zero, List.set_cons_succ, List.take_succ_cons, List.take_zero, List.drop_succ_cons, List.drop_zero]; rfl) | exact opD_storeG sz55 lz (le_of_eq (ls rfl lz)) (by first | exact one_pl rfl | exact one_sl _ _ _ _ | exact one_ptr _ _) hG (by simp) (by first | exact pl_bnd _ _ _ | exact sl_bnd (kL_bnd _ _ _) | exact sl_bnd (kI_bnd _ _ _ _) | exact ptr_bnd _ (by omega) | exact any_bnd _ _ | exact sl_own_bnd (kL_bnd _ _ _) (by omega) | exact sl_own_bnd (kL_bnd _ _ _) (by simp only [List.length_append, List.length_cons, List.length_nil]; omega)) (by simp only [List.nil_append, List.cons_append, List.map_cons, List.map_nil, List.set_cons_zero, List.set_cons_succ, List.take_succ_cons, List.take_zero, List.drop_succ_cons, List.drop_zero]; rfl))) ?_
    refine .nil ?_
    refine aw_keep [(7, _), (6, _), (16, _), (2, _), (4, _), (5, _), (14, _), (15, _)] ⟨lg (lx (ls rfl (ls rfl (ls rfl (ls rfl (ls rfl (ls rfl oz))))))), lg (lx (ls rfl (ls rfl (ls rfl (ls rfl (ls rfl (ls rfl (os rfl oz)))))))), lg (lx (ls rfl (ls rfl (ls rfl (ls rfl (ls rfl (ls rfl (os rfl (os rfl oz))))))))), lg (lx (ls rfl (ls rfl (ls rfl (ls rfl (ls rfl (ls rfl (os rfl (os rfl (os rfl oz)))))))))), lg (lx (ls rfl (ls rfl (ls rfl (ls rfl (ls rfl (ls rfl (os rfl (os rfl (os rfl (os rfl oz))))))))))), lg (lx (ls rfl (ls rfl (ls rfl (ls rfl (ls rfl (ls rfl (os rfl (os rfl (os rfl (os rfl (os rfl oz)))))))))))), lg (lx (ls rfl (ls rfl (ls rfl (ls rfl (ls rfl (ls rfl (os rfl (os rfl (os rfl (os rfl (os rfl (os rfl oz))))))))))))), lg (lx (ls rfl (ls rfl (ls rfl (ls rfl (ls rfl (ls rfl (os rfl (os rfl (os rfl (os rfl (os rfl (os rfl (os rfl oz)))))))))))))), trivial⟩ ?_
    refine aw_region (by decide) ?_
    refine rts _ rfl (opD_add (os rfl (os rfl (os rfl (os rfl (os rfl (os rfl (os rfl oz))))))) (ev_const _ _) (by first | exact IntWalk.u64_in _ (by omega) | exact rfl)) ?_
    refine rts _ rfl (opD_move lz) ?_
    refine .nil ?_
    refine cut_yes (l := [(2, _), (4, _), (5, _), (14, _), (15, _)]) ⟨lg (ls rfl (ls rfl (os rfl (os rfl (os rfl oz))))), lg (ls rfl (ls rfl (os rfl (os rfl (os rfl (os rfl oz)))))), lg (ls rfl (ls rfl (os rfl (os rfl (os rfl (os rfl (os rfl oz))))))), lg (ls rfl (ls rfl (os rfl (os rfl (os rfl (os rfl (os rfl (os rfl oz)))))))), lg lz, trivial⟩ (by repeat (first | exact bnd_nil | refine bnd_cons (by first | exact pl_bnd _ _ _ | exact sl_bnd (kL_bnd _ _ _) | exact sl_bnd (kI_bnd _ _ _ _) | exact ptr_bnd _ (by omega) | exact any_bnd _ _ | exact sl_own_bnd (kL_bnd _ _ _) (by omega) | exact sl_own_bnd (kL_bnd _ _ _) (by simp only [List.length_append, List.length_cons, List.length_nil]; omega)) ?_)) (Nat.le_of_ble_eq_true rfl) (Nat.le_of_ble_eq_true rfl) (by simp only [List.nil_append, List.cons_append, List.map_cons, List.map_nil, List.set_cons_zero, List.set_cons_succ, List.take_succ_cons, List.take_zero, List.drop_succ_cons, List.drop_zero]; rfl) (by simp only [List.nil_append, List.cons_append, List.map_cons, List.map_nil, List.set_cons_zero, List.set_cons_succ, List.take_succ_cons, List.take_zero, List.drop_succ_cons, List.drop_zero]; rfl) (by repeat (first | exact bl_nil | refine bl_cons (by repeat (first | exact bnd_nil | refine bnd_cons (by first | exact pl_bnd _ _ _ | exact sl_bnd (kL_bnd _ _ _) | exact sl_bnd (kI_bnd _ _ _ _) | exact ptr_bnd _ (by omega) | exact any_bnd _ _ | exact sl_own_bnd (kL_bnd _ _ _) (by omega) | exact sl_own_bnd (kL_bnd _ _ _) (by simp only [List.length_append, List.length_cons, List.length_nil]; omega)) ?_)) ?_)) ?_
    refine ⟨n, by omega, i + 1, acc ++ [(rdLn ((rdNum 4611686018427387904 l false).1 + i + 1) l2 b2).1], _, _, ⟨le_of_eq (eg oz), le_of_eq (eg (os rfl oz)), le_of_eq (eg (os rfl (os rfl oz))), le_of_eq (eg (os rfl (os rfl (os rfl oz)))), le_of_eq (eg (os rfl (os rfl (os rfl (os rfl oz))))), trivial⟩, rfl, by omega, hli, hgo, by simp [hal], ?_⟩
    intro x hx
    rcases List.mem_append.1 hx with hx | hx
    · exact hacc x hx
    · rw [List.mem_singleton.1 hx]; exact hlo
  · skip
    obtain rfl : n = 0 := by have := of_decide_eq_false hc; omega
    have hgo2 : (acc, l2, b2) = decGo _ _ _ _ _ _ := hgo
    refine aw_exit ?_
    refine cut_no ?_
    refine aw_keep [(16, _), (2, _), (4, _), (5, _), (14, _), (15, _)] ⟨lg oz, lg (os rfl oz), lg (os rfl (os rfl oz)), lg (os rfl (os rfl (os rfl oz))), lg (os rfl (os rfl (os rfl (os rfl oz)))), lg (os rfl (os rfl (os rfl (os rfl (os rfl oz))))), trivial⟩ ?_
    refine aw_seq ?_
    refine aw_seq ?_
    refine aw_region (by decide) ?_
    refine rts _ rfl (opD_move (os rfl (os rfl oz))) ?_
    refine rts _ rfl (opD_call ht26 (rd_done (loc_get (i := 1) rfl)) ⟨le_of_eq lz, trivial⟩) ?_
    refine rts _ rfl (opD_bin lz (ev_const _ _) (fun w => errV_guard _ w _) (fun w => errV_beq _ w)) ?_
    refine rts _ rfl (opD_move lz) ?_
    refine rtg _ rfl lz (fun hg10_4 => by
        have hg10_4' := hg10_4
        try simp only [beq_iff_eq, decide_eq_true_eq, decide_eq_false_iff_not, Bool.and_eq_true, Bool.or_eq_true, Bool.or_eq_false_iff, Bool.and_eq_false_iff] at hg10_4'
        exact (by first | exact opD_load_aggX (qs := [_, _]) ag57 sz57 (ls rfl (ls rfl (ls rfl (ls rfl (os rfl (os rfl (os rfl oz))))))) (by first | exact loc_get rfl | exact old_get (by assumption) | exact hB) (by simp) rfl | exact opD_load_el_aggX (qs := [_, _]) ag57 sz57 (ls rfl (ls rfl (ls rfl (ls rfl (os rfl (os rfl (os rfl oz))))))) (by first | assumption | simp) (by decide) rfl)) ?_
    refine rtg _ rfl (ls rfl lz) (fun hg10_5 => by
        have hg10_5' := hg10_5
        try simp only [beq_iff_eq, decide_eq_true_eq, decide_eq_false_iff_not, Bool.and_eq_true, Bool.or_eq_true, Bool.or_eq_false_iff, Bool.and_eq_false_iff] at hg10_5'
        exact opD_pure ht47 (lg_check (by omega) (by omega) hacc) ⟨(le_of_eq (lz.trans (pif_pos hg10_5))).trans (agg_le (ps := [_, _]) (qs := [_, _]) ⟨Pd.le_refl _, sl_le _ _ _ _, trivial⟩), trivial⟩) ?_
    refine rtg _ rfl (ls rfl (ls rfl lz)) (fun hg10_6 => by
        have hg10_6' := hg10_6
        try simp only [beq_iff_eq, decide_eq_true_eq, decide_eq_false_iff_not, Bool.and_eq_true, Bool.or_eq_true, Bool.or_eq_false_iff, Bool.and_eq_false_iff] at hg10_6'
        exact opD_bin (lz.trans (pif_pos hg10_6)) (ev_const _ _) (fun w => errV_guard _ w _) (fun w => errV_beq _ w)) ?_
    refine rts _ rfl (opD_or (ls rfl (ls rfl (ls rfl lz))) lz) ?_
    refine .nil ?_
    refine aw_keep [(49, _), (16, _), (2, _), (4, _), (5, _), (14, _), (15, _)] ⟨lg lz, lg (ls rfl (ls rfl (ls rfl (ls rfl (ls rfl (ls rfl (ls rfl (ls rfl oz)))))))), lg (ls rfl (ls rfl (ls rfl (ls rfl (ls rfl (ls rfl (ls rfl (ls rfl (os rfl oz))))))))), lg (ls rfl (ls rfl (ls rfl (ls rfl (ls rfl (ls rfl (ls rfl (ls rfl (os rfl (os rfl oz)))))))))), lg (ls rfl (ls rfl (ls rfl (ls rfl (ls rfl (ls rfl (ls rfl (ls rfl (os rfl (os rfl (os rfl oz))))))))))), lg (ls rfl (ls rfl (ls rfl (ls rfl (ls rfl (ls rfl (ls rfl (ls rfl (os rfl (os rfl (os rfl (os rfl oz)))))))))))), lg (ls rfl (ls rfl (ls rfl (ls rfl (ls rfl (ls rfl (ls rfl (ls rfl (os rfl (os rfl (os rfl (os rfl (os rfl oz))))))))))))), trivial⟩ ?_
    refine aw_cond _ oz (fun hc => ?_) (fun hc => ?_)
    · skip
      have hfin : decR l = none := by
        unfold decR
        simp only [← hgo]
        rw [if_neg]
        rintro ⟨h1, h2⟩
        simp only [Bool.or_eq_true] at hc
        rcases hc with hc | hc
        · have h1' : (rdDone b2 l2).isSome = false := h1
          rw [h1'] at hc; cases hc
        · exact lgE_s hc (lgOk_iff.1 h2)
      refine aw_seq ?_
      refine aw_region (by decide) ?_
      refine rts _ rfl (opD_build_struct (rs := [_, _]) Go.Proofs.Tryd.underlying57 pt57 zt57 parts_nil rfl) ?_
      refine rts _ rfl ((by first | exact opD_makeInterface_pl cc107 (ev_const _ _) | exact opD_makeInterface cc107 (ev_const _ _))) ?_
      refine rts _ rfl (opD_storeA sz57 (ls rfl (ls rfl (os rfl (os rfl oz)))) (ls rfl lz) (by repeat (first | exact ones_nil | refine ones_cons (by first | exact one_pl rfl | exact one_sl _ _ _ _ | exact one_ptr _ _) ?_)) rfl rfl (Nat.le_of_ble_eq_true rfl) (List.cons_ne_nil _ _) (by repeat (first | exact bnd_nil | refine bnd_cons (by first | exact pl_bnd _ _ _ | exact sl_bnd (kL_bnd _ _ _) | exact sl_bnd (kI_bnd _ _ _ _) | exact ptr_bnd _ (by omega) | exact any_bnd _ _ | exact sl_own_bnd (kL_bnd _ _ _) (by omega) | exact sl_own_bnd (kL_bnd _ _ _) (by simp only [List.length_append, List.length_cons, List.length_nil]; omega)) ?_)) (by simp only [List.nil_append, List.cons_append, List.map_cons, List.map_nil, List.set_cons_zero, List.set_cons_succ, List.take_succ_cons, List.take_zero, List.drop_succ_cons, List.drop_zero]; rfl) (by simp only [List.nil_append, List.cons_append, List.map_cons, List.map_nil, List.set_cons_zero, List.set_cons_succ, List.take_succ_cons, List.take_zero, List.drop_succ_cons, List.drop_zero]; rfl)) ?_
      refine rts _ rfl (opD_assign (lx lz)) ?_
      refine .nil ?_
      refine aw_keep [(3, _), (49, _), (16, _), (2, _), (4, _), (5, _), (14, _), (15, _)] ⟨lg lz, lg (ls rfl (lx (ls rfl (ls rfl oz)))), lg (ls rfl (lx (ls rfl (ls rfl (os rfl oz))))), lg (ls rfl (lx (ls rfl (ls rfl (os rfl (os rfl oz)))))), lg (ls rfl (lx (ls rfl (ls rfl (os rfl (os rfl (os rfl oz))))))), lg (ls rfl (lx (ls rfl (ls rfl (os rfl (os rfl (os rfl (os rfl oz)))))))), lg (ls rfl (lx (ls rfl (ls rfl (os rfl (os rfl (os rfl (os rfl (os rfl oz))))))))), lg (ls rfl (lx (ls rfl (ls rfl (os rfl (os rfl (os rfl (os rfl (os rfl (os rfl oz)))))))))), trivial⟩ ?_
      refine aw_ret ?_
      first | exact done_ext (.inr rfl) ((res_c1 (B := ⟨57, [_, _]⟩) rfl ag57 sz57 (eg (os rfl (os rfl (os rfl oz)))) (loc_get (i := 0) rfl) rfl (eg oz)).le (tup_le ⟨(agg_le (ps := [_, _]) (qs := [pl (.int .u64 ((0 : Nat) : Int)), sl kL none none []]) ⟨le_of_eq rfl, le_nil rfl, trivial⟩).trans (le_of_eq (by unfold decLg; rw [hfin]; rfl)), le_of_eq (by unfold decE; rw [hfin]; rfl), trivial⟩)) (by unfold decLg; rw [hfin]; exact (tup_bnd (bnd_cons (lgP_bnd _ _ _ _) (bnd_cons (pl_bnd _ _ _) bnd_nil)))) | exact done_ext (.inr rfl) ((res_c1 (B := ⟨57, [_, _]⟩) rfl ag57 sz57 (eg (os rfl (os rfl (os rfl oz)))) (loc_get (i := 0) rfl) rfl (eg oz)).le (tup_le ⟨(agg_le (ps := [_, _]) (qs := [_, _]) ⟨Pd.le_refl _, sl_le _ _ _ _, trivial⟩).trans (le_of_eq (by unfold decLg; rw [hfin]; rfl)), le_of_eq (by unfold decE; rw [hfin]; rfl), trivial⟩)) (by unfold decLg; rw [hfin]; exact (tup_bnd (bnd_cons (lgP_bnd _ _ _ _) (bnd_cons (pl_bnd _ _ _) bnd_nil))))
    · skip
      have hfin : decR l = some ((rdNum 4611686018427387904 l false).1, acc) := by
        unfold decR
        simp only [← hgo]
        simp only [Bool.or_eq_false_iff] at hc
        rw [if_pos]
        · rfl
        · exact ⟨hc.1, lgOk_t (lgE_n hc.2)⟩
      refine aw_skip ?_
      refine aw_keep [(49, _), (16, _), (2, _), (4, _), (5, _), (14, _), (15, _)] ⟨lg oz, lg (os rfl oz), lg (os rfl (os rfl oz)), lg (os rfl (os rfl (os rfl oz))), lg (os rfl (os rfl (os rfl (os rfl oz)))), lg (os rfl (os rfl (os rfl (os rfl (os rfl oz))))), lg (os rfl (os rfl (os rfl (os rfl (os rfl (os rfl oz)))))), trivial⟩ ?_
      refine aw_seq ?_
      refine aw_region (by decide) ?_
      refine rts _ rfl ((by first | exact opD_load_aggX (qs := [_, _]) ag57 sz57 (os rfl (os rfl (os rfl (os rfl oz)))) (by first | exact loc_get rfl | exact old_get (by assumption)) (by simp) rfl | exact opD_load_el_aggX (qs := [_, _]) ag57 sz57 (os rfl (os rfl (os rfl (os rfl oz)))) (by first | assumption | simp) (by decide) rfl)) ?_
      refine rts _ rfl (opD_storeA sz57 (ls rfl (os rfl (os rfl oz))) lz (by repeat (first | exact ones_nil | refine ones_cons (by first | exact one_pl rfl | exact one_sl _ _ _ _ | exact one_ptr _ _) ?_)) rfl rfl (Nat.le_of_ble_eq_true rfl) (List.cons_ne_nil _ _) (by repeat (first | exact bnd_nil | refine bnd_cons (by first | exact pl_bnd _ _ _ | exact sl_bnd (kL_bnd _ _ _) | exact sl_bnd (kI_bnd _ _ _ _) | exact ptr_bnd _ (by omega) | exact any_bnd _ _ | exact sl_own_bnd (kL_bnd _ _ _) (by omega) | exact sl_own_bnd (kL_bnd _ _ _) (by simp only [List.length_append, List.length_cons, List.length_nil]; omega)) ?_)) (by simp only [List.nil_append, List.cons_append, List.map_cons, List.map_nil, List.set_cons_zero, List.set_cons_succ, List.take_succ_cons, List.take_zero, List.drop_succ_cons, List.drop_zero]; rfl) (by simp only [List.nil_append, List.cons_append, List.map_cons, List.map_nil, List.set_cons_zero, List.set_cons_succ, List.take_succ_cons, List.take_zero, List.drop_succ_cons, List.drop_zero]; rfl)) ?_
      refine rts _ rfl (opD_assign (ev_const _ _)) ?_
      refine .nil ?_
      refine aw_keep [(3, _), (49, _), (16, _), (2, _), (4, _), (5, _), (14, _), (15, _)] ⟨lg lz, lg (ls rfl (lx (ls rfl oz))), lg (ls rfl (lx (ls rfl (os rfl oz)))), lg (ls rfl (lx (ls rfl (os rfl (os rfl oz))))), lg (ls rfl (lx (ls rfl (os rfl (os rfl (os rfl oz)))))), lg (ls rfl (lx (ls rfl (os rfl (os rfl (os rfl (os rfl oz))))))), lg (ls rfl (lx (ls rfl (os rfl (os rfl (os rfl (os rfl (os rfl oz)))))))), lg (ls rfl (lx (ls rfl (os rfl (os rfl (os rfl (os rfl (os rfl (os rfl oz))))))))), trivial⟩ ?_
      refine aw_ret ?_
      first | exact done_ext (.inr rfl) ((res_c1 (B := ⟨57, [_, _]⟩) rfl ag57 sz57 (eg (os rfl (os rfl (os rfl oz)))) (loc_get (i := 0) rfl) rfl (eg oz)).le (tup_le ⟨(agg_le (ps := [_, _]) (qs := [pl (.int .u64 ((0 : Nat) : Int)), sl kL none none []]) ⟨le_of_eq rfl, le_nil rfl, trivial⟩).trans (le_of_eq (by unfold decLg; rw [hfin]; rfl)), le_of_eq (by unfold decE; rw [hfin]; rfl), trivial⟩)) (by unfold decLg; rw [hfin]; exact (tup_bnd (bnd_cons (lgP_bnd _ _ _ _) (bnd_cons (pl_bnd _ _ _) bnd_nil)))) | exact done_ext (.inr rfl) ((res_c1 (B := ⟨57, [_, _]⟩) rfl ag57 sz57 (eg (os rfl (os rfl (os rfl oz)))) (loc_get (i := 0) rfl) rfl (eg oz)).le (tup_le ⟨(agg_le (ps := [_, _]) (qs := [_, _]) ⟨Pd.le_refl _, sl_le _ _ _ _, trivial⟩).trans (le_of_eq (by unfold decLg; rw [hfin]; rfl)), le_of_eq (by unfold decE; rw [hfin]; rfl), trivial⟩)) (by unfold decLg; rw [hfin]; exact (tup_bnd (bnd_cons (lgP_bnd _ _ _ _) (bnd_cons (pl_bnd _ _ _) bnd_nil))))
end Go.Proofs.YtmnhfpcbfdgbcaaDoor.Eng.Ld

