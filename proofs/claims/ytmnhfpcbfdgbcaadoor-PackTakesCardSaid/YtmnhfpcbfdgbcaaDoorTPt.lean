/- TPt: what the functions of one package do, walked; used by the laws of this seat. -/
import Derived.Test.YtmnhfpcbfdgbcaaDoorTRf
import Derived.Test.YtmnhfpcbfdgbcaaDoorEngQ
namespace Go.Proofs.YtmnhfpcbfdgbcaaDoor.Eng.Pt
set_option linter.unusedVariables false
set_option linter.unusedSimpArgs false
open Go.RowKit Go.Proofs.YtmnhfpcbfdgbcaaDoor.Plain Go.Proofs.YtmnhfpcbfdgbcaaDoor.Eng

theorem ht18 : hasText Go.Proofs.Tryd.prog 18 = true := by kernel_rfl
theorem ht25 : hasText Go.Proofs.Tryd.prog 25 = true := by kernel_rfl
theorem ht23 : hasText Go.Proofs.Tryd.prog 23 = true := by kernel_rfl
theorem ht24 : hasText Go.Proofs.Tryd.prog 24 = true := by kernel_rfl
theorem ht28 : hasText Go.Proofs.Tryd.prog 28 = true := by kernel_rfl
theorem ht26 : hasText Go.Proofs.Tryd.prog 26 = true := by kernel_rfl
theorem ht27 : hasText Go.Proofs.Tryd.prog 27 = true := by kernel_rfl
theorem mixed : Go.Proofs.Tryd.prog.follows .mixedOrders = true := by kernel_rfl
theorem ht19 : hasText Go.Proofs.Tryd.prog 19 = true := by kernel_rfl
theorem ht21 : hasText Go.Proofs.Tryd.prog 21 = true := by kernel_rfl
theorem ht29 : hasText Go.Proofs.Tryd.prog 29 = true := by kernel_rfl
theorem ht20 : hasText Go.Proofs.Tryd.prog 20 = true := by kernel_rfl
theorem ht30 : hasText Go.Proofs.Tryd.prog 30 = true := by kernel_rfl
theorem ht22 : hasText Go.Proofs.Tryd.prog 22 = true := by kernel_rfl
theorem pt41 : placesT Go.Proofs.Tryd.prog 41 2 = some [(0, 1), (1, 1)] := by kernel_rfl
theorem zt41 : zeroT Go.Proofs.Tryd.prog 41 = some [.slice none 0 0, .bool false] := by kernel_rfl
theorem sz41 : sizeT Go.Proofs.Tryd.prog 41 = some 2 := by kernel_rfl
theorem sz43 : sizeT Go.Proofs.Tryd.prog 43 = some 2 := by kernel_rfl
theorem sz42 : sizeT Go.Proofs.Tryd.prog 42 = some 1 := by kernel_rfl
theorem ag42 : aggT Go.Proofs.Tryd.prog 42 = some false := by kernel_rfl
theorem ag41 : aggT Go.Proofs.Tryd.prog 41 = some true := by kernel_rfl
theorem ht31 : hasText Go.Proofs.Tryd.prog 31 = true := by kernel_rfl
theorem ht32 : hasText Go.Proofs.Tryd.prog 32 = true := by kernel_rfl
theorem ht33 : hasText Go.Proofs.Tryd.prog 33 = true := by kernel_rfl
theorem fo41_1 : fieldOff Go.Proofs.Tryd.prog 41 1 = some 1 := by kernel_rfl
theorem ag4 : aggT Go.Proofs.Tryd.prog 4 = some false := by kernel_rfl
theorem fo41_0 : fieldOff Go.Proofs.Tryd.prog 41 0 = some 0 := by kernel_rfl
theorem ag23 : aggT Go.Proofs.Tryd.prog 23 = some false := by kernel_rfl
theorem ht34 : hasText Go.Proofs.Tryd.prog 34 = true := by kernel_rfl

open Go.Proofs.YtmnhfpcbfdgbcaaDoor.Eng.Pk Go.Proofs.YtmnhfpcbfdgbcaaDoor.Eng.Rd Go.Proofs.YtmnhfpcbfdgbcaaDoor.Eng.Pb Go.Proofs.YtmnhfpcbfdgbcaaDoor.Eng.Er Go.Proofs.YtmnhfpcbfdgbcaaDoor.Eng.Su06 Go.Proofs.YtmnhfpcbfdgbcaaDoor.Eng.Rf06
def Inv (l : List Int) (b : Bool) : Prop := (b = true → l = []) ∧ Bts l ∧ l.length ≤ 600
def JI (l : List Int) (b : Bool) (v : Int) (t : List Int) : Prop := Inv l b ∧ (b = true → v = 0 ∧ t = [])
theorem rdByte_same {l : List Int} {b : Bool} (h : Inv l b) : rdByte l b = rdByte l false := by
  cases b with
  | false => rfl
  | true => obtain rfl := h.1 rfl; rfl
theorem vget_nil_err : (vget ([] : List Int)).2.2.isSome = true := by decide +kernel
theorem rdNum_same {most : Nat} {l : List Int} {b : Bool} (h : Inv l b) : rdNum most l b = rdNum most l false := by
  cases b with
  | false => rfl
  | true => obtain rfl := h.1 rfl; rw [rdNum_err (.inl vget_nil_err), rdNum_err (.inl vget_nil_err)]
theorem rdBytes_same {most : Nat} {l : List Int} {b : Bool} (h : Inv l b) : rdBytes most l b = rdBytes most l false := by
  unfold rdBytes; rw [rdNum_same h]
theorem ji_byte {l : List Int} {b : Bool} (h : Inv l b) : JI (rdByte l false).2.1 (rdByte l false).2.2 (rdByte l false).1 [] := by
  cases l with
  | nil => exact ⟨⟨fun _ => rfl, (fun x hx => nomatch hx), by simp [rdByte]⟩, fun _ => ⟨rfl, rfl⟩⟩
  | cons c t => exact ⟨⟨(fun hh => nomatch hh), fun x hx => h.2.1 x (List.mem_cons_of_mem _ hx), by have := h.2.2; simp [rdByte] at *; omega⟩, (fun hh => nomatch hh)⟩
theorem byte_rng {l : List Int} {b : Bool} (h : Inv l b) : 0 ≤ (rdByte l false).1 ∧ (rdByte l false).1 < 256 := by
  cases l with
  | nil => simp [rdByte]
  | cons c t => exact h.2.1 c (List.mem_cons_self)
theorem num_inv {most : Nat} {l : List Int} {b : Bool} (h : Inv l b) : Inv (rdNum most l false).2.1 (rdNum most l false).2.2 ∧ ((rdNum most l false).2.2 = true → (rdNum most l false).1 = 0) ∧ (rdNum most l false).1 ≤ most := by
  refine ⟨?_, ?_, (rdNum_le most l false).1⟩
  · by_cases hc : (vget l).2.2.isSome = false ∧ ¬ (most : Int) < ((vget l).1 : Int)
    · obtain ⟨he, h2⟩ := rdNum_ok (b := false) hc
      rw [he]
      exact ⟨(fun hh => nomatch hh), fun x hx => h.2.1 x (List.mem_of_mem_drop hx), by have := h.2.2; simp only [List.length_drop]; omega⟩
    · rw [rdNum_err (b := false) (by
        cases ho : (vget l).2.2.isSome with
        | false => rw [ho] at hc; right; simpa using hc
        | true => exact .inl rfl)]
      exact ⟨fun _ => rfl, (fun x hx => nomatch hx), by simp⟩
  · intro hw; rw [rdNum_wrong hw]
theorem ji_num {most : Nat} {l : List Int} {b : Bool} (h : Inv l b) : JI (rdNum most l false).2.1 (rdNum most l false).2.2 ((rdNum most l false).1 : Int) [] :=
  ⟨(num_inv h).1, fun hw => ⟨by rw [(num_inv (most := most) h).2.1 hw]; rfl, rfl⟩⟩
theorem ji_bytes {most : Nat} {l : List Int} {b : Bool} (h : Inv l b) : JI (rdBytes most l false).2.1 (rdBytes most l false).2.2 0 (rdBytes most l false).1 := by
  by_cases hc : (rdNum most l false).2.2 = false ∧ ¬ (((rdNum most l false).2.1.length : Nat) : Int) < (((rdNum most l false).1 : Nat) : Int)
  · obtain ⟨he, h2⟩ := refBytes_good hc
    rw [he]
    have hn := (num_inv (most := most) h).1
    exact ⟨⟨(fun hh => nomatch hh), fun x hx => hn.2.1 x (List.mem_of_mem_drop hx), by have := hn.2.2; simp only [List.length_drop]; omega⟩, (fun hh => nomatch hh)⟩
  · rw [refBytes_bad (by
      cases ho : (rdNum most l false).2.2 with
      | false => rw [ho] at hc; right; simpa using hc
      | true => exact .inl rfl)]
    exact ⟨⟨fun _ => rfl, (fun x hx => nomatch hx), by simp⟩, fun _ => ⟨rfl, rfl⟩⟩
theorem pt_byte {s : St} {g : Nat} {l : List Int} {b : Bool} (h : Inv l b) (hG : s.boxes[g]? = some (RdB l b)) : AC Go.Proofs.Tryd.prog 25 [ptr g 0] s (pl (.int .u8 (rdByte l false).1)) (s.upd g (RdB (rdByte l false).2.1 (rdByte l false).2.2)) := by
  have := rd_byte hG
  rw [rdByteB, rdByte_same h] at this
  exact this
theorem pt_num {s : St} {g : Nat} {l : List Int} {b : Bool} {most : Nat} (h : Inv l b) (hm : most < 18446744073709551616) (hG : s.boxes[g]? = some (RdB l b)) : AC Go.Proofs.Tryd.prog 23 [ptr g 0, pl (.int .u64 (most : Int))] s (pl (.int .u64 ((rdNum most l false).1 : Int))) (s.upd g (RdB (rdNum most l false).2.1 (rdNum most l false).2.2)) := by
  have := rd_num hG h.2.1 (by have := h.2.2; omega) hm
  rw [rdNumB, rdNum_same h] at this
  exact this
theorem pt_bytes {s : St} {g : Nat} {l : List Int} {b : Bool} {k : Int} (h : Inv l b) (hk : -9223372036854775808 ≤ k ∧ k < 9223372036854775808) (hG : s.boxes[g]? = some (RdB l b)) : AC Go.Proofs.Tryd.prog 24 [ptr g 0, pl (.int .i64 k)] s (sl (kI .u8) none none (rdBytes k.toNat l false).1) (s.upd g (RdB (rdBytes k.toNat l false).2.1 (rdBytes k.toNat l false).2.2)) := by
  have := rd_bytesI hG h.2.1 (by have := h.2.2; omega) hk
  rw [rdBytesB, rdBytes_same h] at this
  exact this
theorem str7 (l : List Int) : strOf (l ++ [7]) = strOf l ++ ⟨#[7]⟩ := by
  apply ByteArray.ext
  simp [strOf]
theorem errV_eql (o : Option Int) (w : World) : (binOp .eql 34 (errV o) .nilIface).run Go.Proofs.Tryd.prog w = .ok (.bool o.isNone) w := by cases o <;> simp [errV, go_sem]
theorem errV_geql (o : Option Int) (w : World) (x : Operand) : (eqGuard .eql 34 x (.const .nilIface) (errV o) .nilIface).run Go.Proofs.Tryd.prog w = .ok () w := by cases o <;> simp [errV, go_sem]
theorem pt_end (b : Bool) (l : List Int) : ((rdDone b l).isNone != (!b && decide ((l.length : Int) = 0))) = false ∧ ((rdDone b l).isSome && decide (numV (rdDone b l) ≠ 3)) = false := by
  cases b <;> cases l <;> simp [rdDone, numV] <;> omega
theorem at_lt' {α : Type} {l : List α} {i : Nat} (h : i < l.length) : ∃ c, l[i]? = some c ∧ c ∈ l := ⟨l[i], List.getElem?_eq_getElem h, List.getElem_mem h⟩
theorem u64_mod (n : Int) : IntKind.u64.wrap n = ((IntKind.u64.wrap n).toNat : Int) ∧ (IntKind.u64.wrap n).toNat < 18446744073709551616 := by
  simp only [IntKind.wrap, IntKind.bits, IntKind.signed]
  have h1 := Int.emod_nonneg n (show (18446744073709551616 : Int) ≠ 0 by decide)
  have h2 := Int.emod_lt_of_pos n (show (0 : Int) < 18446744073709551616 by decide)
  simp
  omega

set_option maxRecDepth 100000 in
set_option maxHeartbeats 4000000 in
theorem packTakes {l m : List Int} {ks : List (Int × Int)} {s : St} (hst : StGV s) (hb : Bts l) (hk : ∀ k ∈ ks, (-32768 ≤ k.1 ∧ k.1 < 32768) ∧ -32768 ≤ k.2 ∧ k.2 < 32768) : AC Go.Proofs.Tryd.prog 4 [sl (kI .u8) none none l, sl (kP2 .i16) none none ks, sl (kI .u8) none none m] s (pl (.bool true)) s := by
  refine ac_of_aw s.boxes.length s.fr.length Go.Proofs.Tryd.func4 rfl (by simp [Go.Proofs.Tryd.ntmps4]) ?_
  refine aw_ext0 ?_
  refine aw_keep [(0, _), (1, _), (2, _)] ⟨lg ez, lg (es ez), lg (es (es ez)), trivial⟩ ?_
  refine aw_seq ?_
  refine aw_region (by decide) ?_
  refine rts _ rfl (opD_assign (ev_const _ _)) ?_
  refine .nil ?_
  refine aw_keep [(6, _), (0, _), (1, _), (2, _)] ⟨lg lz, lg (ls rfl oz), lg (ls rfl (os rfl oz)), lg (ls rfl (os rfl (os rfl oz))), trivial⟩ ?_
  refine aw_seq ?_
  refine aw_seq ?_
  refine aw_region (by decide) ?_
  refine rts _ rfl (opD_move (os rfl oz)) ?_
  refine rts _ rfl (opD_len_sl Go.Proofs.Tryd.underlying23 lz) ?_
  refine rts _ rfl (opD_gtr lz (ev_const _ _)) ?_
  refine rts _ rfl (opD_move lz) ?_
  refine rtg _ rfl lz (fun hg1_4 => by
      have hg1_4' := hg1_4
      try simp only [beq_iff_eq, decide_eq_true_eq, decide_eq_false_iff_not, Bool.and_eq_true, Bool.or_eq_true, Bool.or_eq_false_iff, Bool.and_eq_false_iff] at hg1_4'
      exact opD_move (ls rfl (ls rfl (ls rfl (ls rfl (os rfl (os rfl oz))))))) ?_
  refine rtg _ rfl (ls rfl lz) (fun hg1_5 => by
      have hg1_5' := hg1_5
      try simp only [beq_iff_eq, decide_eq_true_eq, decide_eq_false_iff_not, Bool.and_eq_true, Bool.or_eq_true, Bool.or_eq_false_iff, Bool.and_eq_false_iff] at hg1_5'
      exact opD_len_sl Go.Proofs.Tryd.underlying38 (lz.trans (pif_pos hg1_5))) ?_
  refine rtg _ rfl (ls rfl (ls rfl lz)) (fun hg1_6 => by
      have hg1_6' := hg1_6
      try simp only [beq_iff_eq, decide_eq_true_eq, decide_eq_false_iff_not, Bool.and_eq_true, Bool.or_eq_true, Bool.or_eq_false_iff, Bool.and_eq_false_iff] at hg1_6'
      exact opD_gtr (lz.trans (pif_pos hg1_6)) (ev_const _ _)) ?_
  refine rts _ rfl (opD_or (ls rfl (ls rfl (ls rfl lz))) lz) ?_
  refine rts _ rfl (opD_move lz) ?_
  refine rtg _ rfl lz (fun hg1_9 => by
      have hg1_9' := hg1_9
      try simp only [beq_iff_eq, decide_eq_true_eq, decide_eq_false_iff_not, Bool.and_eq_true, Bool.or_eq_true, Bool.or_eq_false_iff, Bool.and_eq_false_iff] at hg1_9'
      exact opD_move (ls rfl (ls rfl (ls rfl (ls rfl (ls rfl (ls rfl (ls rfl (ls rfl (ls rfl (os rfl (os rfl (os rfl oz))))))))))))) ?_
  refine rtg _ rfl (ls rfl lz) (fun hg1_10 => by
      have hg1_10' := hg1_10
      try simp only [beq_iff_eq, decide_eq_true_eq, decide_eq_false_iff_not, Bool.and_eq_true, Bool.or_eq_true, Bool.or_eq_false_iff, Bool.and_eq_false_iff] at hg1_10'
      exact opD_len_sl Go.Proofs.Tryd.underlying23 (lz.trans (pif_pos hg1_10))) ?_
  refine rtg _ rfl (ls rfl (ls rfl lz)) (fun hg1_11 => by
      have hg1_11' := hg1_11
      try simp only [beq_iff_eq, decide_eq_true_eq, decide_eq_false_iff_not, Bool.and_eq_true, Bool.or_eq_true, Bool.or_eq_false_iff, Bool.and_eq_false_iff] at hg1_11'
      exact opD_gtr (lz.trans (pif_pos hg1_11)) (ev_const _ _)) ?_
  refine rts _ rfl (opD_or (ls rfl (ls rfl (ls rfl lz))) lz) ?_
  refine .nil ?_
  refine aw_keep [(30, _), (6, _), (0, _), (1, _), (2, _)] ⟨lg lz, lg (ls rfl (ls rfl (ls rfl (ls rfl (ls rfl (ls rfl (ls rfl (ls rfl (ls rfl (ls rfl (ls rfl (ls rfl (ls rfl oz))))))))))))), lg (ls rfl (ls rfl (ls rfl (ls rfl (ls rfl (ls rfl (ls rfl (ls rfl (ls rfl (ls rfl (ls rfl (ls rfl (ls rfl (os rfl oz)))))))))))))), lg (ls rfl (ls rfl (ls rfl (ls rfl (ls rfl (ls rfl (ls rfl (ls rfl (ls rfl (ls rfl (ls rfl (ls rfl (ls rfl (os rfl (os rfl oz))))))))))))))), lg (ls rfl (ls rfl (ls rfl (ls rfl (ls rfl (ls rfl (ls rfl (ls rfl (ls rfl (ls rfl (ls rfl (ls rfl (ls rfl (os rfl (os rfl (os rfl oz)))))))))))))))), trivial⟩ ?_
  refine aw_cond _ oz (fun hc => ?_) (fun hc => ?_)
  · skip
    refine aw_seq ?_
    refine aw_region (by decide) ?_
    refine rts _ rfl (opD_call ht18 (sure06 hst) trivial) ?_
    refine rts _ rfl (opD_assign lz) ?_
    refine .nil ?_
    refine aw_keep [(6, _), (30, _), (0, _), (1, _), (2, _)] ⟨lg lz, lg (ls rfl (ls rfl oz)), lg (ls rfl (ls rfl (os rfl (os rfl oz)))), lg (ls rfl (ls rfl (os rfl (os rfl (os rfl oz))))), lg (ls rfl (ls rfl (os rfl (os rfl (os rfl (os rfl oz)))))), trivial⟩ ?_
    refine aw_ret ?_
    exact done_ext (.inr rfl) (res_1 rfl (eg oz)) (pl_bnd _ _ _)
  · skip
    simp only [Bool.or_eq_false_iff, decide_eq_false_iff_not] at hc
    obtain ⟨⟨hl6, hk6⟩, hm6⟩ := hc
    have hvm := vb_len10 (n := m.length) (by omega)
    refine aw_skip ?_
    refine aw_keep [(30, _), (6, _), (0, _), (1, _), (2, _)] ⟨lg oz, lg (os rfl oz), lg (os rfl (os rfl oz)), lg (os rfl (os rfl (os rfl oz))), lg (os rfl (os rfl (os rfl (os rfl oz)))), trivial⟩ ?_
    refine aw_seq ?_
    refine aw_region (by decide) ?_
    refine rts _ rfl (opD_assign (ev_const _ _)) ?_
    refine .nil ?_
    refine aw_keep [(7, _), (30, _), (6, _), (0, _), (1, _), (2, _)] ⟨lg lz, lg (ls rfl oz), lg (ls rfl (os rfl oz)), lg (ls rfl (os rfl (os rfl oz))), lg (ls rfl (os rfl (os rfl (os rfl oz)))), lg (ls rfl (os rfl (os rfl (os rfl (os rfl oz))))), trivial⟩ ?_
    refine aw_seq ?_
    refine aw_seq ?_
    refine aw_region (by decide) ?_
    refine rts _ rfl (opD_move oz) ?_
    refine rts _ rfl (opD_pure ht25 (nil_byte) ⟨le_of_eq lz, trivial⟩) ?_
    refine rts _ rfl (opD_neq lz (ev_const _ _)) ?_
    refine rts _ rfl (opD_move lz) ?_
    refine rtg _ rfl lz (fun hg4_4 => by
        have hg4_4' := hg4_4
        try simp only [beq_iff_eq, decide_eq_true_eq, decide_eq_false_iff_not, Bool.and_eq_true, Bool.or_eq_true, Bool.or_eq_false_iff, Bool.and_eq_false_iff] at hg4_4'
        exact opD_move (ls rfl (ls rfl (ls rfl (ls rfl oz))))) ?_
    refine rtg _ rfl (ls rfl lz) (fun hg4_5 => by
        have hg4_5' := hg4_5
        try simp only [beq_iff_eq, decide_eq_true_eq, decide_eq_false_iff_not, Bool.and_eq_true, Bool.or_eq_true, Bool.or_eq_false_iff, Bool.and_eq_false_iff] at hg4_5'
        exact opD_pure ht23 (nil_num) ⟨le_of_eq (lz.trans (pif_pos hg4_5)), le_of_eq (ev_const _ _), trivial⟩) ?_
    refine rtg _ rfl (ls rfl (ls rfl lz)) (fun hg4_6 => by
        have hg4_6' := hg4_6
        try simp only [beq_iff_eq, decide_eq_true_eq, decide_eq_false_iff_not, Bool.and_eq_true, Bool.or_eq_true, Bool.or_eq_false_iff, Bool.and_eq_false_iff] at hg4_6'
        exact opD_neq (lz.trans (pif_pos hg4_6)) (ev_const _ _)) ?_
    refine rts _ rfl (opD_or (ls rfl (ls rfl (ls rfl lz))) lz) ?_
    refine rts _ rfl (opD_move lz) ?_
    refine rtg _ rfl lz (fun hg4_9 => by
        have hg4_9' := hg4_9
        try simp only [beq_iff_eq, decide_eq_true_eq, decide_eq_false_iff_not, Bool.and_eq_true, Bool.or_eq_true, Bool.or_eq_false_iff, Bool.and_eq_false_iff] at hg4_9'
        exact opD_move (ls rfl (ls rfl (ls rfl (ls rfl (ls rfl (ls rfl (ls rfl (ls rfl (ls rfl oz)))))))))) ?_
    refine rtg _ rfl (ls rfl lz) (fun hg4_10 => by
        have hg4_10' := hg4_10
        try simp only [beq_iff_eq, decide_eq_true_eq, decide_eq_false_iff_not, Bool.and_eq_true, Bool.or_eq_true, Bool.or_eq_false_iff, Bool.and_eq_false_iff] at hg4_10'
        exact opD_pure ht24 (nil_bytes (n := 9) (by omega)) ⟨le_of_eq (lz.trans (pif_pos hg4_10)), le_of_eq (ev_const _ _), trivial⟩) ?_
    refine rtg _ rfl (ls rfl (ls rfl lz)) (fun hg4_11 => by
        have hg4_11' := hg4_11
        try simp only [beq_iff_eq, decide_eq_true_eq, decide_eq_false_iff_not, Bool.and_eq_true, Bool.or_eq_true, Bool.or_eq_false_iff, Bool.and_eq_false_iff] at hg4_11'
        exact opD_len_sl Go.Proofs.Tryd.underlying23 (lz.trans (pif_pos hg4_11))) ?_
    refine rtg _ rfl (ls rfl (ls rfl (ls rfl lz))) (fun hg4_12 => by
        have hg4_12' := hg4_12
        try simp only [beq_iff_eq, decide_eq_true_eq, decide_eq_false_iff_not, Bool.and_eq_true, Bool.or_eq_true, Bool.or_eq_false_iff, Bool.and_eq_false_iff] at hg4_12'
        exact opD_neq (lz.trans (pif_pos hg4_12)) (ev_const _ _)) ?_
    refine rts _ rfl (opD_or (ls rfl (ls rfl (ls rfl (ls rfl lz)))) lz) ?_
    refine rts _ rfl (opD_move lz) ?_
    refine rtg _ rfl lz (fun hg4_15 => by
        have hg4_15' := hg4_15
        try simp only [beq_iff_eq, decide_eq_true_eq, decide_eq_false_iff_not, Bool.and_eq_true, Bool.or_eq_true, Bool.or_eq_false_iff, Bool.and_eq_false_iff] at hg4_15'
        exact opD_move (ls rfl (ls rfl (ls rfl (ls rfl (ls rfl (ls rfl (ls rfl (ls rfl (ls rfl (ls rfl (ls rfl (ls rfl (ls rfl (ls rfl (ls rfl oz)))))))))))))))) ?_
    refine rtg _ rfl (ls rfl lz) (fun hg4_16 => by
        have hg4_16' := hg4_16
        try simp only [beq_iff_eq, decide_eq_true_eq, decide_eq_false_iff_not, Bool.and_eq_true, Bool.or_eq_true, Bool.or_eq_false_iff, Bool.and_eq_false_iff] at hg4_16'
        exact opD_pure ht28 (nil_left) ⟨le_of_eq (lz.trans (pif_pos hg4_16)), trivial⟩) ?_
    refine rtg _ rfl (ls rfl (ls rfl lz)) (fun hg4_17 => by
        have hg4_17' := hg4_17
        try simp only [beq_iff_eq, decide_eq_true_eq, decide_eq_false_iff_not, Bool.and_eq_true, Bool.or_eq_true, Bool.or_eq_false_iff, Bool.and_eq_false_iff] at hg4_17'
        exact opD_neq (lz.trans (pif_pos hg4_17)) (ev_const _ _)) ?_
    refine rts _ rfl (opD_or (ls rfl (ls rfl (ls rfl lz))) lz) ?_
    refine rts _ rfl (opD_move lz) ?_
    refine rtg _ rfl lz (fun hg4_20 => by
        have hg4_20' := hg4_20
        try simp only [beq_iff_eq, decide_eq_true_eq, decide_eq_false_iff_not, Bool.and_eq_true, Bool.or_eq_true, Bool.or_eq_false_iff, Bool.and_eq_false_iff] at hg4_20'
        exact opD_move (ls rfl (ls rfl (ls rfl (ls rfl (ls rfl (ls rfl (ls rfl (ls rfl (ls rfl (ls rfl (ls rfl (ls rfl (ls rfl (ls rfl (ls rfl (ls rfl (ls rfl (ls rfl (ls rfl (ls rfl oz))))))))))))))))))))) ?_
    refine rtg _ rfl (ls rfl lz) (fun hg4_21 => by
        have hg4_21' := hg4_21
        try simp only [beq_iff_eq, decide_eq_true_eq, decide_eq_false_iff_not, Bool.and_eq_true, Bool.or_eq_true, Bool.or_eq_false_iff, Bool.and_eq_false_iff] at hg4_21'
        exact opD_pure ht26 (nil_done) ⟨le_of_eq (lz.trans (pif_pos hg4_21)), trivial⟩) ?_
    refine rtg _ rfl (ls rfl (ls rfl lz)) (fun hg4_22 => by
        have hg4_22' := hg4_22
        try simp only [beq_iff_eq, decide_eq_true_eq, decide_eq_false_iff_not, Bool.and_eq_true, Bool.or_eq_true, Bool.or_eq_false_iff, Bool.and_eq_false_iff] at hg4_22'
        exact opD_call ht27 (num06 (o := some 3) hst) ⟨le_of_eq (lz.trans (pif_pos hg4_22)), trivial⟩) ?_
    refine rtg _ rfl (ls rfl (ls rfl (ls rfl lz))) (fun hg4_23 => by
        have hg4_23' := hg4_23
        try simp only [beq_iff_eq, decide_eq_true_eq, decide_eq_false_iff_not, Bool.and_eq_true, Bool.or_eq_true, Bool.or_eq_false_iff, Bool.and_eq_false_iff] at hg4_23'
        exact opD_neq (lz.trans (pif_pos hg4_23)) (ev_const _ _)) ?_
    refine rts _ rfl (opD_or (ls rfl (ls rfl (ls rfl (ls rfl lz)))) lz) ?_
    refine .nil ?_
    refine aw_keep [(56, _), (7, _), (30, _), (6, _), (0, _), (1, _), (2, _)] ⟨lg lz, lg (ls rfl (ls rfl (ls rfl (ls rfl (ls rfl (ls rfl (ls rfl (ls rfl (ls rfl (ls rfl (ls rfl (ls rfl (ls rfl (ls rfl (ls rfl (ls rfl (ls rfl (ls rfl (ls rfl (ls rfl (ls rfl (ls rfl (ls rfl (ls rfl (ls rfl oz))))))))))))))))))))))))), lg (ls rfl (ls rfl (ls rfl (ls rfl (ls rfl (ls rfl (ls rfl (ls rfl (ls rfl (ls rfl (ls rfl (ls rfl (ls rfl (ls rfl (ls rfl (ls rfl (ls rfl (ls rfl (ls rfl (ls rfl (ls rfl (ls rfl (ls rfl (ls rfl (ls rfl (os rfl oz)))))))))))))))))))))))))), lg (ls rfl (ls rfl (ls rfl (ls rfl (ls rfl (ls rfl (ls rfl (ls rfl (ls rfl (ls rfl (ls rfl (ls rfl (ls rfl (ls rfl (ls rfl (ls rfl (ls rfl (ls rfl (ls rfl (ls rfl (ls rfl (ls rfl (ls rfl (ls rfl (ls rfl (os rfl (os rfl oz))))))))))))))))))))))))))), lg (ls rfl (ls rfl (ls rfl (ls rfl (ls rfl (ls rfl (ls rfl (ls rfl (ls rfl (ls rfl (ls rfl (ls rfl (ls rfl (ls rfl (ls rfl (ls rfl (ls rfl (ls rfl (ls rfl (ls rfl (ls rfl (ls rfl (ls rfl (ls rfl (ls rfl (os rfl (os rfl (os rfl oz)))))))))))))))))))))))))))), lg (ls rfl (ls rfl (ls rfl (ls rfl (ls rfl (ls rfl (ls rfl (ls rfl (ls rfl (ls rfl (ls rfl (ls rfl (ls rfl (ls rfl (ls rfl (ls rfl (ls rfl (ls rfl (ls rfl (ls rfl (ls rfl (ls rfl (ls rfl (ls rfl (ls rfl (os rfl (os rfl (os rfl (os rfl oz))))))))))))))))))))))))))))), lg (ls rfl (ls rfl (ls rfl (ls rfl (ls rfl (ls rfl (ls rfl (ls rfl (ls rfl (ls rfl (ls rfl (ls rfl (ls rfl (ls rfl (ls rfl (ls rfl (ls rfl (ls rfl (ls rfl (ls rfl (ls rfl (ls rfl (ls rfl (ls rfl (ls rfl (os rfl (os rfl (os rfl (os rfl (os rfl oz)))))))))))))))))))))))))))))), trivial⟩ ?_
    refine aw_cond _ oz (fun hc => ?_) (fun hc => ?_)
    · skip
      exfalso; revert hc; simp [numV]
    · skip
      refine aw_skip ?_
      refine aw_keep [(56, _), (7, _), (30, _), (6, _), (0, _), (1, _), (2, _)] ⟨lg oz, lg (os rfl oz), lg (os rfl (os rfl oz)), lg (os rfl (os rfl (os rfl oz))), lg (os rfl (os rfl (os rfl (os rfl oz)))), lg (os rfl (os rfl (os rfl (os rfl (os rfl oz))))), lg (os rfl (os rfl (os rfl (os rfl (os rfl (os rfl oz)))))), trivial⟩ ?_
      refine aw_seq ?_
      refine aw_seq ?_
      refine aw_flat mixed (by decide +kernel) ?_
      refine zts _ rfl (opD_move (os rfl (os rfl (os rfl (os rfl oz))))) ?_
      refine zts _ rfl (opD_pure ht19 (own1_pure (pk_byte (by omega)) (kI_bnd _ _ _ _)) ⟨le_sl lz, le_of_eq (ev_const _ _), trivial⟩) ?_
      refine zts _ rfl (opD_bytes_str Go.Proofs.Tryd.underlying23 Go.Proofs.Tryd.underlying5 Go.Proofs.Tryd.underlying9 lz) ?_
      refine zts _ rfl (opD_move (ls rfl (ls rfl (ls rfl (os rfl (os rfl (os rfl (os rfl oz)))))))) ?_
      refine zts _ rfl (opD_bytes_str Go.Proofs.Tryd.underlying23 Go.Proofs.Tryd.underlying5 Go.Proofs.Tryd.underlying9 lz) ?_
      refine zts _ rfl (opD_sadd lz (ev_const _ _) (by rw [strOf_size, show ByteArray.size ⟨#[7]⟩ = 1 from rfl]; omega)) ?_
      refine zts _ rfl (opD_sneq (ls rfl (ls rfl (ls rfl lz))) lz) ?_
      refine zts _ rfl (opD_move lz) ?_
      refine ztg _ rfl lz (fun hg6_8 => by
          have hg6_8' := hg6_8
          try simp only [beq_iff_eq, decide_eq_true_eq, decide_eq_false_iff_not, Bool.and_eq_true, Bool.or_eq_true, Bool.or_eq_false_iff, Bool.and_eq_false_iff] at hg6_8'
          exact opD_move (ls rfl (ls rfl (ls rfl (ls rfl (ls rfl (ls rfl (ls rfl (ls rfl (os rfl (os rfl (os rfl (os rfl oz))))))))))))) ?_
      refine ztg _ rfl (ls rfl lz) (fun hg6_9 => by
          have hg6_9' := hg6_9
          try simp only [beq_iff_eq, decide_eq_true_eq, decide_eq_false_iff_not, Bool.and_eq_true, Bool.or_eq_true, Bool.or_eq_false_iff, Bool.and_eq_false_iff] at hg6_9'
          exact opD_move (ls rfl (ls rfl (ls rfl (ls rfl (ls rfl (ls rfl (ls rfl (ls rfl (ls rfl (os rfl (os rfl (os rfl (os rfl (os rfl (os rfl oz)))))))))))))))) ?_
      refine ztg _ rfl (ls rfl (ls rfl lz)) (fun hg6_10 => by
          have hg6_10' := hg6_10
          try simp only [beq_iff_eq, decide_eq_true_eq, decide_eq_false_iff_not, Bool.and_eq_true, Bool.or_eq_true, Bool.or_eq_false_iff, Bool.and_eq_false_iff] at hg6_10'
          exact opD_len_sl Go.Proofs.Tryd.underlying23 (lz.trans (pif_pos hg6_10))) ?_
      refine ztg _ rfl (ls rfl (ls rfl (ls rfl lz))) (fun hg6_11 => by
          have hg6_11' := hg6_11
          try simp only [beq_iff_eq, decide_eq_true_eq, decide_eq_false_iff_not, Bool.and_eq_true, Bool.or_eq_true, Bool.or_eq_false_iff, Bool.and_eq_false_iff] at hg6_11'
          exact opD_conv_int Go.Proofs.Tryd.underlying3 Go.Proofs.Tryd.underlying22 (lz.trans (pif_pos hg6_11)) (by first | exact IntWalk.u64_in _ (by omega) | exact rfl)) ?_
      refine ztg _ rfl (ls rfl (ls rfl (ls rfl (ls rfl lz)))) (fun hg6_12 => by
          have hg6_12' := hg6_12
          try simp only [beq_iff_eq, decide_eq_true_eq, decide_eq_false_iff_not, Bool.and_eq_true, Bool.or_eq_true, Bool.or_eq_false_iff, Bool.and_eq_false_iff] at hg6_12'
          exact opD_pure ht21 (own1_pure (pk_num (n := m.length) (by omega) (by omega)) (kI_bnd _ _ _ _)) ⟨le_sl ((ls rfl (ls rfl (ls rfl lz))).trans (pif_pos hg6_12)), le_of_eq (lz.trans (pif_pos hg6_12)), trivial⟩) ?_
      refine ztg _ rfl (ls rfl (ls rfl (ls rfl (ls rfl (ls rfl lz))))) (fun hg6_13 => by
          have hg6_13' := hg6_13
          try simp only [beq_iff_eq, decide_eq_true_eq, decide_eq_false_iff_not, Bool.and_eq_true, Bool.or_eq_true, Bool.or_eq_false_iff, Bool.and_eq_false_iff] at hg6_13'
          exact opD_bytes_str Go.Proofs.Tryd.underlying23 Go.Proofs.Tryd.underlying5 Go.Proofs.Tryd.underlying9 (lz.trans (pif_pos hg6_13))) ?_
      refine ztg _ rfl (ls rfl (ls rfl (ls rfl (ls rfl (ls rfl (ls rfl lz)))))) (fun hg6_14 => by
          have hg6_14' := hg6_14
          try simp only [beq_iff_eq, decide_eq_true_eq, decide_eq_false_iff_not, Bool.and_eq_true, Bool.or_eq_true, Bool.or_eq_false_iff, Bool.and_eq_false_iff] at hg6_14'
          exact opD_move (ls rfl (ls rfl (ls rfl (ls rfl (ls rfl (ls rfl (ls rfl (ls rfl (ls rfl (ls rfl (ls rfl (ls rfl (ls rfl (ls rfl (os rfl (os rfl (os rfl (os rfl oz))))))))))))))))))) ?_
      refine ztg _ rfl (ls rfl (ls rfl (ls rfl (ls rfl (ls rfl (ls rfl (ls rfl lz))))))) (fun hg6_15 => by
          have hg6_15' := hg6_15
          try simp only [beq_iff_eq, decide_eq_true_eq, decide_eq_false_iff_not, Bool.and_eq_true, Bool.or_eq_true, Bool.or_eq_false_iff, Bool.and_eq_false_iff] at hg6_15'
          exact opD_move (ls rfl (ls rfl (ls rfl (ls rfl (ls rfl (ls rfl (ls rfl (ls rfl (ls rfl (ls rfl (ls rfl (ls rfl (ls rfl (ls rfl (ls rfl (os rfl (os rfl (os rfl (os rfl (os rfl (os rfl oz)))))))))))))))))))))) ?_
      refine ztg _ rfl (ls rfl (ls rfl (ls rfl (ls rfl (ls rfl (ls rfl (ls rfl (ls rfl lz)))))))) (fun hg6_16 => by
          have hg6_16' := hg6_16
          try simp only [beq_iff_eq, decide_eq_true_eq, decide_eq_false_iff_not, Bool.and_eq_true, Bool.or_eq_true, Bool.or_eq_false_iff, Bool.and_eq_false_iff] at hg6_16'
          exact opD_len_sl Go.Proofs.Tryd.underlying23 (lz.trans (pif_pos hg6_16))) ?_
      refine ztg _ rfl (ls rfl (ls rfl (ls rfl (ls rfl (ls rfl (ls rfl (ls rfl (ls rfl (ls rfl lz))))))))) (fun hg6_17 => by
          have hg6_17' := hg6_17
          try simp only [beq_iff_eq, decide_eq_true_eq, decide_eq_false_iff_not, Bool.and_eq_true, Bool.or_eq_true, Bool.or_eq_false_iff, Bool.and_eq_false_iff] at hg6_17'
          exact opD_conv_int Go.Proofs.Tryd.underlying3 Go.Proofs.Tryd.underlying22 (lz.trans (pif_pos hg6_17)) (by first | exact IntWalk.u64_in _ (by omega) | exact rfl)) ?_
      refine ztg _ rfl (ls rfl (ls rfl (ls rfl (ls rfl (ls rfl (ls rfl (ls rfl (ls rfl (ls rfl (ls rfl lz)))))))))) (fun hg6_18 => by
          have hg6_18' := hg6_18
          try simp only [beq_iff_eq, decide_eq_true_eq, decide_eq_false_iff_not, Bool.and_eq_true, Bool.or_eq_true, Bool.or_eq_false_iff, Bool.and_eq_false_iff] at hg6_18'
          exact opD_pure ht29 (own1_pure (rput (n0 := m.length) (by omega) (by omega)) (kI_bnd _ _ _ _)) ⟨le_sl ((ls rfl (ls rfl (ls rfl lz))).trans (pif_pos hg6_18)), le_of_eq (lz.trans (pif_pos hg6_18)), trivial⟩) ?_
      refine ztg _ rfl (ls rfl (ls rfl (ls rfl (ls rfl (ls rfl (ls rfl (ls rfl (ls rfl (ls rfl (ls rfl (ls rfl lz))))))))))) (fun hg6_19 => by
          have hg6_19' := hg6_19
          try simp only [beq_iff_eq, decide_eq_true_eq, decide_eq_false_iff_not, Bool.and_eq_true, Bool.or_eq_true, Bool.or_eq_false_iff, Bool.and_eq_false_iff] at hg6_19'
          exact opD_bytes_str Go.Proofs.Tryd.underlying23 Go.Proofs.Tryd.underlying5 Go.Proofs.Tryd.underlying9 (lz.trans (pif_pos hg6_19))) ?_
      refine ztg _ rfl (ls rfl (ls rfl (ls rfl (ls rfl (ls rfl (ls rfl (ls rfl (ls rfl (ls rfl (ls rfl (ls rfl (ls rfl lz)))))))))))) (fun hg6_20 => by
          have hg6_20' := hg6_20
          try simp only [beq_iff_eq, decide_eq_true_eq, decide_eq_false_iff_not, Bool.and_eq_true, Bool.or_eq_true, Bool.or_eq_false_iff, Bool.and_eq_false_iff] at hg6_20'
          exact opD_sneq ((ls rfl (ls rfl (ls rfl (ls rfl (ls rfl (ls rfl lz)))))).trans (pif_pos hg6_20)) (lz.trans (pif_pos hg6_20))) ?_
      refine zts _ rfl (opD_or (ls rfl (ls rfl (ls rfl (ls rfl (ls rfl (ls rfl (ls rfl (ls rfl (ls rfl (ls rfl (ls rfl (ls rfl (ls rfl lz))))))))))))) lz) ?_
      refine zts _ rfl (opD_move lz) ?_
      refine ztg _ rfl lz (fun hg6_23 => by
          have hg6_23' := hg6_23
          try simp only [beq_iff_eq, decide_eq_true_eq, decide_eq_false_iff_not, Bool.and_eq_true, Bool.or_eq_true, Bool.or_eq_false_iff, Bool.and_eq_false_iff] at hg6_23'
          exact opD_move (ls rfl (ls rfl (ls rfl (ls rfl (ls rfl (ls rfl (ls rfl (ls rfl (ls rfl (ls rfl (ls rfl (ls rfl (ls rfl (ls rfl (ls rfl (ls rfl (ls rfl (ls rfl (ls rfl (ls rfl (ls rfl (ls rfl (ls rfl (os rfl (os rfl (os rfl (os rfl oz)))))))))))))))))))))))))))) ?_
      refine ztg _ rfl (ls rfl lz) (fun hg6_24 => by
          have hg6_24' := hg6_24
          try simp only [beq_iff_eq, decide_eq_true_eq, decide_eq_false_iff_not, Bool.and_eq_true, Bool.or_eq_true, Bool.or_eq_false_iff, Bool.and_eq_false_iff] at hg6_24'
          exact opD_move (ls rfl (ls rfl (ls rfl (ls rfl (ls rfl (ls rfl (ls rfl (ls rfl (ls rfl (ls rfl (ls rfl (ls rfl (ls rfl (ls rfl (ls rfl (ls rfl (ls rfl (ls rfl (ls rfl (ls rfl (ls rfl (ls rfl (ls rfl (ls rfl (os rfl (os rfl (os rfl (os rfl (os rfl (os rfl oz))))))))))))))))))))))))))))))) ?_
      refine ztg _ rfl (ls rfl (ls rfl lz)) (fun hg6_25 => by
          have hg6_25' := hg6_25
          try simp only [beq_iff_eq, decide_eq_true_eq, decide_eq_false_iff_not, Bool.and_eq_true, Bool.or_eq_true, Bool.or_eq_false_iff, Bool.and_eq_false_iff] at hg6_25'
          exact opD_pure ht20 (own1_pure (pk_bytes (by omega)) (kI_bnd _ _ _ _)) ⟨le_sl ((ls rfl lz).trans (pif_pos hg6_25)), le_sl (lz.trans (pif_pos hg6_25)), trivial⟩) ?_
      refine ztg _ rfl (ls rfl (ls rfl (ls rfl lz))) (fun hg6_26 => by
          have hg6_26' := hg6_26
          try simp only [beq_iff_eq, decide_eq_true_eq, decide_eq_false_iff_not, Bool.and_eq_true, Bool.or_eq_true, Bool.or_eq_false_iff, Bool.and_eq_false_iff] at hg6_26'
          exact opD_bytes_str Go.Proofs.Tryd.underlying23 Go.Proofs.Tryd.underlying5 Go.Proofs.Tryd.underlying9 (lz.trans (pif_pos hg6_26))) ?_
      refine ztg _ rfl (ls rfl (ls rfl (ls rfl (ls rfl lz)))) (fun hg6_27 => by
          have hg6_27' := hg6_27
          try simp only [beq_iff_eq, decide_eq_true_eq, decide_eq_false_iff_not, Bool.and_eq_true, Bool.or_eq_true, Bool.or_eq_false_iff, Bool.and_eq_false_iff] at hg6_27'
          exact opD_move (ls rfl (ls rfl (ls rfl (ls rfl (ls rfl (ls rfl (ls rfl (ls rfl (ls rfl (ls rfl (ls rfl (ls rfl (ls rfl (ls rfl (ls rfl (ls rfl (ls rfl (ls rfl (ls rfl (ls rfl (ls rfl (ls rfl (ls rfl (ls rfl (ls rfl (ls rfl (ls rfl (os rfl (os rfl (os rfl (os rfl oz)))))))))))))))))))))))))))))))) ?_
      refine ztg _ rfl (ls rfl (ls rfl (ls rfl (ls rfl (ls rfl lz))))) (fun hg6_28 => by
          have hg6_28' := hg6_28
          try simp only [beq_iff_eq, decide_eq_true_eq, decide_eq_false_iff_not, Bool.and_eq_true, Bool.or_eq_true, Bool.or_eq_false_iff, Bool.and_eq_false_iff] at hg6_28'
          exact opD_move (ls rfl (ls rfl (ls rfl (ls rfl (ls rfl (ls rfl (ls rfl (ls rfl (ls rfl (ls rfl (ls rfl (ls rfl (ls rfl (ls rfl (ls rfl (ls rfl (ls rfl (ls rfl (ls rfl (ls rfl (ls rfl (ls rfl (ls rfl (ls rfl (ls rfl (ls rfl (ls rfl (ls rfl (os rfl (os rfl (os rfl (os rfl (os rfl (os rfl oz))))))))))))))))))))))))))))))))))) ?_
      refine ztg _ rfl (ls rfl (ls rfl (ls rfl (ls rfl (ls rfl (ls rfl lz)))))) (fun hg6_29 => by
          have hg6_29' := hg6_29
          try simp only [beq_iff_eq, decide_eq_true_eq, decide_eq_false_iff_not, Bool.and_eq_true, Bool.or_eq_true, Bool.or_eq_false_iff, Bool.and_eq_false_iff] at hg6_29'
          exact opD_pure ht30 (own1_pure (rputs (by omega)) (kI_bnd _ _ _ _)) ⟨le_sl ((ls rfl lz).trans (pif_pos hg6_29)), le_sl (lz.trans (pif_pos hg6_29)), trivial⟩) ?_
      refine ztg _ rfl (ls rfl (ls rfl (ls rfl (ls rfl (ls rfl (ls rfl (ls rfl lz))))))) (fun hg6_30 => by
          have hg6_30' := hg6_30
          try simp only [beq_iff_eq, decide_eq_true_eq, decide_eq_false_iff_not, Bool.and_eq_true, Bool.or_eq_true, Bool.or_eq_false_iff, Bool.and_eq_false_iff] at hg6_30'
          exact opD_bytes_str Go.Proofs.Tryd.underlying23 Go.Proofs.Tryd.underlying5 Go.Proofs.Tryd.underlying9 (lz.trans (pif_pos hg6_30))) ?_
      refine ztg _ rfl (ls rfl (ls rfl (ls rfl (ls rfl (ls rfl (ls rfl (ls rfl (ls rfl lz)))))))) (fun hg6_31 => by
          have hg6_31' := hg6_31
          try simp only [beq_iff_eq, decide_eq_true_eq, decide_eq_false_iff_not, Bool.and_eq_true, Bool.or_eq_true, Bool.or_eq_false_iff, Bool.and_eq_false_iff] at hg6_31'
          exact opD_sneq ((ls rfl (ls rfl (ls rfl (ls rfl lz)))).trans (pif_pos hg6_31)) (lz.trans (pif_pos hg6_31))) ?_
      refine zts _ rfl (opD_or (ls rfl (ls rfl (ls rfl (ls rfl (ls rfl (ls rfl (ls rfl (ls rfl (ls rfl lz))))))))) lz) ?_
      refine .nil ?_
      refine aw_keep [(89, _), (56, _), (7, _), (30, _), (6, _), (0, _), (1, _), (2, _)] ⟨lg lz, lg (ls rfl (ls rfl (ls rfl (ls rfl (ls rfl (ls rfl (ls rfl (ls rfl (ls rfl (ls rfl (ls rfl (ls rfl (ls rfl (ls rfl (ls rfl (ls rfl (ls rfl (ls rfl (ls rfl (ls rfl (ls rfl (ls rfl (ls rfl (ls rfl (ls rfl (ls rfl (ls rfl (ls rfl (ls rfl (ls rfl (ls rfl (ls rfl (ls rfl oz))))))))))))))))))))))))))))))))), lg (ls rfl (ls rfl (ls rfl (ls rfl (ls rfl (ls rfl (ls rfl (ls rfl (ls rfl (ls rfl (ls rfl (ls rfl (ls rfl (ls rfl (ls rfl (ls rfl (ls rfl (ls rfl (ls rfl (ls rfl (ls rfl (ls rfl (ls rfl (ls rfl (ls rfl (ls rfl (ls rfl (ls rfl (ls rfl (ls rfl (ls rfl (ls rfl (ls rfl (os rfl oz)))))))))))))))))))))))))))))))))), lg (ls rfl (ls rfl (ls rfl (ls rfl (ls rfl (ls rfl (ls rfl (ls rfl (ls rfl (ls rfl (ls rfl (ls rfl (ls rfl (ls rfl (ls rfl (ls rfl (ls rfl (ls rfl (ls rfl (ls rfl (ls rfl (ls rfl (ls rfl (ls rfl (ls rfl (ls rfl (ls rfl (ls rfl (ls rfl (ls rfl (ls rfl (ls rfl (ls rfl (os rfl (os rfl oz))))))))))))))))))))))))))))))))))), lg (ls rfl (ls rfl (ls rfl (ls rfl (ls rfl (ls rfl (ls rfl (ls rfl (ls rfl (ls rfl (ls rfl (ls rfl (ls rfl (ls rfl (ls rfl (ls rfl (ls rfl (ls rfl (ls rfl (ls rfl (ls rfl (ls rfl (ls rfl (ls rfl (ls rfl (ls rfl (ls rfl (ls rfl (ls rfl (ls rfl (ls rfl (ls rfl (ls rfl (os rfl (os rfl (os rfl oz)))))))))))))))))))))))))))))))))))), lg (ls rfl (ls rfl (ls rfl (ls rfl (ls rfl (ls rfl (ls rfl (ls rfl (ls rfl (ls rfl (ls rfl (ls rfl (ls rfl (ls rfl (ls rfl (ls rfl (ls rfl (ls rfl (ls rfl (ls rfl (ls rfl (ls rfl (ls rfl (ls rfl (ls rfl (ls rfl (ls rfl (ls rfl (ls rfl (ls rfl (ls rfl (ls rfl (ls rfl (os rfl (os rfl (os rfl (os rfl oz))))))))))))))))))))))))))))))))))))), lg (ls rfl (ls rfl (ls rfl (ls rfl (ls rfl (ls rfl (ls rfl (ls rfl (ls rfl (ls rfl (ls rfl (ls rfl (ls rfl (ls rfl (ls rfl (ls rfl (ls rfl (ls rfl (ls rfl (ls rfl (ls rfl (ls rfl (ls rfl (ls rfl (ls rfl (ls rfl (ls rfl (ls rfl (ls rfl (ls rfl (ls rfl (ls rfl (ls rfl (os rfl (os rfl (os rfl (os rfl (os rfl oz)))))))))))))))))))))))))))))))))))))), lg (ls rfl (ls rfl (ls rfl (ls rfl (ls rfl (ls rfl (ls rfl (ls rfl (ls rfl (ls rfl (ls rfl (ls rfl (ls rfl (ls rfl (ls rfl (ls rfl (ls rfl (ls rfl (ls rfl (ls rfl (ls rfl (ls rfl (ls rfl (ls rfl (ls rfl (ls rfl (ls rfl (ls rfl (ls rfl (ls rfl (ls rfl (ls rfl (ls rfl (os rfl (os rfl (os rfl (os rfl (os rfl (os rfl oz))))))))))))))))))))))))))))))))))))))), trivial⟩ ?_
      refine aw_cond _ oz (fun hc => ?_) (fun hc => ?_)
      · skip
        exfalso; revert hc; simp [str7]
      · skip
        refine aw_skip ?_
        refine aw_keep [(89, _), (56, _), (7, _), (30, _), (6, _), (0, _), (1, _), (2, _)] ⟨lg oz, lg (os rfl oz), lg (os rfl (os rfl oz)), lg (os rfl (os rfl (os rfl oz))), lg (os rfl (os rfl (os rfl (os rfl oz)))), lg (os rfl (os rfl (os rfl (os rfl (os rfl oz))))), lg (os rfl (os rfl (os rfl (os rfl (os rfl (os rfl oz)))))), lg (os rfl (os rfl (os rfl (os rfl (os rfl (os rfl (os rfl oz))))))), trivial⟩ ?_
        refine aw_seq ?_
        refine aw_region (by decide) ?_
        refine rts _ rfl (opD_move (os rfl (os rfl (os rfl (os rfl (os rfl oz)))))) ?_
        refine rts _ rfl (opD_callN ht22 (fun s => rd_new (by omega) s) ⟨le_sl lz, trivial⟩ (by first | exact List.length_nil | (simp only [List.length_cons, List.length_nil, Nat.zero_add, Nat.reduceAdd]; rfl)) (by simp only [List.nil_append, List.cons_append, List.map_cons, List.map_nil, List.set_cons_zero, List.set_cons_succ, List.take_succ_cons, List.take_zero, List.drop_succ_cons, List.drop_zero]; rfl)) ?_
        refine rts _ rfl (opD_move (ls rfl (ls rfl (os rfl (os rfl (os rfl (os rfl (os rfl oz)))))))) ?_
        refine rts _ rfl (opD_build_struct (rs := [_, _]) Go.Proofs.Tryd.underlying41 pt41 zt41 (parts_cons (cells1 lz (by first | exact one_pl rfl | exact one_sl _ _ _ _ | exact one_ptr _ _ | exact one_ifc _ _)) parts_nil) rfl) ?_
        refine rts _ rfl (opD_allocX zt41 (by first | exact List.length_nil | (simp only [List.length_cons, List.length_nil, Nat.zero_add, Nat.reduceAdd]; rfl)) (by simp only [List.nil_append, List.cons_append, List.map_cons, List.map_nil, List.set_cons_zero, List.set_cons_succ, List.take_succ_cons, List.take_zero, List.drop_succ_cons, List.drop_zero]; rfl)) ?_
        refine rts _ rfl (opD_assign (ls rfl (ls rfl (ls rfl lz)))) ?_
        refine rts _ rfl (opD_storeA sz41 (ls rfl lz) (ls rfl (ls rfl lz)) (by repeat (first | exact ones_nil | refine ones_cons (by first | exact one_pl rfl | exact one_sl _ _ _ _ | exact one_ptr _ _) ?_)) rfl rfl (Nat.le_of_ble_eq_true rfl) (by repeat (first | exact bnd_nil | refine bnd_cons (by first | exact pl_bnd _ _ _ | exact sl_bnd (kI_bnd _ _ _ _) | exact sl_bnd (kP2_bnd _ _ _ _) | exact ptr_bnd _ (by omega) | exact any_bnd _ _) ?_)) (by simp only [List.nil_append, List.cons_append, List.map_cons, List.map_nil, List.set_cons_zero, List.set_cons_succ, List.take_succ_cons, List.take_zero, List.drop_succ_cons, List.drop_zero]; rfl) (by simp only [List.nil_append, List.cons_append, List.map_cons, List.map_nil, List.set_cons_zero, List.set_cons_succ, List.take_succ_cons, List.take_zero, List.drop_succ_cons, List.drop_zero]; rfl)) ?_
        refine .nil ?_
        refine aw_keep [(8, _), (9, _), (89, _), (56, _), (7, _), (30, _), (6, _), (0, _), (1, _), (2, _)] ⟨lg (lx lz), lg (lx (ls rfl lz)), lg (lx (ls rfl (ls rfl (ls rfl (ls rfl (ls rfl (ls rfl oz))))))), lg (lx (ls rfl (ls rfl (ls rfl (ls rfl (ls rfl (ls rfl (os rfl oz)))))))), lg (lx (ls rfl (ls rfl (ls rfl (ls rfl (ls rfl (ls rfl (os rfl (os rfl oz))))))))), lg (lx (ls rfl (ls rfl (ls rfl (ls rfl (ls rfl (ls rfl (os rfl (os rfl (os rfl oz)))))))))), lg (lx (ls rfl (ls rfl (ls rfl (ls rfl (ls rfl (ls rfl (os rfl (os rfl (os rfl (os rfl oz))))))))))), lg (lx (ls rfl (ls rfl (ls rfl (ls rfl (ls rfl (ls rfl (os rfl (os rfl (os rfl (os rfl (os rfl oz)))))))))))), lg (lx (ls rfl (ls rfl (ls rfl (ls rfl (ls rfl (ls rfl (os rfl (os rfl (os rfl (os rfl (os rfl (os rfl oz))))))))))))), lg (lx (ls rfl (ls rfl (ls rfl (ls rfl (ls rfl (ls rfl (os rfl (os rfl (os rfl (os rfl (os rfl (os rfl (os rfl oz)))))))))))))), trivial⟩ ?_
        refine aw_seq ?_
        refine aw_seq ?_
        refine aw_region (by decide) ?_
        refine rts _ rfl (opD_assign (ev_const _ _)) ?_
        refine .nil ?_
        refine aw_keep [(10, _), (8, _), (9, _), (89, _), (56, _), (7, _), (30, _), (6, _), (0, _), (1, _), (2, _)] ⟨lg lz, lg (ls rfl oz), lg (ls rfl (os rfl oz)), lg (ls rfl (os rfl (os rfl oz))), lg (ls rfl (os rfl (os rfl (os rfl oz)))), lg (ls rfl (os rfl (os rfl (os rfl (os rfl oz))))), lg (ls rfl (os rfl (os rfl (os rfl (os rfl (os rfl oz)))))), lg (ls rfl (os rfl (os rfl (os rfl (os rfl (os rfl (os rfl oz))))))), lg (ls rfl (os rfl (os rfl (os rfl (os rfl (os rfl (os rfl (os rfl oz)))))))), lg (ls rfl (os rfl (os rfl (os rfl (os rfl (os rfl (os rfl (os rfl (os rfl oz))))))))), lg (ls rfl (os rfl (os rfl (os rfl (os rfl (os rfl (os rfl (os rfl (os rfl (os rfl oz)))))))))), trivial⟩ ?_
        refine aw_block ?_
        refine aw_loop (fun n e st => ∃ (i : Nat) (l2 : List Int) (b2 : Bool), Holds e [(1, sl (kP2 .i16) none none ks), (8, ptr (s.boxes.length + 0) 0), (9, ptr (s.boxes.length + 1) 0), (10, pl (.int .i64 (i : Int)))] ∧ st = s.ext [RdB l2 b2, ⟨41, [sl (kI .u8) none none l2, pl (.bool b2)]⟩] [] ∧ n + i = ks.length ∧ Inv l2 b2) (ks.length) (⟨0, l, false, ⟨le_of_eq (eg (os rfl (os rfl (os rfl (os rfl (os rfl (os rfl (os rfl (os rfl (os rfl oz)))))))))), le_of_eq (eg (os rfl oz)), le_of_eq (eg (os rfl (os rfl oz))), le_of_eq (eg oz), trivial⟩, rfl, by omega, ⟨by simp, hb, by omega⟩⟩) ?_
        rintro n e st ⟨i, l2, b2, hH, rfl, hn, hI⟩
        refine aw_keep _ hH ?_
        refine aw_cut (s.boxes.length + 2) (s.fr.length + 0) (by rw [ext_boxes_length]; exact Nat.le_refl _) (by rw [ext_fr_length]; exact Nat.le_refl _) ?_
        refine aw_seq ?_
        refine aw_seq ?_
        refine aw_region (by decide) ?_
        refine rts _ rfl (opD_move (os rfl (os rfl (os rfl oz)))) ?_
        refine rts _ rfl (opD_move (ls rfl oz)) ?_
        refine rts _ rfl (opD_len_sl Go.Proofs.Tryd.underlying38 lz) ?_
        refine rts _ rfl (opD_lss (ls rfl (ls rfl lz)) lz) ?_
        refine .nil ?_
        refine aw_keep [(97, _), (1, _), (8, _), (9, _), (10, _)] ⟨lg lz, lg (ls rfl (ls rfl (ls rfl (ls rfl oz)))), lg (ls rfl (ls rfl (ls rfl (ls rfl (os rfl oz))))), lg (ls rfl (ls rfl (ls rfl (ls rfl (os rfl (os rfl oz)))))), lg (ls rfl (ls rfl (ls rfl (ls rfl (os rfl (os rfl (os rfl oz))))))), trivial⟩ ?_
        refine aw_cond _ oz (fun hc => ?_) (fun hc => ?_)
        · skip
          have hlt : i < ks.length := by have := of_decide_eq_true hc; omega
          obtain ⟨kk, hki, hmem⟩ := at_lt' hlt
          obtain ⟨⟨hk1, hk2⟩, hk3, hk4⟩ := hk _ hmem
          refine aw_skip ?_
          refine aw_keep [(97, _), (1, _), (8, _), (9, _), (10, _)] ⟨lg oz, lg (os rfl oz), lg (os rfl (os rfl oz)), lg (os rfl (os rfl (os rfl oz))), lg (os rfl (os rfl (os rfl (os rfl oz)))), trivial⟩ ?_
          refine aw_seq ?_
          refine aw_block ?_
          refine aw_seq ?_
          refine aw_region (by decide) ?_
          refine rts _ rfl (opD_assign (ev_const _ _)) ?_
          refine rts _ rfl (opD_assign (ev_const _ _)) ?_
          refine .nil ?_
          refine aw_keep [(12, _), (11, _), (97, _), (1, _), (8, _), (9, _), (10, _)] ⟨lg lz, lg (ls rfl lz), lg (ls rfl (ls rfl oz)), lg (ls rfl (ls rfl (os rfl oz))), lg (ls rfl (ls rfl (os rfl (os rfl oz)))), lg (ls rfl (ls rfl (os rfl (os rfl (os rfl oz))))), lg (ls rfl (ls rfl (os rfl (os rfl (os rfl (os rfl oz)))))), trivial⟩ ?_
          refine aw_seq ?_
          refine aw_region (by decide) ?_
          refine rts _ rfl (opD_toNil (kI .u8) (opD_assign (ev_const _ _))) ?_
          refine rts _ rfl (opD_toNil (kI .u8) (opD_assign (ev_const _ _))) ?_
          refine .nil ?_
          refine aw_keep [(14, _), (13, _), (12, _), (11, _), (97, _), (1, _), (8, _), (9, _), (10, _)] ⟨lg lz, lg (ls rfl lz), lg (ls rfl (ls rfl oz)), lg (ls rfl (ls rfl (os rfl oz))), lg (ls rfl (ls rfl (os rfl (os rfl oz)))), lg (ls rfl (ls rfl (os rfl (os rfl (os rfl oz))))), lg (ls rfl (ls rfl (os rfl (os rfl (os rfl (os rfl oz)))))), lg (ls rfl (ls rfl (os rfl (os rfl (os rfl (os rfl (os rfl oz))))))), lg (ls rfl (ls rfl (os rfl (os rfl (os rfl (os rfl (os rfl (os rfl oz)))))))), trivial⟩ ?_
          refine aw_seq_cut (fun e st => ∃ (l3 : List Int) (b3 : Bool) (v : Int) (t : List Int), Holds e [(1, sl (kP2 .i16) none none ks), (8, ptr (s.boxes.length + 0) 0), (9, ptr (s.boxes.length + 1) 0), (10, pl (.int .i64 (i : Int))), (11, pl (.int .u64 v)), (12, pl (.int .u64 v)), (13, sl (kI .u8) none none t), (14, sl (kI .u8) none none t)] ∧ st = s.ext [RdB l3 b3, ⟨41, [sl (kI .u8) none none l3, pl (.bool b3)]⟩] [] ∧ JI l3 b3 v t) ?_ ?_
          · skip
            refine aw_cut (s.boxes.length + 2) (s.fr.length + 0) (by rw [ext_boxes_length]; exact Nat.le_refl _) (by rw [ext_fr_length]; exact Nat.le_refl _) ?_
            refine aw_seq ?_
            refine aw_region (by decide) ?_
            refine rts _ rfl (opD_move (os rfl (os rfl (os rfl (os rfl (os rfl oz)))))) ?_
            refine rts _ rfl (opD_move (ls rfl (os rfl (os rfl (os rfl (os rfl (os rfl (os rfl (os rfl (os rfl oz)))))))))) ?_
            refine rts _ rfl (opD_indexAddr_sl Go.Proofs.Tryd.underlying38 sz43 (ls rfl lz) lz (by first | rfl | simp | omega) (by first | assumption | omega)) ?_
            refine rts _ rfl ((by first | exact opD_indexAddr_arr Go.Proofs.Tryd.underlying43 sz42 lz (ev_const _ _) (show (0 : Int) = ((0 : Nat) : Int) from rfl) (by first | assumption | omega) | exact opD_indexAddr_el Go.Proofs.Tryd.underlying43 sz42 lz (ev_const _ _) (show (0 : Int) = ((0 : Nat) : Int) from rfl) (by first | assumption | omega))) ?_
            refine rts _ rfl ((by first | exact opD_load_one ag42 lz (by first | exact loc_get rfl | exact old_get (by assumption)) rfl | exact opD_load_el_one ag42 lz (by first | assumption | simp) rfl)) ?_
            refine rts _ rfl (opD_rem lz (ev_const _ _) (by first | decide | omega) (by first | exact IntWalk.rem_in _ _ (by omega) | exact rfl)) ?_
            refine .nil ?_
            refine aw_keep [(105, _), (14, _), (13, _), (12, _), (11, _), (97, _), (1, _), (8, _), (9, _), (10, _)] ⟨lg lz, lg (ls rfl (ls rfl (ls rfl (ls rfl (ls rfl (ls rfl oz)))))), lg (ls rfl (ls rfl (ls rfl (ls rfl (ls rfl (ls rfl (os rfl oz))))))), lg (ls rfl (ls rfl (ls rfl (ls rfl (ls rfl (ls rfl (os rfl (os rfl oz)))))))), lg (ls rfl (ls rfl (ls rfl (ls rfl (ls rfl (ls rfl (os rfl (os rfl (os rfl oz))))))))), lg (ls rfl (ls rfl (ls rfl (ls rfl (ls rfl (ls rfl (os rfl (os rfl (os rfl (os rfl oz)))))))))), lg (ls rfl (ls rfl (ls rfl (ls rfl (ls rfl (ls rfl (os rfl (os rfl (os rfl (os rfl (os rfl oz))))))))))), lg (ls rfl (ls rfl (ls rfl (ls rfl (ls rfl (ls rfl (os rfl (os rfl (os rfl (os rfl (os rfl (os rfl oz)))))))))))), lg (ls rfl (ls rfl (ls rfl (ls rfl (ls rfl (ls rfl (os rfl (os rfl (os rfl (os rfl (os rfl (os rfl (os rfl oz))))))))))))), lg (ls rfl (ls rfl (ls rfl (ls rfl (ls rfl (ls rfl (os rfl (os rfl (os rfl (os rfl (os rfl (os rfl (os rfl (os rfl oz)))))))))))))), trivial⟩ ?_
            refine aw_block ?_
            refine aw_seq ?_
            refine aw_region (by decide) ?_
            refine rts _ rfl (opD_eql oz (ev_const _ _)) ?_
            refine rts _ rfl (opD_assign lz) ?_
            refine .nil ?_
            refine aw_keep [(125, _), (105, _), (14, _), (13, _), (12, _), (11, _), (97, _), (1, _), (8, _), (9, _), (10, _)] ⟨lg lz, lg (ls rfl (ls rfl oz)), lg (ls rfl (ls rfl (os rfl oz))), lg (ls rfl (ls rfl (os rfl (os rfl oz)))), lg (ls rfl (ls rfl (os rfl (os rfl (os rfl oz))))), lg (ls rfl (ls rfl (os rfl (os rfl (os rfl (os rfl oz)))))), lg (ls rfl (ls rfl (os rfl (os rfl (os rfl (os rfl (os rfl oz))))))), lg (ls rfl (ls rfl (os rfl (os rfl (os rfl (os rfl (os rfl (os rfl oz)))))))), lg (ls rfl (ls rfl (os rfl (os rfl (os rfl (os rfl (os rfl (os rfl (os rfl oz))))))))), lg (ls rfl (ls rfl (os rfl (os rfl (os rfl (os rfl (os rfl (os rfl (os rfl (os rfl oz)))))))))), lg (ls rfl (ls rfl (os rfl (os rfl (os rfl (os rfl (os rfl (os rfl (os rfl (os rfl (os rfl oz))))))))))), trivial⟩ ?_
            refine aw_cond _ oz (fun hc => ?_) (fun hc => ?_)
            · skip
              refine aw_seq ?_
              have hrng := byte_rng hI
              refine aw_region (by decide) ?_
              refine rts _ rfl (opD_move (os rfl (os rfl (os rfl (os rfl (os rfl (os rfl (os rfl (os rfl oz))))))))) ?_
              refine rts _ rfl (opD_callL ht25 (fun s g h => pt_byte hI h) rfl ⟨le_of_eq lz, trivial⟩ (by simp only [List.nil_append, List.cons_append, List.map_cons, List.map_nil, List.set_cons_zero, List.set_cons_succ, List.take_succ_cons, List.take_zero, List.drop_succ_cons, List.drop_zero]; rfl)) ?_
              refine rts _ rfl (opD_conv_int Go.Proofs.Tryd.underlying5 Go.Proofs.Tryd.underlying22 lz (by first | exact IntWalk.u64_in _ (by omega) | exact rfl)) ?_
              refine rts _ rfl (opD_assign lz) ?_
              refine .nil ?_
              refine aw_keep [(11, _), (125, _), (105, _), (14, _), (13, _), (12, _), (97, _), (1, _), (8, _), (9, _), (10, _)] ⟨lg lz, lg (ls rfl (ls rfl (ls rfl (ls rfl oz)))), lg (ls rfl (ls rfl (ls rfl (ls rfl (os rfl oz))))), lg (ls rfl (ls rfl (ls rfl (ls rfl (os rfl (os rfl oz)))))), lg (ls rfl (ls rfl (ls rfl (ls rfl (os rfl (os rfl (os rfl oz))))))), lg (ls rfl (ls rfl (ls rfl (ls rfl (os rfl (os rfl (os rfl (os rfl oz)))))))), lg (ls rfl (ls rfl (ls rfl (ls rfl (os rfl (os rfl (os rfl (os rfl (os rfl (os rfl oz)))))))))), lg (ls rfl (ls rfl (ls rfl (ls rfl (os rfl (os rfl (os rfl (os rfl (os rfl (os rfl (os rfl oz))))))))))), lg (ls rfl (ls rfl (ls rfl (ls rfl (os rfl (os rfl (os rfl (os rfl (os rfl (os rfl (os rfl (os rfl oz)))))))))))), lg (ls rfl (ls rfl (ls rfl (ls rfl (os rfl (os rfl (os rfl (os rfl (os rfl (os rfl (os rfl (os rfl (os rfl oz))))))))))))), lg (ls rfl (ls rfl (ls rfl (ls rfl (os rfl (os rfl (os rfl (os rfl (os rfl (os rfl (os rfl (os rfl (os rfl (os rfl oz)))))))))))))), trivial⟩ ?_
              refine aw_seq ?_
              refine aw_region (by decide) ?_
              refine rts _ rfl ((by first | exact opD_load_agg ag41 sz41 (os rfl (os rfl (os rfl (os rfl (os rfl (os rfl (os rfl (os rfl (os rfl oz))))))))) (by first | exact loc_get rfl | exact old_get (by assumption)) (by simp) | exact opD_load_el_agg ag41 sz41 (os rfl (os rfl (os rfl (os rfl (os rfl (os rfl (os rfl (os rfl (os rfl oz))))))))) (by first | assumption | simp) (by decide))) ?_
              refine rts _ rfl (opD_pure ht31 (ref_byte) ⟨le_of_eq lz, trivial⟩) ?_
              refine rts _ rfl (opD_move lz) ?_
              refine rts _ rfl (opD_extract lz rfl) ?_
              refine rts _ rfl (opD_extract (ls rfl lz) rfl) ?_
              refine rts _ rfl (opD_allocX zt41 (by first | exact List.length_nil | (simp only [List.length_cons, List.length_nil, Nat.zero_add, Nat.reduceAdd]; rfl)) (by simp only [List.nil_append, List.cons_append, List.map_cons, List.map_nil, List.set_cons_zero, List.set_cons_succ, List.take_succ_cons, List.take_zero, List.drop_succ_cons, List.drop_zero]; rfl)) ?_
              refine rts _ rfl (opD_storeA sz41 lz (ls rfl (ls rfl lz)) (by repeat (first | exact ones_nil | refine ones_cons (by first | exact one_pl rfl | exact one_sl _ _ _ _ | exact one_ptr _ _) ?_)) rfl rfl (Nat.le_of_ble_eq_true rfl) (by repeat (first | exact bnd_nil | refine bnd_cons (by first | exact pl_bnd _ _ _ | exact sl_bnd (kI_bnd _ _ _ _) | exact sl_bnd (kP2_bnd _ _ _ _) | exact ptr_bnd _ (by omega) | exact any_bnd _ _) ?_)) (by simp only [List.nil_append, List.cons_append, List.map_cons, List.map_nil, List.set_cons_zero, List.set_cons_succ, List.take_succ_cons, List.take_zero, List.drop_succ_cons, List.drop_zero]; rfl) (by simp only [List.nil_append, List.cons_append, List.map_cons, List.map_nil, List.set_cons_zero, List.set_cons_succ, List.take_succ_cons, List.take_zero, List.drop_succ_cons, List.drop_zero]; rfl)) ?_
              refine rts _ rfl (opD_assign (lx (ls rfl lz))) ?_
              refine .nil ?_
              refine aw_keep [(16, _), (15, _), (11, _), (125, _), (105, _), (14, _), (13, _), (12, _), (97, _), (1, _), (8, _), (9, _), (10, _)] ⟨lg lz, lg (ls rfl (lx lz)), lg (ls rfl (lx (ls rfl (ls rfl (ls rfl (ls rfl (ls rfl (ls rfl oz)))))))), lg (ls rfl (lx (ls rfl (ls rfl (ls rfl (ls rfl (ls rfl (ls rfl (os rfl oz))))))))), lg (ls rfl (lx (ls rfl (ls rfl (ls rfl (ls rfl (ls rfl (ls rfl (os rfl (os rfl oz)))))))))), lg (ls rfl (lx (ls rfl (ls rfl (ls rfl (ls rfl (ls rfl (ls rfl (os rfl (os rfl (os rfl oz))))))))))), lg (ls rfl (lx (ls rfl (ls rfl (ls rfl (ls rfl (ls rfl (ls rfl (os rfl (os rfl (os rfl (os rfl oz)))))))))))), lg (ls rfl (lx (ls rfl (ls rfl (ls rfl (ls rfl (ls rfl (ls rfl (os rfl (os rfl (os rfl (os rfl (os rfl oz))))))))))))), lg (ls rfl (lx (ls rfl (ls rfl (ls rfl (ls rfl (ls rfl (ls rfl (os rfl (os rfl (os rfl (os rfl (os rfl (os rfl oz)))))))))))))), lg (ls rfl (lx (ls rfl (ls rfl (ls rfl (ls rfl (ls rfl (ls rfl (os rfl (os rfl (os rfl (os rfl (os rfl (os rfl (os rfl oz))))))))))))))), lg (ls rfl (lx (ls rfl (ls rfl (ls rfl (ls rfl (ls rfl (ls rfl (os rfl (os rfl (os rfl (os rfl (os rfl (os rfl (os rfl (os rfl oz)))))))))))))))), lg (ls rfl (lx (ls rfl (ls rfl (ls rfl (ls rfl (ls rfl (ls rfl (os rfl (os rfl (os rfl (os rfl (os rfl (os rfl (os rfl (os rfl (os rfl oz))))))))))))))))), lg (ls rfl (lx (ls rfl (ls rfl (ls rfl (ls rfl (ls rfl (ls rfl (os rfl (os rfl (os rfl (os rfl (os rfl (os rfl (os rfl (os rfl (os rfl (os rfl oz)))))))))))))))))), trivial⟩ ?_
              refine aw_region (by decide) ?_
              refine rts _ rfl ((by first | exact opD_load_agg ag41 sz41 (os rfl oz) (by first | exact loc_get rfl | exact old_get (by assumption)) (by simp) | exact opD_load_el_agg ag41 sz41 (os rfl oz) (by first | assumption | simp) (by decide))) ?_
              refine rts _ rfl (opD_move (ls rfl oz)) ?_
              refine rts _ rfl (opD_conv_int Go.Proofs.Tryd.underlying5 Go.Proofs.Tryd.underlying22 lz (by first | exact IntWalk.u64_in _ (by omega) | exact rfl)) ?_
              refine rts _ rfl (opD_storeA sz41 (ls rfl (ls rfl (ls rfl (os rfl (os rfl (os rfl (os rfl (os rfl (os rfl (os rfl (os rfl (os rfl (os rfl (os rfl oz)))))))))))))) (ls rfl (ls rfl lz)) (by repeat (first | exact ones_nil | refine ones_cons (by first | exact one_pl rfl | exact one_sl _ _ _ _ | exact one_ptr _ _) ?_)) rfl rfl (Nat.le_of_ble_eq_true rfl) (by repeat (first | exact bnd_nil | refine bnd_cons (by first | exact pl_bnd _ _ _ | exact sl_bnd (kI_bnd _ _ _ _) | exact sl_bnd (kP2_bnd _ _ _ _) | exact ptr_bnd _ (by omega) | exact any_bnd _ _) ?_)) (by simp only [List.nil_append, List.cons_append, List.map_cons, List.map_nil, List.set_cons_zero, List.set_cons_succ, List.take_succ_cons, List.take_zero, List.drop_succ_cons, List.drop_zero]; rfl) (by simp only [List.nil_append, List.cons_append, List.map_cons, List.map_nil, List.set_cons_zero, List.set_cons_succ, List.take_succ_cons, List.take_zero, List.drop_succ_cons, List.drop_zero]; rfl)) ?_
              refine rts _ rfl (opD_assign (lx lz)) ?_
              refine .nil ?_
              refine cut_yes (l := [(1, _), (8, _), (9, _), (10, _), (11, _), (12, _), (13, _), (14, _)]) ⟨lg (ls rfl (lx (ls rfl (ls rfl (ls rfl (os rfl (os rfl (os rfl (os rfl (os rfl (os rfl (os rfl (os rfl (os rfl oz)))))))))))))), lg (ls rfl (lx (ls rfl (ls rfl (ls rfl (os rfl (os rfl (os rfl (os rfl (os rfl (os rfl (os rfl (os rfl (os rfl (os rfl oz))))))))))))))), lg (ls rfl (lx (ls rfl (ls rfl (ls rfl (os rfl (os rfl (os rfl (os rfl (os rfl (os rfl (os rfl (os rfl (os rfl (os rfl (os rfl oz)))))))))))))))), lg (ls rfl (lx (ls rfl (ls rfl (ls rfl (os rfl (os rfl (os rfl (os rfl (os rfl (os rfl (os rfl (os rfl (os rfl (os rfl (os rfl (os rfl oz))))))))))))))))), lg (ls rfl (lx (ls rfl (ls rfl (ls rfl (os rfl (os rfl oz))))))), lg lz, lg (ls rfl (lx (ls rfl (ls rfl (ls rfl (os rfl (os rfl (os rfl (os rfl (os rfl (os rfl oz))))))))))), lg (ls rfl (lx (ls rfl (ls rfl (ls rfl (os rfl (os rfl (os rfl (os rfl (os rfl oz)))))))))), trivial⟩ (by repeat (first | exact bnd_nil | refine bnd_cons (by first | exact pl_bnd _ _ _ | exact sl_bnd (kI_bnd _ _ _ _) | exact sl_bnd (kP2_bnd _ _ _ _) | exact ptr_bnd _ (by omega) | exact any_bnd _ _) ?_)) (Nat.le_of_ble_eq_true rfl) (Nat.le_of_ble_eq_true rfl) (by simp only [List.nil_append, List.cons_append, List.map_cons, List.map_nil, List.set_cons_zero, List.set_cons_succ, List.take_succ_cons, List.take_zero, List.drop_succ_cons, List.drop_zero]; rfl) (by simp only [List.nil_append, List.cons_append, List.map_cons, List.map_nil, List.set_cons_zero, List.set_cons_succ, List.take_succ_cons, List.take_zero, List.drop_succ_cons, List.drop_zero]; rfl) (by repeat (first | exact bl_nil | refine bl_cons (by repeat (first | exact bnd_nil | refine bnd_cons (by first | exact pl_bnd _ _ _ | exact sl_bnd (kI_bnd _ _ _ _) | exact sl_bnd (kP2_bnd _ _ _ _) | exact ptr_bnd _ (by omega) | exact any_bnd _ _) ?_)) ?_)) ?_
              first | exact ⟨_, _, _, _, ⟨le_of_eq (eg oz), le_of_eq (eg (os rfl oz)), le_of_eq (eg (os rfl (os rfl oz))), le_of_eq (eg (os rfl (os rfl (os rfl oz)))), le_of_eq (eg (os rfl (os rfl (os rfl (os rfl oz))))), le_of_eq (eg (os rfl (os rfl (os rfl (os rfl (os rfl oz)))))), by first | exact le_of_eq (eg (os rfl (os rfl (os rfl (os rfl (os rfl (os rfl oz))))))) | exact le_sl (eg (os rfl (os rfl (os rfl (os rfl (os rfl (os rfl oz))))))), by first | exact le_of_eq (eg (os rfl (os rfl (os rfl (os rfl (os rfl (os rfl (os rfl oz)))))))) | exact le_sl (eg (os rfl (os rfl (os rfl (os rfl (os rfl (os rfl (os rfl oz)))))))), trivial⟩, rfl, ji_byte hI⟩ | exact ⟨_, _, _, _, ⟨le_of_eq (eg oz), le_of_eq (eg (os rfl oz)), le_of_eq (eg (os rfl (os rfl oz))), le_of_eq (eg (os rfl (os rfl (os rfl oz)))), le_of_eq (eg (os rfl (os rfl (os rfl (os rfl oz))))), le_of_eq (eg (os rfl (os rfl (os rfl (os rfl (os rfl oz)))))), by first | exact le_of_eq (eg (os rfl (os rfl (os rfl (os rfl (os rfl (os rfl oz))))))) | exact le_sl (eg (os rfl (os rfl (os rfl (os rfl (os rfl (os rfl oz))))))), by first | exact le_of_eq (eg (os rfl (os rfl (os rfl (os rfl (os rfl (os rfl (os rfl oz)))))))) | exact le_sl (eg (os rfl (os rfl (os rfl (os rfl (os rfl (os rfl (os rfl oz)))))))), trivial⟩, rfl, ji_num hI⟩ | exact ⟨_, _, _, _, ⟨le_of_eq (eg oz), le_of_eq (eg (os rfl oz)), le_of_eq (eg (os rfl (os rfl oz))), le_of_eq (eg (os rfl (os rfl (os rfl oz)))), le_of_eq (eg (os rfl (os rfl (os rfl (os rfl oz))))), le_of_eq (eg (os rfl (os rfl (os rfl (os rfl (os rfl oz)))))), by first | exact le_of_eq (eg (os rfl (os rfl (os rfl (os rfl (os rfl (os rfl oz))))))) | exact le_sl (eg (os rfl (os rfl (os rfl (os rfl (os rfl (os rfl oz))))))), by first | exact le_of_eq (eg (os rfl (os rfl (os rfl (os rfl (os rfl (os rfl (os rfl oz)))))))) | exact le_sl (eg (os rfl (os rfl (os rfl (os rfl (os rfl (os rfl (os rfl oz)))))))), trivial⟩, rfl, ji_bytes hI⟩
            · skip
              refine aw_seq ?_
              refine aw_region (by decide) ?_
              refine rts _ rfl (opD_eql (os rfl oz) (ev_const _ _)) ?_
              refine rts _ rfl (opD_assign lz) ?_
              refine .nil ?_
              refine aw_keep [(138, _), (125, _), (105, _), (14, _), (13, _), (12, _), (11, _), (97, _), (1, _), (8, _), (9, _), (10, _)] ⟨lg lz, lg (ls rfl (ls rfl oz)), lg (ls rfl (ls rfl (os rfl oz))), lg (ls rfl (ls rfl (os rfl (os rfl oz)))), lg (ls rfl (ls rfl (os rfl (os rfl (os rfl oz))))), lg (ls rfl (ls rfl (os rfl (os rfl (os rfl (os rfl oz)))))), lg (ls rfl (ls rfl (os rfl (os rfl (os rfl (os rfl (os rfl oz))))))), lg (ls rfl (ls rfl (os rfl (os rfl (os rfl (os rfl (os rfl (os rfl oz)))))))), lg (ls rfl (ls rfl (os rfl (os rfl (os rfl (os rfl (os rfl (os rfl (os rfl oz))))))))), lg (ls rfl (ls rfl (os rfl (os rfl (os rfl (os rfl (os rfl (os rfl (os rfl (os rfl oz)))))))))), lg (ls rfl (ls rfl (os rfl (os rfl (os rfl (os rfl (os rfl (os rfl (os rfl (os rfl (os rfl oz))))))))))), lg (ls rfl (ls rfl (os rfl (os rfl (os rfl (os rfl (os rfl (os rfl (os rfl (os rfl (os rfl (os rfl oz)))))))))))), trivial⟩ ?_
              refine aw_cond _ oz (fun hc => ?_) (fun hc => ?_)
              · skip
                refine aw_seq ?_
                refine aw_region (by decide) ?_
                refine rts _ rfl (opD_move (os rfl (os rfl (os rfl (os rfl (os rfl (os rfl (os rfl (os rfl (os rfl oz)))))))))) ?_
                refine rts _ rfl (opD_move (ls rfl (os rfl (os rfl (os rfl (os rfl (os rfl (os rfl (os rfl (os rfl oz)))))))))) ?_
                refine rts _ rfl (opD_move (ls rfl (ls rfl (os rfl (os rfl (os rfl (os rfl (os rfl (os rfl (os rfl (os rfl (os rfl (os rfl (os rfl oz)))))))))))))) ?_
                refine rts _ rfl (opD_indexAddr_sl Go.Proofs.Tryd.underlying38 sz43 (ls rfl lz) lz (by first | rfl | simp | omega) (by first | assumption | omega)) ?_
                refine rts _ rfl ((by first | exact opD_indexAddr_arr Go.Proofs.Tryd.underlying43 sz42 lz (ev_const _ _) (show (1 : Int) = ((1 : Nat) : Int) from rfl) (by first | assumption | omega) | exact opD_indexAddr_el Go.Proofs.Tryd.underlying43 sz42 lz (ev_const _ _) (show (1 : Int) = ((1 : Nat) : Int) from rfl) (by first | assumption | omega))) ?_
                refine rts _ rfl ((by first | exact opD_load_one ag42 lz (by first | exact loc_get rfl | exact old_get (by assumption)) rfl | exact opD_load_el_one ag42 lz (by first | assumption | simp) rfl)) ?_
                refine rts _ rfl (opD_conv_int (r := (((IntKind.u64.wrap kk.2).toNat : Nat) : Int)) Go.Proofs.Tryd.underlying42 Go.Proofs.Tryd.underlying22 lz (u64_mod _).1) ?_
                refine rts _ rfl (opD_callL ht23 (fun s g h => pt_num (most := (IntKind.u64.wrap kk.2).toNat) hI (u64_mod _).2 h) rfl ⟨le_of_eq (ls rfl (ls rfl (ls rfl (ls rfl (ls rfl (ls rfl lz)))))), le_of_eq lz, trivial⟩ (by simp only [List.nil_append, List.cons_append, List.map_cons, List.map_nil, List.set_cons_zero, List.set_cons_succ, List.take_succ_cons, List.take_zero, List.drop_succ_cons, List.drop_zero]; rfl)) ?_
                refine rts _ rfl (opD_assign lz) ?_
                refine .nil ?_
                refine aw_keep [(11, _), (138, _), (125, _), (105, _), (14, _), (13, _), (12, _), (97, _), (1, _), (8, _), (9, _), (10, _)] ⟨lg lz, lg (ls rfl (ls rfl (ls rfl (ls rfl (ls rfl (ls rfl (ls rfl (ls rfl (ls rfl oz))))))))), lg (ls rfl (ls rfl (ls rfl (ls rfl (ls rfl (ls rfl (ls rfl (ls rfl (ls rfl (os rfl oz)))))))))), lg (ls rfl (ls rfl (ls rfl (ls rfl (ls rfl (ls rfl (ls rfl (ls rfl (ls rfl (os rfl (os rfl oz))))))))))), lg (ls rfl (ls rfl (ls rfl (ls rfl (ls rfl (ls rfl (ls rfl (ls rfl (ls rfl (os rfl (os rfl (os rfl oz)))))))))))), lg (ls rfl (ls rfl (ls rfl (ls rfl (ls rfl (ls rfl (ls rfl (ls rfl (ls rfl (os rfl (os rfl (os rfl (os rfl oz))))))))))))), lg (ls rfl (ls rfl (ls rfl (ls rfl (ls rfl (ls rfl (ls rfl (ls rfl (ls rfl (os rfl (os rfl (os rfl (os rfl (os rfl oz)))))))))))))), lg (ls rfl (ls rfl (ls rfl (ls rfl (ls rfl (ls rfl (ls rfl (ls rfl (ls rfl (os rfl (os rfl (os rfl (os rfl (os rfl (os rfl (os rfl oz)))))))))))))))), lg (ls rfl (ls rfl (ls rfl (ls rfl (ls rfl (ls rfl (ls rfl (ls rfl (ls rfl (os rfl (os rfl (os rfl (os rfl (os rfl (os rfl (os rfl (os rfl oz))))))))))))))))), lg (ls rfl (ls rfl (ls rfl (ls rfl (ls rfl (ls rfl (ls rfl (ls rfl (ls rfl (os rfl (os rfl (os rfl (os rfl (os rfl (os rfl (os rfl (os rfl (os rfl oz)))))))))))))))))), lg (ls rfl (ls rfl (ls rfl (ls rfl (ls rfl (ls rfl (ls rfl (ls rfl (ls rfl (os rfl (os rfl (os rfl (os rfl (os rfl (os rfl (os rfl (os rfl (os rfl (os rfl oz))))))))))))))))))), lg (ls rfl (ls rfl (ls rfl (ls rfl (ls rfl (ls rfl (ls rfl (ls rfl (ls rfl (os rfl (os rfl (os rfl (os rfl (os rfl (os rfl (os rfl (os rfl (os rfl (os rfl (os rfl oz)))))))))))))))))))), trivial⟩ ?_
                refine aw_drawn [false, false, false, false, false, false, false, false, false, false, false, true, false] [[0], [0], [0], [0], [0], [0], [0], [0], [0], [0], [0, 1], [0, 1], [1]] mixed (by decide +kernel) ?_
                refine dtlA ag41 sz41 (os rfl (os rfl (os rfl (os rfl (os rfl (os rfl (os rfl (os rfl (os rfl (os rfl oz)))))))))) rfl (Nat.le_of_ble_eq_true rfl) rfl rfl ?_
                refine dtp _ rfl (fun s => opD_move (ls rfl (os rfl (os rfl (os rfl (os rfl (os rfl (os rfl (os rfl (os rfl oz)))))))))) ?_
                refine dtp _ rfl (fun s => opD_move (ls rfl (ls rfl (os rfl (os rfl (os rfl (os rfl (os rfl (os rfl (os rfl (os rfl (os rfl (os rfl (os rfl oz)))))))))))))) ?_
                refine dtp _ rfl (fun s => opD_indexAddr_sl Go.Proofs.Tryd.underlying38 sz43 (ls rfl lz) lz (by first | rfl | simp | omega) (by first | assumption | omega)) ?_
                refine dtp _ rfl (fun s => (by first | exact opD_indexAddr_arr Go.Proofs.Tryd.underlying43 sz42 lz (ev_const _ _) (show (1 : Int) = ((1 : Nat) : Int) from rfl) (by first | assumption | omega) | exact opD_indexAddr_el Go.Proofs.Tryd.underlying43 sz42 lz (ev_const _ _) (show (1 : Int) = ((1 : Nat) : Int) from rfl) (by first | assumption | omega))) ?_
                refine dtp _ rfl (fun s => (by first | exact opD_load_one ag42 lz (by assumption) rfl | exact opD_load_el_one ag42 lz (by first | assumption | simp) rfl)) ?_
                refine dtp _ rfl (fun s => opD_conv_int (r := (((IntKind.u64.wrap kk.2).toNat : Nat) : Int)) Go.Proofs.Tryd.underlying42 Go.Proofs.Tryd.underlying22 lz (u64_mod _).1) ?_
                refine dtp _ rfl (fun s => opD_pure ht32 (ref_num (most := (IntKind.u64.wrap kk.2).toNat) hI.2.1 (by have := hI.2.2; omega) (u64_mod _).2) ⟨le_of_eq (ls rfl (ls rfl (ls rfl (ls rfl (ls rfl (ls rfl lz)))))), le_of_eq lz, trivial⟩) ?_
                refine dtp _ rfl (fun s => opD_move lz) ?_
                refine dtp _ rfl (fun s => opD_extract lz rfl) ?_
                refine dtp _ rfl (fun s => opD_extract (ls rfl lz) rfl) ?_
                refine dta _ rfl (opD_storeA sz41 (ls rfl (ls rfl (ls rfl (ls rfl (ls rfl (ls rfl (ls rfl (ls rfl (ls rfl (ls rfl (ls rfl (os rfl (os rfl (os rfl (os rfl (os rfl (os rfl (os rfl (os rfl (os rfl (os rfl oz))))))))))))))))))))) (ls rfl lz) (by repeat (first | exact ones_nil | refine ones_cons (by first | exact one_pl rfl | exact one_sl _ _ _ _ | exact one_ptr _ _) ?_)) rfl rfl (Nat.le_of_ble_eq_true rfl) (by repeat (first | exact bnd_nil | refine bnd_cons (by first | exact pl_bnd _ _ _ | exact sl_bnd (kI_bnd _ _ _ _) | exact sl_bnd (kP2_bnd _ _ _ _) | exact ptr_bnd _ (by omega) | exact any_bnd _ _) ?_)) (by simp only [List.nil_append, List.cons_append, List.map_cons, List.map_nil, List.set_cons_zero, List.set_cons_succ, List.take_succ_cons, List.take_zero, List.drop_succ_cons, List.drop_zero]; rfl) (by simp only [List.nil_append, List.cons_append, List.map_cons, List.map_nil, List.set_cons_zero, List.set_cons_succ, List.take_succ_cons, List.take_zero, List.drop_succ_cons, List.drop_zero]; rfl)) ?_
                refine dtp _ rfl (fun s => opD_assign (lx lz)) ?_
                refine .nil ⟨rfl, ⟨⟨(by first | exact loc_get rfl | exact old_get (by assumption)), trivial⟩, trivial, trivial, trivial, trivial, trivial, trivial, trivial, trivial, trivial, trivial, trivial, trivial, trivial⟩, ?_⟩
                refine cut_yes (l := [(1, _), (8, _), (9, _), (10, _), (11, _), (12, _), (13, _), (14, _)]) ⟨lg (ls rfl (lx (ls rfl (ls rfl (ls rfl (ls rfl (ls rfl (ls rfl (ls rfl (ls rfl (ls rfl (ls rfl (ls rfl (os rfl (os rfl (os rfl (os rfl (os rfl (os rfl (os rfl (os rfl oz))))))))))))))))))))), lg (ls rfl (lx (ls rfl (ls rfl (ls rfl (ls rfl (ls rfl (ls rfl (ls rfl (ls rfl (ls rfl (ls rfl (ls rfl (os rfl (os rfl (os rfl (os rfl (os rfl (os rfl (os rfl (os rfl (os rfl oz)))))))))))))))))))))), lg (ls rfl (lx (ls rfl (ls rfl (ls rfl (ls rfl (ls rfl (ls rfl (ls rfl (ls rfl (ls rfl (ls rfl (ls rfl (os rfl (os rfl (os rfl (os rfl (os rfl (os rfl (os rfl (os rfl (os rfl (os rfl oz))))))))))))))))))))))), lg (ls rfl (lx (ls rfl (ls rfl (ls rfl (ls rfl (ls rfl (ls rfl (ls rfl (ls rfl (ls rfl (ls rfl (ls rfl (os rfl (os rfl (os rfl (os rfl (os rfl (os rfl (os rfl (os rfl (os rfl (os rfl (os rfl oz)))))))))))))))))))))))), lg (ls rfl (lx (ls rfl (ls rfl (ls rfl (ls rfl (ls rfl (ls rfl (ls rfl (ls rfl (ls rfl (ls rfl (ls rfl oz))))))))))))), lg lz, lg (ls rfl (lx (ls rfl (ls rfl (ls rfl (ls rfl (ls rfl (ls rfl (ls rfl (ls rfl (ls rfl (ls rfl (ls rfl (os rfl (os rfl (os rfl (os rfl (os rfl oz)))))))))))))))))), lg (ls rfl (lx (ls rfl (ls rfl (ls rfl (ls rfl (ls rfl (ls rfl (ls rfl (ls rfl (ls rfl (ls rfl (ls rfl (os rfl (os rfl (os rfl (os rfl oz))))))))))))))))), trivial⟩ (by repeat (first | exact bnd_nil | refine bnd_cons (by first | exact pl_bnd _ _ _ | exact sl_bnd (kI_bnd _ _ _ _) | exact sl_bnd (kP2_bnd _ _ _ _) | exact ptr_bnd _ (by omega) | exact any_bnd _ _) ?_)) (Nat.le_of_ble_eq_true rfl) (Nat.le_of_ble_eq_true rfl) (by simp only [List.nil_append, List.cons_append, List.map_cons, List.map_nil, List.set_cons_zero, List.set_cons_succ, List.take_succ_cons, List.take_zero, List.drop_succ_cons, List.drop_zero]; rfl) (by simp only [List.nil_append, List.cons_append, List.map_cons, List.map_nil, List.set_cons_zero, List.set_cons_succ, List.take_succ_cons, List.take_zero, List.drop_succ_cons, List.drop_zero]; rfl) (by repeat (first | exact bl_nil | refine bl_cons (by repeat (first | exact bnd_nil | refine bnd_cons (by first | exact pl_bnd _ _ _ | exact sl_bnd (kI_bnd _ _ _ _) | exact sl_bnd (kP2_bnd _ _ _ _) | exact ptr_bnd _ (by omega) | exact any_bnd _ _) ?_)) ?_)) ?_
                first | exact ⟨_, _, _, _, ⟨le_of_eq (eg oz), le_of_eq (eg (os rfl oz)), le_of_eq (eg (os rfl (os rfl oz))), le_of_eq (eg (os rfl (os rfl (os rfl oz)))), le_of_eq (eg (os rfl (os rfl (os rfl (os rfl oz))))), le_of_eq (eg (os rfl (os rfl (os rfl (os rfl (os rfl oz)))))), by first | exact le_of_eq (eg (os rfl (os rfl (os rfl (os rfl (os rfl (os rfl oz))))))) | exact le_sl (eg (os rfl (os rfl (os rfl (os rfl (os rfl (os rfl oz))))))), by first | exact le_of_eq (eg (os rfl (os rfl (os rfl (os rfl (os rfl (os rfl (os rfl oz)))))))) | exact le_sl (eg (os rfl (os rfl (os rfl (os rfl (os rfl (os rfl (os rfl oz)))))))), trivial⟩, rfl, ji_byte hI⟩ | exact ⟨_, _, _, _, ⟨le_of_eq (eg oz), le_of_eq (eg (os rfl oz)), le_of_eq (eg (os rfl (os rfl oz))), le_of_eq (eg (os rfl (os rfl (os rfl oz)))), le_of_eq (eg (os rfl (os rfl (os rfl (os rfl oz))))), le_of_eq (eg (os rfl (os rfl (os rfl (os rfl (os rfl oz)))))), by first | exact le_of_eq (eg (os rfl (os rfl (os rfl (os rfl (os rfl (os rfl oz))))))) | exact le_sl (eg (os rfl (os rfl (os rfl (os rfl (os rfl (os rfl oz))))))), by first | exact le_of_eq (eg (os rfl (os rfl (os rfl (os rfl (os rfl (os rfl (os rfl oz)))))))) | exact le_sl (eg (os rfl (os rfl (os rfl (os rfl (os rfl (os rfl (os rfl oz)))))))), trivial⟩, rfl, ji_num hI⟩ | exact ⟨_, _, _, _, ⟨le_of_eq (eg oz), le_of_eq (eg (os rfl oz)), le_of_eq (eg (os rfl (os rfl oz))), le_of_eq (eg (os rfl (os rfl (os rfl oz)))), le_of_eq (eg (os rfl (os rfl (os rfl (os rfl oz))))), le_of_eq (eg (os rfl (os rfl (os rfl (os rfl (os rfl oz)))))), by first | exact le_of_eq (eg (os rfl (os rfl (os rfl (os rfl (os rfl (os rfl oz))))))) | exact le_sl (eg (os rfl (os rfl (os rfl (os rfl (os rfl (os rfl oz))))))), by first | exact le_of_eq (eg (os rfl (os rfl (os rfl (os rfl (os rfl (os rfl (os rfl oz)))))))) | exact le_sl (eg (os rfl (os rfl (os rfl (os rfl (os rfl (os rfl (os rfl oz)))))))), trivial⟩, rfl, ji_bytes hI⟩
              · skip
                refine aw_seq ?_
                refine aw_region (by decide) ?_
                refine rts _ rfl (opD_move (os rfl (os rfl (os rfl (os rfl (os rfl (os rfl (os rfl (os rfl (os rfl oz)))))))))) ?_
                refine rts _ rfl (opD_move (ls rfl (os rfl (os rfl (os rfl (os rfl (os rfl (os rfl (os rfl (os rfl oz)))))))))) ?_
                refine rts _ rfl (opD_move (ls rfl (ls rfl (os rfl (os rfl (os rfl (os rfl (os rfl (os rfl (os rfl (os rfl (os rfl (os rfl (os rfl oz)))))))))))))) ?_
                refine rts _ rfl (opD_indexAddr_sl Go.Proofs.Tryd.underlying38 sz43 (ls rfl lz) lz (by first | rfl | simp | omega) (by first | assumption | omega)) ?_
                refine rts _ rfl ((by first | exact opD_indexAddr_arr Go.Proofs.Tryd.underlying43 sz42 lz (ev_const _ _) (show (1 : Int) = ((1 : Nat) : Int) from rfl) (by first | assumption | omega) | exact opD_indexAddr_el Go.Proofs.Tryd.underlying43 sz42 lz (ev_const _ _) (show (1 : Int) = ((1 : Nat) : Int) from rfl) (by first | assumption | omega))) ?_
                refine rts _ rfl ((by first | exact opD_load_one ag42 lz (by first | exact loc_get rfl | exact old_get (by assumption)) rfl | exact opD_load_el_one ag42 lz (by first | assumption | simp) rfl)) ?_
                refine rts _ rfl (opD_conv_int Go.Proofs.Tryd.underlying42 Go.Proofs.Tryd.underlying3 lz (by first | exact IntWalk.i64_in _ (by omega) | exact rfl)) ?_
                refine rts _ rfl (opD_callL ht24 (fun s g h => pt_bytes hI (by omega) h) rfl ⟨le_of_eq (ls rfl (ls rfl (ls rfl (ls rfl (ls rfl (ls rfl lz)))))), le_of_eq lz, trivial⟩ (by simp only [List.nil_append, List.cons_append, List.map_cons, List.map_nil, List.set_cons_zero, List.set_cons_succ, List.take_succ_cons, List.take_zero, List.drop_succ_cons, List.drop_zero]; rfl)) ?_
                refine rts _ rfl (opD_assign lz) ?_
                refine .nil ?_
                refine aw_keep [(13, _), (138, _), (125, _), (105, _), (14, _), (12, _), (11, _), (97, _), (1, _), (8, _), (9, _), (10, _)] ⟨lg lz, lg (ls rfl (ls rfl (ls rfl (ls rfl (ls rfl (ls rfl (ls rfl (ls rfl (ls rfl oz))))))))), lg (ls rfl (ls rfl (ls rfl (ls rfl (ls rfl (ls rfl (ls rfl (ls rfl (ls rfl (os rfl oz)))))))))), lg (ls rfl (ls rfl (ls rfl (ls rfl (ls rfl (ls rfl (ls rfl (ls rfl (ls rfl (os rfl (os rfl oz))))))))))), lg (ls rfl (ls rfl (ls rfl (ls rfl (ls rfl (ls rfl (ls rfl (ls rfl (ls rfl (os rfl (os rfl (os rfl oz)))))))))))), lg (ls rfl (ls rfl (ls rfl (ls rfl (ls rfl (ls rfl (ls rfl (ls rfl (ls rfl (os rfl (os rfl (os rfl (os rfl (os rfl oz)))))))))))))), lg (ls rfl (ls rfl (ls rfl (ls rfl (ls rfl (ls rfl (ls rfl (ls rfl (ls rfl (os rfl (os rfl (os rfl (os rfl (os rfl (os rfl oz))))))))))))))), lg (ls rfl (ls rfl (ls rfl (ls rfl (ls rfl (ls rfl (ls rfl (ls rfl (ls rfl (os rfl (os rfl (os rfl (os rfl (os rfl (os rfl (os rfl oz)))))))))))))))), lg (ls rfl (ls rfl (ls rfl (ls rfl (ls rfl (ls rfl (ls rfl (ls rfl (ls rfl (os rfl (os rfl (os rfl (os rfl (os rfl (os rfl (os rfl (os rfl oz))))))))))))))))), lg (ls rfl (ls rfl (ls rfl (ls rfl (ls rfl (ls rfl (ls rfl (ls rfl (ls rfl (os rfl (os rfl (os rfl (os rfl (os rfl (os rfl (os rfl (os rfl (os rfl oz)))))))))))))))))), lg (ls rfl (ls rfl (ls rfl (ls rfl (ls rfl (ls rfl (ls rfl (ls rfl (ls rfl (os rfl (os rfl (os rfl (os rfl (os rfl (os rfl (os rfl (os rfl (os rfl (os rfl oz))))))))))))))))))), lg (ls rfl (ls rfl (ls rfl (ls rfl (ls rfl (ls rfl (ls rfl (ls rfl (ls rfl (os rfl (os rfl (os rfl (os rfl (os rfl (os rfl (os rfl (os rfl (os rfl (os rfl (os rfl oz)))))))))))))))))))), trivial⟩ ?_
                refine aw_drawn [false, false, false, false, false, false, false, false, false, false, false, true, false] [[0], [0], [0], [0], [0], [0], [0], [0], [0], [0], [0, 1], [0, 1], [1]] mixed (by decide +kernel) ?_
                refine dtlA ag41 sz41 (os rfl (os rfl (os rfl (os rfl (os rfl (os rfl (os rfl (os rfl (os rfl (os rfl oz)))))))))) rfl (Nat.le_of_ble_eq_true rfl) rfl rfl ?_
                refine dtp _ rfl (fun s => opD_move (ls rfl (os rfl (os rfl (os rfl (os rfl (os rfl (os rfl (os rfl (os rfl oz)))))))))) ?_
                refine dtp _ rfl (fun s => opD_move (ls rfl (ls rfl (os rfl (os rfl (os rfl (os rfl (os rfl (os rfl (os rfl (os rfl (os rfl (os rfl (os rfl oz)))))))))))))) ?_
                refine dtp _ rfl (fun s => opD_indexAddr_sl Go.Proofs.Tryd.underlying38 sz43 (ls rfl lz) lz (by first | rfl | simp | omega) (by first | assumption | omega)) ?_
                refine dtp _ rfl (fun s => (by first | exact opD_indexAddr_arr Go.Proofs.Tryd.underlying43 sz42 lz (ev_const _ _) (show (1 : Int) = ((1 : Nat) : Int) from rfl) (by first | assumption | omega) | exact opD_indexAddr_el Go.Proofs.Tryd.underlying43 sz42 lz (ev_const _ _) (show (1 : Int) = ((1 : Nat) : Int) from rfl) (by first | assumption | omega))) ?_
                refine dtp _ rfl (fun s => (by first | exact opD_load_one ag42 lz (by assumption) rfl | exact opD_load_el_one ag42 lz (by first | assumption | simp) rfl)) ?_
                refine dtp _ rfl (fun s => opD_conv_int Go.Proofs.Tryd.underlying42 Go.Proofs.Tryd.underlying3 lz (by first | exact IntWalk.i64_in _ (by omega) | exact rfl)) ?_
                refine dtp _ rfl (fun s => opD_pure ht33 (ref_bytes hI.2.1 (by have := hI.2.2; omega) (by omega)) ⟨le_of_eq (ls rfl (ls rfl (ls rfl (ls rfl (ls rfl (ls rfl lz)))))), le_of_eq lz, trivial⟩) ?_
                refine dtp _ rfl (fun s => opD_move lz) ?_
                refine dtp _ rfl (fun s => opD_extract lz rfl) ?_
                refine dtp _ rfl (fun s => opD_extract (ls rfl lz) rfl) ?_
                refine dta _ rfl (opD_storeA sz41 (ls rfl (ls rfl (ls rfl (ls rfl (ls rfl (ls rfl (ls rfl (ls rfl (ls rfl (ls rfl (ls rfl (os rfl (os rfl (os rfl (os rfl (os rfl (os rfl (os rfl (os rfl (os rfl (os rfl oz))))))))))))))))))))) (ls rfl lz) (by repeat (first | exact ones_nil | refine ones_cons (by first | exact one_pl rfl | exact one_sl _ _ _ _ | exact one_ptr _ _) ?_)) rfl rfl (Nat.le_of_ble_eq_true rfl) (by repeat (first | exact bnd_nil | refine bnd_cons (by first | exact pl_bnd _ _ _ | exact sl_bnd (kI_bnd _ _ _ _) | exact sl_bnd (kP2_bnd _ _ _ _) | exact ptr_bnd _ (by omega) | exact any_bnd _ _) ?_)) (by simp only [List.nil_append, List.cons_append, List.map_cons, List.map_nil, List.set_cons_zero, List.set_cons_succ, List.take_succ_cons, List.take_zero, List.drop_succ_cons, List.drop_zero]; rfl) (by simp only [List.nil_append, List.cons_append, List.map_cons, List.map_nil, List.set_cons_zero, List.set_cons_succ, List.take_succ_cons, List.take_zero, List.drop_succ_cons, List.drop_zero]; rfl)) ?_
                refine dtp _ rfl (fun s => opD_assign (lx lz)) ?_
                refine .nil ⟨rfl, ⟨⟨(by first | exact loc_get rfl | exact old_get (by assumption)), trivial⟩, trivial, trivial, trivial, trivial, trivial, trivial, trivial, trivial, trivial, trivial, trivial, trivial, trivial⟩, ?_⟩
                refine cut_yes (l := [(1, _), (8, _), (9, _), (10, _), (11, _), (12, _), (13, _), (14, _)]) ⟨lg (ls rfl (lx (ls rfl (ls rfl (ls rfl (ls rfl (ls rfl (ls rfl (ls rfl (ls rfl (ls rfl (ls rfl (ls rfl (os rfl (os rfl (os rfl (os rfl (os rfl (os rfl (os rfl (os rfl oz))))))))))))))))))))), lg (ls rfl (lx (ls rfl (ls rfl (ls rfl (ls rfl (ls rfl (ls rfl (ls rfl (ls rfl (ls rfl (ls rfl (ls rfl (os rfl (os rfl (os rfl (os rfl (os rfl (os rfl (os rfl (os rfl (os rfl oz)))))))))))))))))))))), lg (ls rfl (lx (ls rfl (ls rfl (ls rfl (ls rfl (ls rfl (ls rfl (ls rfl (ls rfl (ls rfl (ls rfl (ls rfl (os rfl (os rfl (os rfl (os rfl (os rfl (os rfl (os rfl (os rfl (os rfl (os rfl oz))))))))))))))))))))))), lg (ls rfl (lx (ls rfl (ls rfl (ls rfl (ls rfl (ls rfl (ls rfl (ls rfl (ls rfl (ls rfl (ls rfl (ls rfl (os rfl (os rfl (os rfl (os rfl (os rfl (os rfl (os rfl (os rfl (os rfl (os rfl (os rfl oz)))))))))))))))))))))))), lg (ls rfl (lx (ls rfl (ls rfl (ls rfl (ls rfl (ls rfl (ls rfl (ls rfl (ls rfl (ls rfl (ls rfl (ls rfl (os rfl (os rfl (os rfl (os rfl (os rfl (os rfl oz))))))))))))))))))), lg (ls rfl (lx (ls rfl (ls rfl (ls rfl (ls rfl (ls rfl (ls rfl (ls rfl (ls rfl (ls rfl (ls rfl (ls rfl (os rfl (os rfl (os rfl (os rfl (os rfl oz)))))))))))))))))), lg (ls rfl (lx (ls rfl (ls rfl (ls rfl (ls rfl (ls rfl (ls rfl (ls rfl (ls rfl (ls rfl (ls rfl (ls rfl oz))))))))))))), lg lz, trivial⟩ (by repeat (first | exact bnd_nil | refine bnd_cons (by first | exact pl_bnd _ _ _ | exact sl_bnd (kI_bnd _ _ _ _) | exact sl_bnd (kP2_bnd _ _ _ _) | exact ptr_bnd _ (by omega) | exact any_bnd _ _) ?_)) (Nat.le_of_ble_eq_true rfl) (Nat.le_of_ble_eq_true rfl) (by simp only [List.nil_append, List.cons_append, List.map_cons, List.map_nil, List.set_cons_zero, List.set_cons_succ, List.take_succ_cons, List.take_zero, List.drop_succ_cons, List.drop_zero]; rfl) (by simp only [List.nil_append, List.cons_append, List.map_cons, List.map_nil, List.set_cons_zero, List.set_cons_succ, List.take_succ_cons, List.take_zero, List.drop_succ_cons, List.drop_zero]; rfl) (by repeat (first | exact bl_nil | refine bl_cons (by repeat (first | exact bnd_nil | refine bnd_cons (by first | exact pl_bnd _ _ _ | exact sl_bnd (kI_bnd _ _ _ _) | exact sl_bnd (kP2_bnd _ _ _ _) | exact ptr_bnd _ (by omega) | exact any_bnd _ _) ?_)) ?_)) ?_
                first | exact ⟨_, _, _, _, ⟨le_of_eq (eg oz), le_of_eq (eg (os rfl oz)), le_of_eq (eg (os rfl (os rfl oz))), le_of_eq (eg (os rfl (os rfl (os rfl oz)))), le_of_eq (eg (os rfl (os rfl (os rfl (os rfl oz))))), le_of_eq (eg (os rfl (os rfl (os rfl (os rfl (os rfl oz)))))), by first | exact le_of_eq (eg (os rfl (os rfl (os rfl (os rfl (os rfl (os rfl oz))))))) | exact le_sl (eg (os rfl (os rfl (os rfl (os rfl (os rfl (os rfl oz))))))), by first | exact le_of_eq (eg (os rfl (os rfl (os rfl (os rfl (os rfl (os rfl (os rfl oz)))))))) | exact le_sl (eg (os rfl (os rfl (os rfl (os rfl (os rfl (os rfl (os rfl oz)))))))), trivial⟩, rfl, ji_byte hI⟩ | exact ⟨_, _, _, _, ⟨le_of_eq (eg oz), le_of_eq (eg (os rfl oz)), le_of_eq (eg (os rfl (os rfl oz))), le_of_eq (eg (os rfl (os rfl (os rfl oz)))), le_of_eq (eg (os rfl (os rfl (os rfl (os rfl oz))))), le_of_eq (eg (os rfl (os rfl (os rfl (os rfl (os rfl oz)))))), by first | exact le_of_eq (eg (os rfl (os rfl (os rfl (os rfl (os rfl (os rfl oz))))))) | exact le_sl (eg (os rfl (os rfl (os rfl (os rfl (os rfl (os rfl oz))))))), by first | exact le_of_eq (eg (os rfl (os rfl (os rfl (os rfl (os rfl (os rfl (os rfl oz)))))))) | exact le_sl (eg (os rfl (os rfl (os rfl (os rfl (os rfl (os rfl (os rfl oz)))))))), trivial⟩, rfl, ji_num hI⟩ | exact ⟨_, _, _, _, ⟨le_of_eq (eg oz), le_of_eq (eg (os rfl oz)), le_of_eq (eg (os rfl (os rfl oz))), le_of_eq (eg (os rfl (os rfl (os rfl oz)))), le_of_eq (eg (os rfl (os rfl (os rfl (os rfl oz))))), le_of_eq (eg (os rfl (os rfl (os rfl (os rfl (os rfl oz)))))), by first | exact le_of_eq (eg (os rfl (os rfl (os rfl (os rfl (os rfl (os rfl oz))))))) | exact le_sl (eg (os rfl (os rfl (os rfl (os rfl (os rfl (os rfl oz))))))), by first | exact le_of_eq (eg (os rfl (os rfl (os rfl (os rfl (os rfl (os rfl (os rfl oz)))))))) | exact le_sl (eg (os rfl (os rfl (os rfl (os rfl (os rfl (os rfl (os rfl oz)))))))), trivial⟩, rfl, ji_bytes hI⟩
          · rintro e st ⟨l3, b3, v, t, hH, rfl, hJ⟩
            refine aw_keep _ hH ?_
            refine aw_seq ?_
            refine aw_region (by decide) ?_
            refine rts _ rfl (opD_move (os rfl oz)) ?_
            refine rts _ rfl (opD_call ht26 (rd_done (loc_get (i := 0) rfl)) ⟨le_of_eq lz, trivial⟩) ?_
            refine rts _ rfl (opD_assign lz) ?_
            refine .nil ?_
            refine aw_keep [(17, _), (1, _), (8, _), (9, _), (10, _), (11, _), (12, _), (13, _), (14, _)] ⟨lg lz, lg (ls rfl (ls rfl (ls rfl oz))), lg (ls rfl (ls rfl (ls rfl (os rfl oz)))), lg (ls rfl (ls rfl (ls rfl (os rfl (os rfl oz))))), lg (ls rfl (ls rfl (ls rfl (os rfl (os rfl (os rfl oz)))))), lg (ls rfl (ls rfl (ls rfl (os rfl (os rfl (os rfl (os rfl oz))))))), lg (ls rfl (ls rfl (ls rfl (os rfl (os rfl (os rfl (os rfl (os rfl oz)))))))), lg (ls rfl (ls rfl (ls rfl (os rfl (os rfl (os rfl (os rfl (os rfl (os rfl oz))))))))), lg (ls rfl (ls rfl (ls rfl (os rfl (os rfl (os rfl (os rfl (os rfl (os rfl (os rfl oz)))))))))), trivial⟩ ?_
            refine aw_seq ?_
            refine aw_seq ?_
            refine aw_region (by decide) ?_
            refine rts _ rfl ((by first | exact opD_fieldAddr fo41_1 (os rfl (os rfl (os rfl oz))) | exact opD_fieldAddr_el fo41_1 (os rfl (os rfl (os rfl oz))))) ?_
            refine rts _ rfl ((by first | exact opD_load_one ag4 lz (by first | exact loc_get rfl | exact old_get (by assumption)) rfl | exact opD_load_el_one ag4 lz (by first | assumption | simp) rfl)) ?_
            refine .nil ?_
            refine aw_keep [(162, _), (17, _), (1, _), (8, _), (9, _), (10, _), (11, _), (12, _), (13, _), (14, _)] ⟨lg lz, lg (ls rfl (ls rfl oz)), lg (ls rfl (ls rfl (os rfl oz))), lg (ls rfl (ls rfl (os rfl (os rfl oz)))), lg (ls rfl (ls rfl (os rfl (os rfl (os rfl oz))))), lg (ls rfl (ls rfl (os rfl (os rfl (os rfl (os rfl oz)))))), lg (ls rfl (ls rfl (os rfl (os rfl (os rfl (os rfl (os rfl oz))))))), lg (ls rfl (ls rfl (os rfl (os rfl (os rfl (os rfl (os rfl (os rfl oz)))))))), lg (ls rfl (ls rfl (os rfl (os rfl (os rfl (os rfl (os rfl (os rfl (os rfl oz))))))))), lg (ls rfl (ls rfl (os rfl (os rfl (os rfl (os rfl (os rfl (os rfl (os rfl (os rfl oz)))))))))), trivial⟩ ?_
            refine aw_cond _ oz (fun hc => ?_) (fun hc => ?_)
            · skip
              obtain ⟨hv0, ht0⟩ := hJ.2 hc
              subst hv0
              subst ht0
              refine aw_region (by decide) ?_
              refine rts _ rfl (opD_assign (ev_const _ _)) ?_
              refine rts _ rfl (opD_toNil (kI .u8) (opD_assign (ev_const _ _))) ?_
              refine .nil ?_
              refine aw_keep [(14, _), (12, _), (162, _), (17, _), (1, _), (8, _), (9, _), (10, _), (11, _), (13, _)] ⟨lg lz, lg (ls rfl lz), lg (ls rfl (ls rfl oz)), lg (ls rfl (ls rfl (os rfl oz))), lg (ls rfl (ls rfl (os rfl (os rfl oz)))), lg (ls rfl (ls rfl (os rfl (os rfl (os rfl oz))))), lg (ls rfl (ls rfl (os rfl (os rfl (os rfl (os rfl oz)))))), lg (ls rfl (ls rfl (os rfl (os rfl (os rfl (os rfl (os rfl oz))))))), lg (ls rfl (ls rfl (os rfl (os rfl (os rfl (os rfl (os rfl (os rfl oz)))))))), lg (ls rfl (ls rfl (os rfl (os rfl (os rfl (os rfl (os rfl (os rfl (os rfl (os rfl oz)))))))))), trivial⟩ ?_
              refine aw_seq ?_
              refine aw_flat mixed (by decide +kernel) ?_
              refine zts _ rfl (opD_move (os rfl (os rfl (os rfl (os rfl (os rfl (os rfl (os rfl (os rfl oz))))))))) ?_
              refine zts _ rfl (opD_move (ls rfl (os rfl oz))) ?_
              refine zts _ rfl (opD_neq (ls rfl lz) lz) ?_
              refine zts _ rfl (opD_move lz) ?_
              refine ztg _ rfl lz (fun hg27_4 => by
                  have hg27_4' := hg27_4
                  try simp only [beq_iff_eq, decide_eq_true_eq, decide_eq_false_iff_not, Bool.and_eq_true, Bool.or_eq_true, Bool.or_eq_false_iff, Bool.and_eq_false_iff] at hg27_4'
                  exact opD_move (ls rfl (ls rfl (ls rfl (ls rfl (os rfl (os rfl (os rfl (os rfl (os rfl (os rfl (os rfl (os rfl (os rfl oz)))))))))))))) ?_
              refine ztg _ rfl (ls rfl lz) (fun hg27_5 => by
                  have hg27_5' := hg27_5
                  try simp only [beq_iff_eq, decide_eq_true_eq, decide_eq_false_iff_not, Bool.and_eq_true, Bool.or_eq_true, Bool.or_eq_false_iff, Bool.and_eq_false_iff] at hg27_5'
                  exact opD_bytes_str Go.Proofs.Tryd.underlying23 Go.Proofs.Tryd.underlying5 Go.Proofs.Tryd.underlying9 (lz.trans (pif_pos hg27_5))) ?_
              refine ztg _ rfl (ls rfl (ls rfl lz)) (fun hg27_6 => by
                  have hg27_6' := hg27_6
                  try simp only [beq_iff_eq, decide_eq_true_eq, decide_eq_false_iff_not, Bool.and_eq_true, Bool.or_eq_true, Bool.or_eq_false_iff, Bool.and_eq_false_iff] at hg27_6'
                  exact opD_move (ls rfl (ls rfl (ls rfl (ls rfl (ls rfl (ls rfl oz))))))) ?_
              refine ztg _ rfl (ls rfl (ls rfl (ls rfl lz))) (fun hg27_7 => by
                  have hg27_7' := hg27_7
                  try simp only [beq_iff_eq, decide_eq_true_eq, decide_eq_false_iff_not, Bool.and_eq_true, Bool.or_eq_true, Bool.or_eq_false_iff, Bool.and_eq_false_iff] at hg27_7'
                  exact opD_bytes_str Go.Proofs.Tryd.underlying23 Go.Proofs.Tryd.underlying5 Go.Proofs.Tryd.underlying9 (lz.trans (pif_pos hg27_7))) ?_
              refine ztg _ rfl (ls rfl (ls rfl (ls rfl (ls rfl lz)))) (fun hg27_8 => by
                  have hg27_8' := hg27_8
                  try simp only [beq_iff_eq, decide_eq_true_eq, decide_eq_false_iff_not, Bool.and_eq_true, Bool.or_eq_true, Bool.or_eq_false_iff, Bool.and_eq_false_iff] at hg27_8'
                  exact opD_sneq ((ls rfl (ls rfl lz)).trans (pif_pos hg27_8)) (lz.trans (pif_pos hg27_8))) ?_
              refine zts _ rfl (opD_or (ls rfl (ls rfl (ls rfl (ls rfl (ls rfl lz))))) lz) ?_
              refine zts _ rfl (opD_move lz) ?_
              refine ztg _ rfl lz (fun hg27_11 => by
                  have hg27_11' := hg27_11
                  try simp only [beq_iff_eq, decide_eq_true_eq, decide_eq_false_iff_not, Bool.and_eq_true, Bool.or_eq_true, Bool.or_eq_false_iff, Bool.and_eq_false_iff] at hg27_11'
                  exact opD_move (ls rfl (ls rfl (ls rfl (ls rfl (ls rfl (ls rfl (ls rfl (ls rfl (ls rfl (ls rfl (ls rfl (os rfl (os rfl (os rfl (os rfl (os rfl oz))))))))))))))))) ?_
              refine ztg _ rfl (ls rfl lz) (fun hg27_12 => by
                  have hg27_12' := hg27_12
                  try simp only [beq_iff_eq, decide_eq_true_eq, decide_eq_false_iff_not, Bool.and_eq_true, Bool.or_eq_true, Bool.or_eq_false_iff, Bool.and_eq_false_iff] at hg27_12'
                  exact opD_call ht28 (rd_left (loc_get (i := 0) rfl)) ⟨le_of_eq (lz.trans (pif_pos hg27_12)), trivial⟩) ?_
              refine ztg _ rfl (ls rfl (ls rfl lz)) (fun hg27_13 => by
                  have hg27_13' := hg27_13
                  try simp only [beq_iff_eq, decide_eq_true_eq, decide_eq_false_iff_not, Bool.and_eq_true, Bool.or_eq_true, Bool.or_eq_false_iff, Bool.and_eq_false_iff] at hg27_13'
                  exact (by first | exact opD_fieldAddr fo41_0 (ls rfl (ls rfl (ls rfl (ls rfl (ls rfl (ls rfl (ls rfl (ls rfl (ls rfl (ls rfl (ls rfl (ls rfl (ls rfl (os rfl (os rfl (os rfl (os rfl (os rfl (os rfl oz))))))))))))))))))) | exact opD_fieldAddr_el fo41_0 (ls rfl (ls rfl (ls rfl (ls rfl (ls rfl (ls rfl (ls rfl (ls rfl (ls rfl (ls rfl (ls rfl (ls rfl (ls rfl (os rfl (os rfl (os rfl (os rfl (os rfl (os rfl oz))))))))))))))))))))) ?_
              refine ztg _ rfl (ls rfl (ls rfl (ls rfl lz))) (fun hg27_14 => by
                  have hg27_14' := hg27_14
                  try simp only [beq_iff_eq, decide_eq_true_eq, decide_eq_false_iff_not, Bool.and_eq_true, Bool.or_eq_true, Bool.or_eq_false_iff, Bool.and_eq_false_iff] at hg27_14'
                  exact (by first | exact opD_load_one ag23 (lz.trans (pif_pos hg27_14)) (by first | exact loc_get rfl | exact old_get (by assumption) | exact hB) rfl | exact opD_load_el_one ag23 (lz.trans (pif_pos hg27_14)) (by first | assumption | simp) rfl)) ?_
              refine ztg _ rfl (ls rfl (ls rfl (ls rfl (ls rfl lz)))) (fun hg27_15 => by
                  have hg27_15' := hg27_15
                  try simp only [beq_iff_eq, decide_eq_true_eq, decide_eq_false_iff_not, Bool.and_eq_true, Bool.or_eq_true, Bool.or_eq_false_iff, Bool.and_eq_false_iff] at hg27_15'
                  exact opD_len_sl Go.Proofs.Tryd.underlying23 (lz.trans (pif_pos hg27_15))) ?_
              refine ztg _ rfl (ls rfl (ls rfl (ls rfl (ls rfl (ls rfl lz))))) (fun hg27_16 => by
                  have hg27_16' := hg27_16
                  try simp only [beq_iff_eq, decide_eq_true_eq, decide_eq_false_iff_not, Bool.and_eq_true, Bool.or_eq_true, Bool.or_eq_false_iff, Bool.and_eq_false_iff] at hg27_16'
                  exact opD_neq ((ls rfl (ls rfl (ls rfl lz))).trans (pif_pos hg27_16)) (lz.trans (pif_pos hg27_16))) ?_
              refine zts _ rfl (opD_or (ls rfl (ls rfl (ls rfl (ls rfl (ls rfl (ls rfl lz)))))) lz) ?_
              refine zts _ rfl (opD_move lz) ?_
              refine ztg _ rfl lz (fun hg27_19 => by
                  have hg27_19' := hg27_19
                  try simp only [beq_iff_eq, decide_eq_true_eq, decide_eq_false_iff_not, Bool.and_eq_true, Bool.or_eq_true, Bool.or_eq_false_iff, Bool.and_eq_false_iff] at hg27_19'
                  exact opD_move (ls rfl (ls rfl (ls rfl (ls rfl (ls rfl (ls rfl (ls rfl (ls rfl (ls rfl (ls rfl (ls rfl (ls rfl (ls rfl (ls rfl (ls rfl (ls rfl (ls rfl (ls rfl (ls rfl (os rfl (os rfl (os rfl oz))))))))))))))))))))))) ?_
              refine ztg _ rfl (ls rfl lz) (fun hg27_20 => by
                  have hg27_20' := hg27_20
                  try simp only [beq_iff_eq, decide_eq_true_eq, decide_eq_false_iff_not, Bool.and_eq_true, Bool.or_eq_true, Bool.or_eq_false_iff, Bool.and_eq_false_iff] at hg27_20'
                  exact opD_bin (lz.trans (pif_pos hg27_20)) (ev_const _ _) (fun w => errV_geql _ w _) (fun w => errV_eql _ w)) ?_
              refine ztg _ rfl (ls rfl (ls rfl lz)) (fun hg27_21 => by
                  have hg27_21' := hg27_21
                  try simp only [beq_iff_eq, decide_eq_true_eq, decide_eq_false_iff_not, Bool.and_eq_true, Bool.or_eq_true, Bool.or_eq_false_iff, Bool.and_eq_false_iff] at hg27_21'
                  exact (by first | exact opD_load_agg ag41 sz41 (ls rfl (ls rfl (ls rfl (ls rfl (ls rfl (ls rfl (ls rfl (ls rfl (ls rfl (ls rfl (ls rfl (ls rfl (ls rfl (ls rfl (ls rfl (ls rfl (ls rfl (ls rfl (ls rfl (ls rfl (ls rfl (os rfl (os rfl (os rfl (os rfl (os rfl (os rfl oz))))))))))))))))))))))))))) (by first | exact loc_get rfl | exact old_get (by assumption) | exact hB) (by simp) | exact opD_load_el_agg ag41 sz41 (ls rfl (ls rfl (ls rfl (ls rfl (ls rfl (ls rfl (ls rfl (ls rfl (ls rfl (ls rfl (ls rfl (ls rfl (ls rfl (ls rfl (ls rfl (ls rfl (ls rfl (ls rfl (ls rfl (ls rfl (ls rfl (os rfl (os rfl (os rfl (os rfl (os rfl (os rfl oz))))))))))))))))))))))))))) (by first | assumption | simp) (by decide))) ?_
              refine ztg _ rfl (ls rfl (ls rfl (ls rfl lz))) (fun hg27_22 => by
                  have hg27_22' := hg27_22
                  try simp only [beq_iff_eq, decide_eq_true_eq, decide_eq_false_iff_not, Bool.and_eq_true, Bool.or_eq_true, Bool.or_eq_false_iff, Bool.and_eq_false_iff] at hg27_22'
                  exact opD_pure ht34 (ref_done) ⟨le_of_eq (lz.trans (pif_pos hg27_22)), trivial⟩) ?_
              refine ztg _ rfl (ls rfl (ls rfl (ls rfl (ls rfl lz)))) (fun hg27_23 => by
                  have hg27_23' := hg27_23
                  try simp only [beq_iff_eq, decide_eq_true_eq, decide_eq_false_iff_not, Bool.and_eq_true, Bool.or_eq_true, Bool.or_eq_false_iff, Bool.and_eq_false_iff] at hg27_23'
                  exact opD_bneq Go.Proofs.Tryd.underlying4 ((ls rfl (ls rfl lz)).trans (pif_pos hg27_23)) (lz.trans (pif_pos hg27_23))) ?_
              refine zts _ rfl (opD_or (ls rfl (ls rfl (ls rfl (ls rfl (ls rfl lz))))) lz) ?_
              refine zts _ rfl (opD_move lz) ?_
              refine ztg _ rfl lz (fun hg27_26 => by
                  have hg27_26' := hg27_26
                  try simp only [beq_iff_eq, decide_eq_true_eq, decide_eq_false_iff_not, Bool.and_eq_true, Bool.or_eq_true, Bool.or_eq_false_iff, Bool.and_eq_false_iff] at hg27_26'
                  exact opD_move (ls rfl (ls rfl (ls rfl (ls rfl (ls rfl (ls rfl (ls rfl (ls rfl (ls rfl (ls rfl (ls rfl (ls rfl (ls rfl (ls rfl (ls rfl (ls rfl (ls rfl (ls rfl (ls rfl (ls rfl (ls rfl (ls rfl (ls rfl (ls rfl (ls rfl (ls rfl (os rfl (os rfl (os rfl oz)))))))))))))))))))))))))))))) ?_
              refine ztg _ rfl (ls rfl lz) (fun hg27_27 => by
                  have hg27_27' := hg27_27
                  try simp only [beq_iff_eq, decide_eq_true_eq, decide_eq_false_iff_not, Bool.and_eq_true, Bool.or_eq_true, Bool.or_eq_false_iff, Bool.and_eq_false_iff] at hg27_27'
                  exact opD_bin (lz.trans (pif_pos hg27_27)) (ev_const _ _) (fun w => errV_guard _ w _) (fun w => errV_beq _ w)) ?_
              refine ztg _ rfl (ls rfl (ls rfl lz)) (fun hg27_28 => by
                  have hg27_28' := hg27_28
                  try simp only [beq_iff_eq, decide_eq_true_eq, decide_eq_false_iff_not, Bool.and_eq_true, Bool.or_eq_true, Bool.or_eq_false_iff, Bool.and_eq_false_iff] at hg27_28'
                  exact opD_move (lz.trans (pif_pos hg27_28))) ?_
              refine ztg2 _ rfl lz (fun hg27_29 => by
                  have hg27_29' := hg27_29
                  try simp only [beq_iff_eq, decide_eq_true_eq, decide_eq_false_iff_not, Bool.and_eq_true, Bool.or_eq_true, Bool.or_eq_false_iff, Bool.and_eq_false_iff] at hg27_29'
                  exact opD_move (ls rfl (ls rfl (ls rfl (ls rfl (ls rfl (ls rfl (ls rfl (ls rfl (ls rfl (ls rfl (ls rfl (ls rfl (ls rfl (ls rfl (ls rfl (ls rfl (ls rfl (ls rfl (ls rfl (ls rfl (ls rfl (ls rfl (ls rfl (ls rfl (ls rfl (ls rfl (ls rfl (ls rfl (ls rfl (os rfl (os rfl (os rfl oz))))))))))))))))))))))))))))))))) ?_
              refine ztg2 _ rfl (ls rfl lz) (fun hg27_30 => by
                  have hg27_30' := hg27_30
                  try simp only [beq_iff_eq, decide_eq_true_eq, decide_eq_false_iff_not, Bool.and_eq_true, Bool.or_eq_true, Bool.or_eq_false_iff, Bool.and_eq_false_iff] at hg27_30'
                  exact opD_call ht27 (num06 hst) ⟨le_of_eq (lz.trans (pif_pos hg27_30)), trivial⟩) ?_
              refine ztg2 _ rfl (ls rfl (ls rfl lz)) (fun hg27_31 => by
                  have hg27_31' := hg27_31
                  try simp only [beq_iff_eq, decide_eq_true_eq, decide_eq_false_iff_not, Bool.and_eq_true, Bool.or_eq_true, Bool.or_eq_false_iff, Bool.and_eq_false_iff] at hg27_31'
                  exact opD_neq (lz.trans (pif_pos hg27_31)) (ev_const _ _)) ?_
              refine ztg _ rfl (ls rfl (ls rfl (ls rfl (ls rfl (ls rfl (ls rfl lz)))))) (fun hg27_32 => by
                  have hg27_32' := hg27_32
                  try simp only [beq_iff_eq, decide_eq_true_eq, decide_eq_false_iff_not, Bool.and_eq_true, Bool.or_eq_true, Bool.or_eq_false_iff, Bool.and_eq_false_iff] at hg27_32'
                  exact opD_and ((ls rfl (ls rfl (ls rfl lz))).trans (pif_pos hg27_32)) (lz.trans (pif_and hg27_32))) ?_
              refine zts _ rfl (opD_or (ls rfl (ls rfl (ls rfl (ls rfl (ls rfl (ls rfl (ls rfl lz))))))) lz) ?_
              refine .nil ?_
              refine aw_keep [(196, _), (14, _), (12, _), (162, _), (17, _), (1, _), (8, _), (9, _), (10, _), (11, _), (13, _)] ⟨lg lz, lg (ls rfl (ls rfl (ls rfl (ls rfl (ls rfl (ls rfl (ls rfl (ls rfl (ls rfl (ls rfl (ls rfl (ls rfl (ls rfl (ls rfl (ls rfl (ls rfl (ls rfl (ls rfl (ls rfl (ls rfl (ls rfl (ls rfl (ls rfl (ls rfl (ls rfl (ls rfl (ls rfl (ls rfl (ls rfl (ls rfl (ls rfl (ls rfl (ls rfl (ls rfl oz)))))))))))))))))))))))))))))))))), lg (ls rfl (ls rfl (ls rfl (ls rfl (ls rfl (ls rfl (ls rfl (ls rfl (ls rfl (ls rfl (ls rfl (ls rfl (ls rfl (ls rfl (ls rfl (ls rfl (ls rfl (ls rfl (ls rfl (ls rfl (ls rfl (ls rfl (ls rfl (ls rfl (ls rfl (ls rfl (ls rfl (ls rfl (ls rfl (ls rfl (ls rfl (ls rfl (ls rfl (ls rfl (os rfl oz))))))))))))))))))))))))))))))))))), lg (ls rfl (ls rfl (ls rfl (ls rfl (ls rfl (ls rfl (ls rfl (ls rfl (ls rfl (ls rfl (ls rfl (ls rfl (ls rfl (ls rfl (ls rfl (ls rfl (ls rfl (ls rfl (ls rfl (ls rfl (ls rfl (ls rfl (ls rfl (ls rfl (ls rfl (ls rfl (ls rfl (ls rfl (ls rfl (ls rfl (ls rfl (ls rfl (ls rfl (ls rfl (os rfl (os rfl oz)))))))))))))))))))))))))))))))))))), lg (ls rfl (ls rfl (ls rfl (ls rfl (ls rfl (ls rfl (ls rfl (ls rfl (ls rfl (ls rfl (ls rfl (ls rfl (ls rfl (ls rfl (ls rfl (ls rfl (ls rfl (ls rfl (ls rfl (ls rfl (ls rfl (ls rfl (ls rfl (ls rfl (ls rfl (ls rfl (ls rfl (ls rfl (ls rfl (ls rfl (ls rfl (ls rfl (ls rfl (ls rfl (os rfl (os rfl (os rfl oz))))))))))))))))))))))))))))))))))))), lg (ls rfl (ls rfl (ls rfl (ls rfl (ls rfl (ls rfl (ls rfl (ls rfl (ls rfl (ls rfl (ls rfl (ls rfl (ls rfl (ls rfl (ls rfl (ls rfl (ls rfl (ls rfl (ls rfl (ls rfl (ls rfl (ls rfl (ls rfl (ls rfl (ls rfl (ls rfl (ls rfl (ls rfl (ls rfl (ls rfl (ls rfl (ls rfl (ls rfl (ls rfl (os rfl (os rfl (os rfl (os rfl oz)))))))))))))))))))))))))))))))))))))), lg (ls rfl (ls rfl (ls rfl (ls rfl (ls rfl (ls rfl (ls rfl (ls rfl (ls rfl (ls rfl (ls rfl (ls rfl (ls rfl (ls rfl (ls rfl (ls rfl (ls rfl (ls rfl (ls rfl (ls rfl (ls rfl (ls rfl (ls rfl (ls rfl (ls rfl (ls rfl (ls rfl (ls rfl (ls rfl (ls rfl (ls rfl (ls rfl (ls rfl (ls rfl (os rfl (os rfl (os rfl (os rfl (os rfl oz))))))))))))))))))))))))))))))))))))))), lg (ls rfl (ls rfl (ls rfl (ls rfl (ls rfl (ls rfl (ls rfl (ls rfl (ls rfl (ls rfl (ls rfl (ls rfl (ls rfl (ls rfl (ls rfl (ls rfl (ls rfl (ls rfl (ls rfl (ls rfl (ls rfl (ls rfl (ls rfl (ls rfl (ls rfl (ls rfl (ls rfl (ls rfl (ls rfl (ls rfl (ls rfl (ls rfl (ls rfl (ls rfl (os rfl (os rfl (os rfl (os rfl (os rfl (os rfl oz)))))))))))))))))))))))))))))))))))))))), lg (ls rfl (ls rfl (ls rfl (ls rfl (ls rfl (ls rfl (ls rfl (ls rfl (ls rfl (ls rfl (ls rfl (ls rfl (ls rfl (ls rfl (ls rfl (ls rfl (ls rfl (ls rfl (ls rfl (ls rfl (ls rfl (ls rfl (ls rfl (ls rfl (ls rfl (ls rfl (ls rfl (ls rfl (ls rfl (ls rfl (ls rfl (ls rfl (ls rfl (ls rfl (os rfl (os rfl (os rfl (os rfl (os rfl (os rfl (os rfl oz))))))))))))))))))))))))))))))))))))))))), lg (ls rfl (ls rfl (ls rfl (ls rfl (ls rfl (ls rfl (ls rfl (ls rfl (ls rfl (ls rfl (ls rfl (ls rfl (ls rfl (ls rfl (ls rfl (ls rfl (ls rfl (ls rfl (ls rfl (ls rfl (ls rfl (ls rfl (ls rfl (ls rfl (ls rfl (ls rfl (ls rfl (ls rfl (ls rfl (ls rfl (ls rfl (ls rfl (ls rfl (ls rfl (os rfl (os rfl (os rfl (os rfl (os rfl (os rfl (os rfl (os rfl oz)))))))))))))))))))))))))))))))))))))))))), lg (ls rfl (ls rfl (ls rfl (ls rfl (ls rfl (ls rfl (ls rfl (ls rfl (ls rfl (ls rfl (ls rfl (ls rfl (ls rfl (ls rfl (ls rfl (ls rfl (ls rfl (ls rfl (ls rfl (ls rfl (ls rfl (ls rfl (ls rfl (ls rfl (ls rfl (ls rfl (ls rfl (ls rfl (ls rfl (ls rfl (ls rfl (ls rfl (ls rfl (ls rfl (os rfl (os rfl (os rfl (os rfl (os rfl (os rfl (os rfl (os rfl (os rfl oz))))))))))))))))))))))))))))))))))))))))))), trivial⟩ ?_
              refine aw_cond _ oz (fun hc => ?_) (fun hc => ?_)
              · skip
                exfalso; revert hc; simp only [(pt_end _ _).1, (pt_end _ _).2]; simp
              · skip
                refine aw_skip ?_
                refine aw_keep [(196, _), (14, _), (12, _), (162, _), (17, _), (1, _), (8, _), (9, _), (10, _), (11, _), (13, _)] ⟨lg oz, lg (os rfl oz), lg (os rfl (os rfl oz)), lg (os rfl (os rfl (os rfl oz))), lg (os rfl (os rfl (os rfl (os rfl oz)))), lg (os rfl (os rfl (os rfl (os rfl (os rfl oz))))), lg (os rfl (os rfl (os rfl (os rfl (os rfl (os rfl oz)))))), lg (os rfl (os rfl (os rfl (os rfl (os rfl (os rfl (os rfl oz))))))), lg (os rfl (os rfl (os rfl (os rfl (os rfl (os rfl (os rfl (os rfl oz)))))))), lg (os rfl (os rfl (os rfl (os rfl (os rfl (os rfl (os rfl (os rfl (os rfl oz))))))))), lg (os rfl (os rfl (os rfl (os rfl (os rfl (os rfl (os rfl (os rfl (os rfl (os rfl oz)))))))))), trivial⟩ ?_
                refine aw_region (by decide) ?_
                refine rts _ rfl (opD_move (os rfl (os rfl (os rfl (os rfl (os rfl (os rfl (os rfl (os rfl oz))))))))) ?_
                refine rts _ rfl (opD_add lz (ev_const _ _) (by first | exact IntWalk.i64_in _ (by omega) | exact rfl)) ?_
                refine rts _ rfl (opD_assign lz) ?_
                refine .nil ?_
                refine cut_yes (l := [(1, _), (8, _), (9, _), (10, _)]) ⟨lg (ls rfl (ls rfl (ls rfl (os rfl (os rfl (os rfl (os rfl (os rfl oz)))))))), lg (ls rfl (ls rfl (ls rfl (os rfl (os rfl (os rfl (os rfl (os rfl (os rfl oz))))))))), lg (ls rfl (ls rfl (ls rfl (os rfl (os rfl (os rfl (os rfl (os rfl (os rfl (os rfl oz)))))))))), lg lz, trivial⟩ (by repeat (first | exact bnd_nil | refine bnd_cons (by first | exact pl_bnd _ _ _ | exact sl_bnd (kI_bnd _ _ _ _) | exact sl_bnd (kP2_bnd _ _ _ _) | exact ptr_bnd _ (by omega) | exact any_bnd _ _) ?_)) (Nat.le_of_ble_eq_true rfl) (Nat.le_of_ble_eq_true rfl) (by simp only [List.nil_append, List.cons_append, List.map_cons, List.map_nil, List.set_cons_zero, List.set_cons_succ, List.take_succ_cons, List.take_zero, List.drop_succ_cons, List.drop_zero]; rfl) (by simp only [List.nil_append, List.cons_append, List.map_cons, List.map_nil, List.set_cons_zero, List.set_cons_succ, List.take_succ_cons, List.take_zero, List.drop_succ_cons, List.drop_zero]; rfl) (by repeat (first | exact bl_nil | refine bl_cons (by repeat (first | exact bnd_nil | refine bnd_cons (by first | exact pl_bnd _ _ _ | exact sl_bnd (kI_bnd _ _ _ _) | exact sl_bnd (kP2_bnd _ _ _ _) | exact ptr_bnd _ (by omega) | exact any_bnd _ _) ?_)) ?_)) ?_
                exact ⟨n - 1, by omega, i + 1, l3, b3, ⟨le_of_eq (eg oz), le_of_eq (eg (os rfl oz)), le_of_eq (eg (os rfl (os rfl oz))), le_of_eq (eg (os rfl (os rfl (os rfl oz)))), trivial⟩, rfl, by omega, hJ.1⟩
            · skip
              refine aw_skip ?_
              refine aw_keep [(162, _), (17, _), (1, _), (8, _), (9, _), (10, _), (11, _), (12, _), (13, _), (14, _)] ⟨lg oz, lg (os rfl oz), lg (os rfl (os rfl oz)), lg (os rfl (os rfl (os rfl oz))), lg (os rfl (os rfl (os rfl (os rfl oz)))), lg (os rfl (os rfl (os rfl (os rfl (os rfl oz))))), lg (os rfl (os rfl (os rfl (os rfl (os rfl (os rfl oz)))))), lg (os rfl (os rfl (os rfl (os rfl (os rfl (os rfl (os rfl oz))))))), lg (os rfl (os rfl (os rfl (os rfl (os rfl (os rfl (os rfl (os rfl oz)))))))), lg (os rfl (os rfl (os rfl (os rfl (os rfl (os rfl (os rfl (os rfl (os rfl oz))))))))), trivial⟩ ?_
              refine aw_seq ?_
              refine aw_flat mixed (by decide +kernel) ?_
              refine zts _ rfl (opD_move (os rfl (os rfl (os rfl (os rfl (os rfl (os rfl oz))))))) ?_
              refine zts _ rfl (opD_move (ls rfl (os rfl (os rfl (os rfl (os rfl (os rfl (os rfl (os rfl oz))))))))) ?_
              refine zts _ rfl (opD_neq (ls rfl lz) lz) ?_
              refine zts _ rfl (opD_move lz) ?_
              refine ztg _ rfl lz (fun hg27_4 => by
                  have hg27_4' := hg27_4
                  try simp only [beq_iff_eq, decide_eq_true_eq, decide_eq_false_iff_not, Bool.and_eq_true, Bool.or_eq_true, Bool.or_eq_false_iff, Bool.and_eq_false_iff] at hg27_4'
                  exact opD_move (ls rfl (ls rfl (ls rfl (ls rfl (os rfl (os rfl (os rfl (os rfl (os rfl (os rfl (os rfl (os rfl oz))))))))))))) ?_
              refine ztg _ rfl (ls rfl lz) (fun hg27_5 => by
                  have hg27_5' := hg27_5
                  try simp only [beq_iff_eq, decide_eq_true_eq, decide_eq_false_iff_not, Bool.and_eq_true, Bool.or_eq_true, Bool.or_eq_false_iff, Bool.and_eq_false_iff] at hg27_5'
                  exact opD_bytes_str Go.Proofs.Tryd.underlying23 Go.Proofs.Tryd.underlying5 Go.Proofs.Tryd.underlying9 (lz.trans (pif_pos hg27_5))) ?_
              refine ztg _ rfl (ls rfl (ls rfl lz)) (fun hg27_6 => by
                  have hg27_6' := hg27_6
                  try simp only [beq_iff_eq, decide_eq_true_eq, decide_eq_false_iff_not, Bool.and_eq_true, Bool.or_eq_true, Bool.or_eq_false_iff, Bool.and_eq_false_iff] at hg27_6'
                  exact opD_move (ls rfl (ls rfl (ls rfl (ls rfl (ls rfl (ls rfl (os rfl (os rfl (os rfl (os rfl (os rfl (os rfl (os rfl (os rfl (os rfl oz)))))))))))))))) ?_
              refine ztg _ rfl (ls rfl (ls rfl (ls rfl lz))) (fun hg27_7 => by
                  have hg27_7' := hg27_7
                  try simp only [beq_iff_eq, decide_eq_true_eq, decide_eq_false_iff_not, Bool.and_eq_true, Bool.or_eq_true, Bool.or_eq_false_iff, Bool.and_eq_false_iff] at hg27_7'
                  exact opD_bytes_str Go.Proofs.Tryd.underlying23 Go.Proofs.Tryd.underlying5 Go.Proofs.Tryd.underlying9 (lz.trans (pif_pos hg27_7))) ?_
              refine ztg _ rfl (ls rfl (ls rfl (ls rfl (ls rfl lz)))) (fun hg27_8 => by
                  have hg27_8' := hg27_8
                  try simp only [beq_iff_eq, decide_eq_true_eq, decide_eq_false_iff_not, Bool.and_eq_true, Bool.or_eq_true, Bool.or_eq_false_iff, Bool.and_eq_false_iff] at hg27_8'
                  exact opD_sneq ((ls rfl (ls rfl lz)).trans (pif_pos hg27_8)) (lz.trans (pif_pos hg27_8))) ?_
              refine zts _ rfl (opD_or (ls rfl (ls rfl (ls rfl (ls rfl (ls rfl lz))))) lz) ?_
              refine zts _ rfl (opD_move lz) ?_
              refine ztg _ rfl lz (fun hg27_11 => by
                  have hg27_11' := hg27_11
                  try simp only [beq_iff_eq, decide_eq_true_eq, decide_eq_false_iff_not, Bool.and_eq_true, Bool.or_eq_true, Bool.or_eq_false_iff, Bool.and_eq_false_iff] at hg27_11'
                  exact opD_move (ls rfl (ls rfl (ls rfl (ls rfl (ls rfl (ls rfl (ls rfl (ls rfl (ls rfl (ls rfl (ls rfl (os rfl (os rfl (os rfl oz))))))))))))))) ?_
              refine ztg _ rfl (ls rfl lz) (fun hg27_12 => by
                  have hg27_12' := hg27_12
                  try simp only [beq_iff_eq, decide_eq_true_eq, decide_eq_false_iff_not, Bool.and_eq_true, Bool.or_eq_true, Bool.or_eq_false_iff, Bool.and_eq_false_iff] at hg27_12'
                  exact opD_call ht28 (rd_left (loc_get (i := 0) rfl)) ⟨le_of_eq (lz.trans (pif_pos hg27_12)), trivial⟩) ?_
              refine ztg _ rfl (ls rfl (ls rfl lz)) (fun hg27_13 => by
                  have hg27_13' := hg27_13
                  try simp only [beq_iff_eq, decide_eq_true_eq, decide_eq_false_iff_not, Bool.and_eq_true, Bool.or_eq_true, Bool.or_eq_false_iff, Bool.and_eq_false_iff] at hg27_13'
                  exact (by first | exact opD_fieldAddr fo41_0 (ls rfl (ls rfl (ls rfl (ls rfl (ls rfl (ls rfl (ls rfl (ls rfl (ls rfl (ls rfl (ls rfl (ls rfl (ls rfl (os rfl (os rfl (os rfl (os rfl oz))))))))))))))))) | exact opD_fieldAddr_el fo41_0 (ls rfl (ls rfl (ls rfl (ls rfl (ls rfl (ls rfl (ls rfl (ls rfl (ls rfl (ls rfl (ls rfl (ls rfl (ls rfl (os rfl (os rfl (os rfl (os rfl oz))))))))))))))))))) ?_
              refine ztg _ rfl (ls rfl (ls rfl (ls rfl lz))) (fun hg27_14 => by
                  have hg27_14' := hg27_14
                  try simp only [beq_iff_eq, decide_eq_true_eq, decide_eq_false_iff_not, Bool.and_eq_true, Bool.or_eq_true, Bool.or_eq_false_iff, Bool.and_eq_false_iff] at hg27_14'
                  exact (by first | exact opD_load_one ag23 (lz.trans (pif_pos hg27_14)) (by first | exact loc_get rfl | exact old_get (by assumption) | exact hB) rfl | exact opD_load_el_one ag23 (lz.trans (pif_pos hg27_14)) (by first | assumption | simp) rfl)) ?_
              refine ztg _ rfl (ls rfl (ls rfl (ls rfl (ls rfl lz)))) (fun hg27_15 => by
                  have hg27_15' := hg27_15
                  try simp only [beq_iff_eq, decide_eq_true_eq, decide_eq_false_iff_not, Bool.and_eq_true, Bool.or_eq_true, Bool.or_eq_false_iff, Bool.and_eq_false_iff] at hg27_15'
                  exact opD_len_sl Go.Proofs.Tryd.underlying23 (lz.trans (pif_pos hg27_15))) ?_
              refine ztg _ rfl (ls rfl (ls rfl (ls rfl (ls rfl (ls rfl lz))))) (fun hg27_16 => by
                  have hg27_16' := hg27_16
                  try simp only [beq_iff_eq, decide_eq_true_eq, decide_eq_false_iff_not, Bool.and_eq_true, Bool.or_eq_true, Bool.or_eq_false_iff, Bool.and_eq_false_iff] at hg27_16'
                  exact opD_neq ((ls rfl (ls rfl (ls rfl lz))).trans (pif_pos hg27_16)) (lz.trans (pif_pos hg27_16))) ?_
              refine zts _ rfl (opD_or (ls rfl (ls rfl (ls rfl (ls rfl (ls rfl (ls rfl lz)))))) lz) ?_
              refine zts _ rfl (opD_move lz) ?_
              refine ztg _ rfl lz (fun hg27_19 => by
                  have hg27_19' := hg27_19
                  try simp only [beq_iff_eq, decide_eq_true_eq, decide_eq_false_iff_not, Bool.and_eq_true, Bool.or_eq_true, Bool.or_eq_false_iff, Bool.and_eq_false_iff] at hg27_19'
                  exact opD_move (ls rfl (ls rfl (ls rfl (ls rfl (ls rfl (ls rfl (ls rfl (ls rfl (ls rfl (ls rfl (ls rfl (ls rfl (ls rfl (ls rfl (ls rfl (ls rfl (ls rfl (ls rfl (ls rfl (os rfl oz))))))))))))))))))))) ?_
              refine ztg _ rfl (ls rfl lz) (fun hg27_20 => by
                  have hg27_20' := hg27_20
                  try simp only [beq_iff_eq, decide_eq_true_eq, decide_eq_false_iff_not, Bool.and_eq_true, Bool.or_eq_true, Bool.or_eq_false_iff, Bool.and_eq_false_iff] at hg27_20'
                  exact opD_bin (lz.trans (pif_pos hg27_20)) (ev_const _ _) (fun w => errV_geql _ w _) (fun w => errV_eql _ w)) ?_
              refine ztg _ rfl (ls rfl (ls rfl lz)) (fun hg27_21 => by
                  have hg27_21' := hg27_21
                  try simp only [beq_iff_eq, decide_eq_true_eq, decide_eq_false_iff_not, Bool.and_eq_true, Bool.or_eq_true, Bool.or_eq_false_iff, Bool.and_eq_false_iff] at hg27_21'
                  exact (by first | exact opD_load_agg ag41 sz41 (ls rfl (ls rfl (ls rfl (ls rfl (ls rfl (ls rfl (ls rfl (ls rfl (ls rfl (ls rfl (ls rfl (ls rfl (ls rfl (ls rfl (ls rfl (ls rfl (ls rfl (ls rfl (ls rfl (ls rfl (ls rfl (os rfl (os rfl (os rfl (os rfl oz))))))))))))))))))))))))) (by first | exact loc_get rfl | exact old_get (by assumption) | exact hB) (by simp) | exact opD_load_el_agg ag41 sz41 (ls rfl (ls rfl (ls rfl (ls rfl (ls rfl (ls rfl (ls rfl (ls rfl (ls rfl (ls rfl (ls rfl (ls rfl (ls rfl (ls rfl (ls rfl (ls rfl (ls rfl (ls rfl (ls rfl (ls rfl (ls rfl (os rfl (os rfl (os rfl (os rfl oz))))))))))))))))))))))))) (by first | assumption | simp) (by decide))) ?_
              refine ztg _ rfl (ls rfl (ls rfl (ls rfl lz))) (fun hg27_22 => by
                  have hg27_22' := hg27_22
                  try simp only [beq_iff_eq, decide_eq_true_eq, decide_eq_false_iff_not, Bool.and_eq_true, Bool.or_eq_true, Bool.or_eq_false_iff, Bool.and_eq_false_iff] at hg27_22'
                  exact opD_pure ht34 (ref_done) ⟨le_of_eq (lz.trans (pif_pos hg27_22)), trivial⟩) ?_
              refine ztg _ rfl (ls rfl (ls rfl (ls rfl (ls rfl lz)))) (fun hg27_23 => by
                  have hg27_23' := hg27_23
                  try simp only [beq_iff_eq, decide_eq_true_eq, decide_eq_false_iff_not, Bool.and_eq_true, Bool.or_eq_true, Bool.or_eq_false_iff, Bool.and_eq_false_iff] at hg27_23'
                  exact opD_bneq Go.Proofs.Tryd.underlying4 ((ls rfl (ls rfl lz)).trans (pif_pos hg27_23)) (lz.trans (pif_pos hg27_23))) ?_
              refine zts _ rfl (opD_or (ls rfl (ls rfl (ls rfl (ls rfl (ls rfl lz))))) lz) ?_
              refine zts _ rfl (opD_move lz) ?_
              refine ztg _ rfl lz (fun hg27_26 => by
                  have hg27_26' := hg27_26
                  try simp only [beq_iff_eq, decide_eq_true_eq, decide_eq_false_iff_not, Bool.and_eq_true, Bool.or_eq_true, Bool.or_eq_false_iff, Bool.and_eq_false_iff] at hg27_26'
                  exact opD_move (ls rfl (ls rfl (ls rfl (ls rfl (ls rfl (ls rfl (ls rfl (ls rfl (ls rfl (ls rfl (ls rfl (ls rfl (ls rfl (ls rfl (ls rfl (ls rfl (ls rfl (ls rfl (ls rfl (ls rfl (ls rfl (ls rfl (ls rfl (ls rfl (ls rfl (ls rfl (os rfl oz)))))))))))))))))))))))))))) ?_
              refine ztg _ rfl (ls rfl lz) (fun hg27_27 => by
                  have hg27_27' := hg27_27
                  try simp only [beq_iff_eq, decide_eq_true_eq, decide_eq_false_iff_not, Bool.and_eq_true, Bool.or_eq_true, Bool.or_eq_false_iff, Bool.and_eq_false_iff] at hg27_27'
                  exact opD_bin (lz.trans (pif_pos hg27_27)) (ev_const _ _) (fun w => errV_guard _ w _) (fun w => errV_beq _ w)) ?_
              refine ztg _ rfl (ls rfl (ls rfl lz)) (fun hg27_28 => by
                  have hg27_28' := hg27_28
                  try simp only [beq_iff_eq, decide_eq_true_eq, decide_eq_false_iff_not, Bool.and_eq_true, Bool.or_eq_true, Bool.or_eq_false_iff, Bool.and_eq_false_iff] at hg27_28'
                  exact opD_move (lz.trans (pif_pos hg27_28))) ?_
              refine ztg2 _ rfl lz (fun hg27_29 => by
                  have hg27_29' := hg27_29
                  try simp only [beq_iff_eq, decide_eq_true_eq, decide_eq_false_iff_not, Bool.and_eq_true, Bool.or_eq_true, Bool.or_eq_false_iff, Bool.and_eq_false_iff] at hg27_29'
                  exact opD_move (ls rfl (ls rfl (ls rfl (ls rfl (ls rfl (ls rfl (ls rfl (ls rfl (ls rfl (ls rfl (ls rfl (ls rfl (ls rfl (ls rfl (ls rfl (ls rfl (ls rfl (ls rfl (ls rfl (ls rfl (ls rfl (ls rfl (ls rfl (ls rfl (ls rfl (ls rfl (ls rfl (ls rfl (ls rfl (os rfl oz))))))))))))))))))))))))))))))) ?_
              refine ztg2 _ rfl (ls rfl lz) (fun hg27_30 => by
                  have hg27_30' := hg27_30
                  try simp only [beq_iff_eq, decide_eq_true_eq, decide_eq_false_iff_not, Bool.and_eq_true, Bool.or_eq_true, Bool.or_eq_false_iff, Bool.and_eq_false_iff] at hg27_30'
                  exact opD_call ht27 (num06 hst) ⟨le_of_eq (lz.trans (pif_pos hg27_30)), trivial⟩) ?_
              refine ztg2 _ rfl (ls rfl (ls rfl lz)) (fun hg27_31 => by
                  have hg27_31' := hg27_31
                  try simp only [beq_iff_eq, decide_eq_true_eq, decide_eq_false_iff_not, Bool.and_eq_true, Bool.or_eq_true, Bool.or_eq_false_iff, Bool.and_eq_false_iff] at hg27_31'
                  exact opD_neq (lz.trans (pif_pos hg27_31)) (ev_const _ _)) ?_
              refine ztg _ rfl (ls rfl (ls rfl (ls rfl (ls rfl (ls rfl (ls rfl lz)))))) (fun hg27_32 => by
                  have hg27_32' := hg27_32
                  try simp only [beq_iff_eq, decide_eq_true_eq, decide_eq_false_iff_not, Bool.and_eq_true, Bool.or_eq_true, Bool.or_eq_false_iff, Bool.and_eq_false_iff] at hg27_32'
                  exact opD_and ((ls rfl (ls rfl (ls rfl lz))).trans (pif_pos hg27_32)) (lz.trans (pif_and hg27_32))) ?_
              refine zts _ rfl (opD_or (ls rfl (ls rfl (ls rfl (ls rfl (ls rfl (ls rfl (ls rfl lz))))))) lz) ?_
              refine .nil ?_
              refine aw_keep [(196, _), (162, _), (17, _), (1, _), (8, _), (9, _), (10, _), (11, _), (12, _), (13, _), (14, _)] ⟨lg lz, lg (ls rfl (ls rfl (ls rfl (ls rfl (ls rfl (ls rfl (ls rfl (ls rfl (ls rfl (ls rfl (ls rfl (ls rfl (ls rfl (ls rfl (ls rfl (ls rfl (ls rfl (ls rfl (ls rfl (ls rfl (ls rfl (ls rfl (ls rfl (ls rfl (ls rfl (ls rfl (ls rfl (ls rfl (ls rfl (ls rfl (ls rfl (ls rfl (ls rfl (ls rfl oz)))))))))))))))))))))))))))))))))), lg (ls rfl (ls rfl (ls rfl (ls rfl (ls rfl (ls rfl (ls rfl (ls rfl (ls rfl (ls rfl (ls rfl (ls rfl (ls rfl (ls rfl (ls rfl (ls rfl (ls rfl (ls rfl (ls rfl (ls rfl (ls rfl (ls rfl (ls rfl (ls rfl (ls rfl (ls rfl (ls rfl (ls rfl (ls rfl (ls rfl (ls rfl (ls rfl (ls rfl (ls rfl (os rfl oz))))))))))))))))))))))))))))))))))), lg (ls rfl (ls rfl (ls rfl (ls rfl (ls rfl (ls rfl (ls rfl (ls rfl (ls rfl (ls rfl (ls rfl (ls rfl (ls rfl (ls rfl (ls rfl (ls rfl (ls rfl (ls rfl (ls rfl (ls rfl (ls rfl (ls rfl (ls rfl (ls rfl (ls rfl (ls rfl (ls rfl (ls rfl (ls rfl (ls rfl (ls rfl (ls rfl (ls rfl (ls rfl (os rfl (os rfl oz)))))))))))))))))))))))))))))))))))), lg (ls rfl (ls rfl (ls rfl (ls rfl (ls rfl (ls rfl (ls rfl (ls rfl (ls rfl (ls rfl (ls rfl (ls rfl (ls rfl (ls rfl (ls rfl (ls rfl (ls rfl (ls rfl (ls rfl (ls rfl (ls rfl (ls rfl (ls rfl (ls rfl (ls rfl (ls rfl (ls rfl (ls rfl (ls rfl (ls rfl (ls rfl (ls rfl (ls rfl (ls rfl (os rfl (os rfl (os rfl oz))))))))))))))))))))))))))))))))))))), lg (ls rfl (ls rfl (ls rfl (ls rfl (ls rfl (ls rfl (ls rfl (ls rfl (ls rfl (ls rfl (ls rfl (ls rfl (ls rfl (ls rfl (ls rfl (ls rfl (ls rfl (ls rfl (ls rfl (ls rfl (ls rfl (ls rfl (ls rfl (ls rfl (ls rfl (ls rfl (ls rfl (ls rfl (ls rfl (ls rfl (ls rfl (ls rfl (ls rfl (ls rfl (os rfl (os rfl (os rfl (os rfl oz)))))))))))))))))))))))))))))))))))))), lg (ls rfl (ls rfl (ls rfl (ls rfl (ls rfl (ls rfl (ls rfl (ls rfl (ls rfl (ls rfl (ls rfl (ls rfl (ls rfl (ls rfl (ls rfl (ls rfl (ls rfl (ls rfl (ls rfl (ls rfl (ls rfl (ls rfl (ls rfl (ls rfl (ls rfl (ls rfl (ls rfl (ls rfl (ls rfl (ls rfl (ls rfl (ls rfl (ls rfl (ls rfl (os rfl (os rfl (os rfl (os rfl (os rfl oz))))))))))))))))))))))))))))))))))))))), lg (ls rfl (ls rfl (ls rfl (ls rfl (ls rfl (ls rfl (ls rfl (ls rfl (ls rfl (ls rfl (ls rfl (ls rfl (ls rfl (ls rfl (ls rfl (ls rfl (ls rfl (ls rfl (ls rfl (ls rfl (ls rfl (ls rfl (ls rfl (ls rfl (ls rfl (ls rfl (ls rfl (ls rfl (ls rfl (ls rfl (ls rfl (ls rfl (ls rfl (ls rfl (os rfl (os rfl (os rfl (os rfl (os rfl (os rfl oz)))))))))))))))))))))))))))))))))))))))), lg (ls rfl (ls rfl (ls rfl (ls rfl (ls rfl (ls rfl (ls rfl (ls rfl (ls rfl (ls rfl (ls rfl (ls rfl (ls rfl (ls rfl (ls rfl (ls rfl (ls rfl (ls rfl (ls rfl (ls rfl (ls rfl (ls rfl (ls rfl (ls rfl (ls rfl (ls rfl (ls rfl (ls rfl (ls rfl (ls rfl (ls rfl (ls rfl (ls rfl (ls rfl (os rfl (os rfl (os rfl (os rfl (os rfl (os rfl (os rfl oz))))))))))))))))))))))))))))))))))))))))), lg (ls rfl (ls rfl (ls rfl (ls rfl (ls rfl (ls rfl (ls rfl (ls rfl (ls rfl (ls rfl (ls rfl (ls rfl (ls rfl (ls rfl (ls rfl (ls rfl (ls rfl (ls rfl (ls rfl (ls rfl (ls rfl (ls rfl (ls rfl (ls rfl (ls rfl (ls rfl (ls rfl (ls rfl (ls rfl (ls rfl (ls rfl (ls rfl (ls rfl (ls rfl (os rfl (os rfl (os rfl (os rfl (os rfl (os rfl (os rfl (os rfl oz)))))))))))))))))))))))))))))))))))))))))), lg (ls rfl (ls rfl (ls rfl (ls rfl (ls rfl (ls rfl (ls rfl (ls rfl (ls rfl (ls rfl (ls rfl (ls rfl (ls rfl (ls rfl (ls rfl (ls rfl (ls rfl (ls rfl (ls rfl (ls rfl (ls rfl (ls rfl (ls rfl (ls rfl (ls rfl (ls rfl (ls rfl (ls rfl (ls rfl (ls rfl (ls rfl (ls rfl (ls rfl (ls rfl (os rfl (os rfl (os rfl (os rfl (os rfl (os rfl (os rfl (os rfl (os rfl oz))))))))))))))))))))))))))))))))))))))))))), trivial⟩ ?_
              refine aw_cond _ oz (fun hc => ?_) (fun hc => ?_)
              · skip
                exfalso; revert hc; simp only [(pt_end _ _).1, (pt_end _ _).2]; simp
              · skip
                refine aw_skip ?_
                refine aw_keep [(196, _), (162, _), (17, _), (1, _), (8, _), (9, _), (10, _), (11, _), (12, _), (13, _), (14, _)] ⟨lg oz, lg (os rfl oz), lg (os rfl (os rfl oz)), lg (os rfl (os rfl (os rfl oz))), lg (os rfl (os rfl (os rfl (os rfl oz)))), lg (os rfl (os rfl (os rfl (os rfl (os rfl oz))))), lg (os rfl (os rfl (os rfl (os rfl (os rfl (os rfl oz)))))), lg (os rfl (os rfl (os rfl (os rfl (os rfl (os rfl (os rfl oz))))))), lg (os rfl (os rfl (os rfl (os rfl (os rfl (os rfl (os rfl (os rfl oz)))))))), lg (os rfl (os rfl (os rfl (os rfl (os rfl (os rfl (os rfl (os rfl (os rfl oz))))))))), lg (os rfl (os rfl (os rfl (os rfl (os rfl (os rfl (os rfl (os rfl (os rfl (os rfl oz)))))))))), trivial⟩ ?_
                refine aw_region (by decide) ?_
                refine rts _ rfl (opD_move (os rfl (os rfl (os rfl (os rfl (os rfl (os rfl oz))))))) ?_
                refine rts _ rfl (opD_add lz (ev_const _ _) (by first | exact IntWalk.i64_in _ (by omega) | exact rfl)) ?_
                refine rts _ rfl (opD_assign lz) ?_
                refine .nil ?_
                refine cut_yes (l := [(1, _), (8, _), (9, _), (10, _)]) ⟨lg (ls rfl (ls rfl (ls rfl (os rfl (os rfl (os rfl oz)))))), lg (ls rfl (ls rfl (ls rfl (os rfl (os rfl (os rfl (os rfl oz))))))), lg (ls rfl (ls rfl (ls rfl (os rfl (os rfl (os rfl (os rfl (os rfl oz)))))))), lg lz, trivial⟩ (by repeat (first | exact bnd_nil | refine bnd_cons (by first | exact pl_bnd _ _ _ | exact sl_bnd (kI_bnd _ _ _ _) | exact sl_bnd (kP2_bnd _ _ _ _) | exact ptr_bnd _ (by omega) | exact any_bnd _ _) ?_)) (Nat.le_of_ble_eq_true rfl) (Nat.le_of_ble_eq_true rfl) (by simp only [List.nil_append, List.cons_append, List.map_cons, List.map_nil, List.set_cons_zero, List.set_cons_succ, List.take_succ_cons, List.take_zero, List.drop_succ_cons, List.drop_zero]; rfl) (by simp only [List.nil_append, List.cons_append, List.map_cons, List.map_nil, List.set_cons_zero, List.set_cons_succ, List.take_succ_cons, List.take_zero, List.drop_succ_cons, List.drop_zero]; rfl) (by repeat (first | exact bl_nil | refine bl_cons (by repeat (first | exact bnd_nil | refine bnd_cons (by first | exact pl_bnd _ _ _ | exact sl_bnd (kI_bnd _ _ _ _) | exact sl_bnd (kP2_bnd _ _ _ _) | exact ptr_bnd _ (by omega) | exact any_bnd _ _) ?_)) ?_)) ?_
                exact ⟨n - 1, by omega, i + 1, l3, b3, ⟨le_of_eq (eg oz), le_of_eq (eg (os rfl oz)), le_of_eq (eg (os rfl (os rfl oz))), le_of_eq (eg (os rfl (os rfl (os rfl oz)))), trivial⟩, rfl, by omega, hJ.1⟩
        · skip
          refine aw_exit ?_
          refine cut_no ?_
          refine aw_keep [(97, _), (1, _), (8, _), (9, _), (10, _)] ⟨lg oz, lg (os rfl oz), lg (os rfl (os rfl oz)), lg (os rfl (os rfl (os rfl oz))), lg (os rfl (os rfl (os rfl (os rfl oz)))), trivial⟩ ?_
          refine aw_seq ?_
          refine aw_region (by decide) ?_
          refine rts _ rfl (opD_call ht18 (sure06 hst) trivial) ?_
          refine rts _ rfl (opD_assign lz) ?_
          refine .nil ?_
          refine aw_keep [(6, _), (97, _), (1, _), (8, _), (9, _), (10, _)] ⟨lg lz, lg (ls rfl (ls rfl oz)), lg (ls rfl (ls rfl (os rfl oz))), lg (ls rfl (ls rfl (os rfl (os rfl oz)))), lg (ls rfl (ls rfl (os rfl (os rfl (os rfl oz))))), lg (ls rfl (ls rfl (os rfl (os rfl (os rfl (os rfl oz)))))), trivial⟩ ?_
          refine aw_ret ?_
          exact done_ext (.inr rfl) (res_1 rfl (eg oz)) (pl_bnd _ _ _)
end Go.Proofs.YtmnhfpcbfdgbcaaDoor.Eng.Pt

