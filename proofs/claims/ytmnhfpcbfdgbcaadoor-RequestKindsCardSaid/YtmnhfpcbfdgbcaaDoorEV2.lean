/- Requests, in plain Lean: the law RequestBack. -/
import Derived.Test.YtmnhfpcbfdgbcaaDoorEV1
import Derived.Test.YtmnhfpcbfdgbcaaDoorEU5
namespace Go.Proofs.YtmnhfpcbfdgbcaaDoor.Eng.A
set_option linter.unusedVariables false
set_option linter.unusedSimpArgs false
open Go.RowKit Go.Proofs.YtmnhfpcbfdgbcaaDoor.Plain Go.Proofs.YtmnhfpcbfdgbcaaDoor.Eng Go.Proofs.YtmnhfpcbfdgbcaaDoor.Eng.Pk Go.Proofs.YtmnhfpcbfdgbcaaDoor.Eng.Rd Go.Proofs.YtmnhfpcbfdgbcaaDoor.Eng.Er

theorem rq_dec (a b : Rq) : (decide (a.Kind = b.Kind) && (decide (a.Space = b.Space) && (decide (a.Handle = b.Handle) && (decide (a.Ref.Slot = b.Ref.Slot) && (decide (a.Ref.Gen = b.Ref.Gen) && (decide (a.To = b.To) && (decide (a.Key = b.Key) && (decide (a.Value = b.Value) && (decide (a.Rights = b.Rights) && (decide (a.Most = b.Most) && (decide (a.Flag = b.Flag) && true))))))))))) = decide (a = b) := by
  by_cases h : a = b
  · subst h; rw [rq_self]; simp
  · rw [decide_eq_false h]
    generalize hd : (decide (a.Kind = b.Kind) && _) = d
    cases d with
    | false => rfl
    | true => exact absurd (rq_ext hd) h
theorem rd_rest {q : Rq} (hq : RqOk q) (hm : MayQ q) (t : List Int) : (bytesOf (formS q.Kind)).foldl takeL (rdr (rdByte (encQ q ++ t) false).2, q0 (rdByte (encQ q ++ t) false).1) = (⟨t, false⟩, q) := by
  unfold encQ
  simp only [List.cons_append, rdByte, List.headD_cons, List.tail_cons, List.isEmpty_cons, Bool.or_false, rdr]
  exact fold_enc hq hm t
/-- Bytes of a request, and whose. -/
def IsQ (b : List Int) (q : Rq) : Prop := RqOk q ∧ MayQ q ∧ encQ q = b
theorem q_cut {q q' : Rq} {t : List Int} (h : RqOk q) (m : MayQ q) (h' : RqOk q') (m' : MayQ q') (e : encQ q' = encQ q ++ t) : t = [] := by
  have a := rd_rest h m t
  have b := rd_rest h' m' []
  rw [List.append_nil, e] at b
  have hk : q'.Kind = q.Kind := by
    have := congrArg (·.headD 0) e
    simpa [encQ] using this
  rw [hk, a] at b
  simp only [Prod.mk.injEq, Rdr.mk.injEq] at b
  exact b.1.1
theorem decQ_rd {b : List Int} {q : Rq} (hb : Bts b) (hl : b.length ≤ 10000000) (h : decQ b = some q) : IsQ b q := by
  unfold decQ at h
  split at h
  · rename_i g
    cases h
    exact ⟨rdQ_ok hb hl, mayQ_iff.1 g.1, g.2.2⟩
  · cases h
theorem encQ_inj {q q' : Rq} (h : RqOk q) (m : MayQ q) (h' : RqOk q') (m' : MayQ q') : encQ q = encQ q' ↔ q = q' := by
  constructor
  · intro e
    have a := rd_enc h m
    rw [e, rd_enc h' m'] at a
    simp only [Prod.mk.injEq, and_true] at a
    exact a.symm
  · intro e; rw [e]
theorem decR_no {b : List Int} (hb : Bts b) (hl : b.length ≤ 10000000) (h : ∀ q, ¬ IsQ b q) : decR b = (q0 0, some 3) := by
  unfold decR
  cases hd : decQ b with
  | none => rfl
  | some q => exact absurd (decQ_rd hb hl hd) (h q)
theorem qBack_eq {p0 p1 : Rq} {k : Int} (h0 : RqOk { p0 with Key := ⟨#[]⟩, Value := ⟨#[]⟩ }) (h1 : RqOk { p1 with Key := ⟨#[]⟩, Value := ⟨#[]⟩ }) (hk : 0 ≤ k ∧ k < 65536) {fl : Nat} (hf : 6 < fl) : F_qBack fl p0 p1 k = some true := by
  have hs := sure35_eq hf
  unfold F_qBack
  simp only [F_qgive, bnd_s, hs]
  generalize hD : ((((decide (100 < (p0.Key.size : Int))) || (decide (3000 < (p0.Value.size : Int)))) || (decide (100 < (p1.Key.size : Int)))) || (decide (3000 < (p1.Value.size : Int)))) = D
  cases D with
  | true => rfl
  | false =>
    simp only [Bool.or_eq_false_iff, decide_eq_false_iff_not] at hD
    obtain ⟨⟨⟨k1, k2⟩, k3⟩, k4⟩ := hD
    have ok0 : RqOk p0 := ⟨h0.kind, h0.space, h0.handle, h0.slot, h0.gen, h0.to, by omega, by omega, h0.rights, h0.most⟩
    have ok1 : RqOk p1 := ⟨h1.kind, h1.space, h1.handle, h1.slot, h1.gen, h1.to, by omega, by omega, h1.rights, h1.most⟩
    rw [ifb_0, qenc_eq ok0 hf, bnd_s, qenc_eq ok1 hf, bnd_s, qcheck_eq ok0 hf, bnd_s]
    by_cases m : MayQ p0
    · rw [mayQ_iff.2 m, if_pos rfl]
      dsimp only
      simp only [Option.isSome_none, ifb_0, rq_dec]
      have hE := encQ_bts ok0
      have hlen := encQ_len ok0
      have hpos : 0 < (encQ p0).length := by simp [encQ]
      rw [qdec_eq hE (by omega) hf, bnd_s]
      have hd0 : decR (encQ p0) = (p0, none) := by unfold decR; rw [decQ_some ok0 m rfl]
      rw [hd0]
      dsimp only
      generalize hM : (if ((encQ p0).length : Int) > 1 then ((encQ p0).length : Int) else 1) = M
      have hMv : M = ((encQ p0).length : Int) := by rw [← hM]; split <;> omega
      have ht : 0 ≤ (IntKind.i64.wrap k).tmod M ∧ (IntKind.i64.wrap k).tmod M < M := by
        rw [wrap_i64 (by omega)]
        exact ⟨Int.tmod_nonneg _ hk.1, Int.tmod_lt_of_pos _ (by omega)⟩
      generalize (IntKind.i64.wrap k).tmod M = T at ht ⊢
      have hb1 : Bts ((encQ p0).take T.toNat) := fun x hx => hE x (List.mem_of_mem_take hx)
      have hb2 : Bts (encQ p0 ++ [0]) := Bts.app hE (Bts.one (by decide) (by decide))
      have hcut : decR ((encQ p0).take T.toNat) = (q0 0, some 3) := decR_no hb1 (by rw [List.length_take]; omega) fun q ⟨o, mq, e⟩ => by
        have := q_cut (t := (encQ p0).drop T.toNat) o mq ok0 m (by rw [e, List.take_append_drop])
        have := congrArg List.length this
        rw [List.length_drop] at this
        simp at this
        omega
      have hext : decR (encQ p0 ++ [0]) = (q0 0, some 3) := decR_no hb2 (by rw [List.length_append]; simp; omega) fun q ⟨o, mq, e⟩ => by
        have := q_cut (t := [0]) ok0 m o mq e
        simp at this
      rw [grd_t (by omega), grd_t ⟨by omega, by omega⟩, qdec_eq hb1 (by rw [List.length_take]; omega) hf, bnd_s, hcut, grd_t (by unfold Fits; simp; omega), grd_t (by unfold Fits; simp; omega), qdec_eq hb2 (by rw [List.length_append]; simp; omega) hf, bnd_s, hext]
      by_cases m1 : MayQ p1
      · rw [mayQ_iff.2 m1, if_pos rfl]
        have : decide (strOf (encQ p0) = strOf (encQ p1)) = decide (p0 = p1) := by
          rw [decide_eq_decide, str_eq hE (encQ_bts ok1), encQ_inj ok0 m ok1 m1]
        simp only [this]
        simp [oNumE, numV, gif_s]
      · rw [mayQ_f m1]
        simp [oNumE, numV, gif_s]
    · rw [mayQ_f m]
      simp [gif_s]
end Go.Proofs.YtmnhfpcbfdgbcaaDoor.Eng.A
