/- Requests, in plain Lean: the law RequestKinds. -/
import Derived.Test.YtmnhfpcbfdgbcaaDoorEV2
import Derived.Test.YtmnhfpcbfdgbcaaDoorEU6
namespace Go.Proofs.YtmnhfpcbfdgbcaaDoor.Eng.A
set_option linter.unusedVariables false
set_option linter.unusedSimpArgs false
open Go.RowKit Go.Proofs.YtmnhfpcbfdgbcaaDoor.Plain Go.Proofs.YtmnhfpcbfdgbcaaDoor.Eng Go.Proofs.YtmnhfpcbfdgbcaaDoor.Eng.Pk Go.Proofs.YtmnhfpcbfdgbcaaDoor.Eng.Rd Go.Proofs.YtmnhfpcbfdgbcaaDoor.Eng.Er

def qk (k : Int) (s : ByteArray) (f : Bool) : Rq := ⟨k, 0, 0, ⟨0, 0⟩, 0, s, ⟨#[]⟩, 0, 0, f⟩
theorem mayK {k : Int} {s : ByteArray} {f : Bool} (hf : formS k ≠ ⟨#[]⟩) (hs : s.size ≤ 39) : MayQ (qk k s f) ↔ (hasB k 107 = false → s = ⟨#[]⟩) ∧ (hasB k 102 = false → f = false) := by
  constructor
  · intro h; exact ⟨h.nokey, h.noflag⟩
  · rintro ⟨h1, h2⟩
    exact ⟨hf, (show (0 : Int) ≤ _ by decide), (show (0 : Int) ≤ _ by decide), (show (0 : Int) ≤ _ by decide), (show (0 : Int) ≤ 0 ∧ (0 : Int) ≤ 63 by decide), (show (0 : Int) ≤ _ by decide), hs, (show ByteArray.size ⟨#[]⟩ ≤ _ by decide), (show (0 : Int) ≤ _ by decide), (show (0 : Int) ≤ _ by decide), fun _ => rfl, fun _ => rfl, fun _ => rfl, fun _ => rfl, h1, fun _ => rfl, fun _ => rfl, fun _ => rfl, h2⟩
theorem okK {k : Int} {s : ByteArray} {f : Bool} (hk : 0 ≤ k ∧ k < 256) (hs : s.size ≤ 39) : RqOk (qk k s f) :=
  ⟨hk, (show U64 0 by decide), (show U64 0 by decide), (show I64 0 by decide), (show U64 0 by decide), (show U64 0 by decide), (show s.size ≤ 100000 by omega), (show ByteArray.size ⟨#[]⟩ ≤ _ by decide), (show 0 ≤ (0 : Int) ∧ (0 : Int) < 256 by decide), (show U64 0 by decide)⟩
theorem vb0 : vb 0 = [0] := vb_small (by decide)
theorem loopK {k : Int} (h : formS k ≠ ⟨#[]⟩) (hk : 0 ≤ k) : lp (F_qKinds_b0 (formS k)) 7 (false, false, 0) = some (hasB k 102, hasB k 107) := by
  rcases kinds k hk with rfl | rfl | rfl | rfl | rfl | rfl | rfl | rfl | rfl | rfl | rfl | rfl | rfl | h2
  all_goals first | rfl | skip
  exact absurd (formS_big h2) h
theorem rangeK {k : Int} (hk : 0 ≤ k) : (decide (1 ≤ k) && decide (k ≤ 12)) = decide (formS k ≠ ⟨#[]⟩) := by
  rcases kinds k hk with rfl | rfl | rfl | rfl | rfl | rfl | rfl | rfl | rfl | rfl | rfl | rfl | rfl | h2
  all_goals first | decide | skip
  rw [formS_big h2]
  have : decide (k ≤ 12) = false := by simp; omega
  rw [this]; simp
theorem lenK {k : Int} (h : formS k ≠ ⟨#[]⟩) (hk : 0 ≤ k) : ∃ a l, encQ (qk k ⟨#[]⟩ false) = k :: a :: l := by
  rcases kinds k hk with rfl | rfl | rfl | rfl | rfl | rfl | rfl | rfl | rfl | rfl | rfl | rfl | rfl | h2
  · exact absurd rfl h
  all_goals first
    | exact absurd (formS_big h2) h
    | (simp [encQ, qk, formS, putL, bytesOf, vb0]; done)
theorem qKinds_eq {k : Int} {p1 : Rq} (hk : 0 ≤ k ∧ k < 256) : F_qKinds 7 k p1 = some true := by
  have hs := sure35_eq (fl := 7) (by decide)
  have ok := okK (s := ⟨#[]⟩) (f := false) hk (by decide)
  have e1 := qenc_eq ok (fl := 7) (by decide)
  have c1 := qcheck_eq (okK (s := ⟨#[]⟩) (f := true) hk (by decide)) (fl := 7) (by decide)
  have c2 := qcheck_eq (okK (s := ⟨#[97]⟩) (f := false) hk (by decide)) (fl := 7) (by decide)
  unfold qk at e1 c1 c2
  unfold F_qKinds
  rw [e1, bnd_s, rangeK hk.1, hs, c1, c2, qform_eq]
  by_cases h : formS k = ⟨#[]⟩
  · have hm : mayQ (qk k ⟨#[]⟩ false) = false := mayQ_f fun m => m.form h
    unfold qk at hm
    rw [hm, h]
    simp [gif_s, grd]
  · have hm : mayQ (qk k ⟨#[]⟩ false) = true := mayQ_iff.2 ((mayK h (by decide)).2 ⟨fun _ => rfl, fun _ => rfl⟩)
    have m1 : mayQ (qk k ⟨#[]⟩ true) = hasB k 102 := by
      rw [Bool.eq_iff_iff, mayQ_iff, mayK h (by decide)]
      cases hasB k 102 <;> simp
    have m2 : mayQ (qk k ⟨#[97]⟩ false) = hasB k 107 := by
      rw [Bool.eq_iff_iff, mayQ_iff, mayK h (by decide)]
      have : ¬ (⟨#[97]⟩ : ByteArray) = ⟨#[]⟩ := by decide
      cases hasB k 107 <;> simp [this]
    obtain ⟨a, l, hE⟩ := lenK h hk.1
    unfold qk at hm m1 m2 hE
    rw [hm, m1, m2, if_pos rfl, hE]
    have hlen : decide (((k :: a :: l).length : Int) < 2) = false := by simp; omega
    have hB : Below 0 (k :: a :: l).length := ⟨by omega, by simp⟩
    have hne : decide (formS k ≠ ⟨#[]⟩) = true := by simpa using h
    have heq : decide (formS k = ⟨#[]⟩) = false := by simpa using h
    dsimp only
    rw [grd_t (fun _ => hB), hlen, hne]
    simp only [Option.isNone_none, Option.isSome_none, bnd_s, gif_s, loopK h hk.1, List.getD_cons_zero, Int.toNat_zero, bne_self_eq_false, ne_eq, not_true_eq_false, decide_false, Bool.or_false, Bool.false_or, Bool.and_false, Bool.true_and, BEq.rfl, if_true, heq, ifb_0]
    generalize (decide (100 < (p1.Key.size : Int)) || decide (3000 < (p1.Value.size : Int))) = D
    cases D <;> cases hasB k 102 <;> cases hasB k 107 <;> rfl
end Go.Proofs.YtmnhfpcbfdgbcaaDoor.Eng.A
