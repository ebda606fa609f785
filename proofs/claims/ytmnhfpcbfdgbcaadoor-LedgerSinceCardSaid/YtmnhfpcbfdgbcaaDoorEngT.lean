/- The engine: what is known of variables, weakened. -/
import Derived.Test.YtmnhfpcbfdgbcaaDoorEngS
namespace Go.Proofs.YtmnhfpcbfdgbcaaDoor.Eng
set_option linter.unusedVariables false
set_option linter.unusedSimpArgs false
open Go.RowKit
def BxLe : List Bx → List Bx → Prop
  | [], [] => True
  | B :: bs, C :: cs => B.t = C.t ∧ LeL B.cs C.cs ∧ BxLe bs cs
  | _, _ => False
theorem BxLe.length : ∀ {bs cs : List Bx}, BxLe bs cs → bs.length = cs.length
  | [], [], _ => rfl
  | _ :: _, _ :: _, ⟨_, _, h⟩ => by simp [BxLe.length h]
  | [], _ :: _, h => h.elim
  | _ :: _, [], h => h.elim
theorem BxLe.get : ∀ {bs cs : List Bx}, BxLe bs cs → ∀ (i : Nat) (C : Bx), cs[i]? = some C → ∃ B, bs[i]? = some B ∧ B.t = C.t ∧ LeL B.cs C.cs
  | [], [], _, i, C, h => by simp at h
  | B :: _, D :: _, ⟨h1, h2, _⟩, 0, C, h => by simp at h; subst h; exact ⟨B, rfl, h1, h2⟩
  | _ :: _, _ :: _, ⟨_, _, h3⟩, i + 1, C, h => by
    simp only [List.getElem?_cons_succ] at h ⊢
    exact BxLe.get h3 i C h
  | [], _ :: _, h, _, _, _ => h.elim
  | _ :: _, [], h, _, _, _ => h.elim
theorem LeL.length : ∀ {ps qs : List Pd}, LeL ps qs → ps.length = qs.length
  | [], [], _ => rfl
  | _ :: _, _ :: _, ⟨_, h⟩ => by simp [LeL.length h]
  | [], _ :: _, h => h.elim
  | _ :: _, [], h => h.elim
theorem LeL.refl : ∀ ps : List Pd, LeL ps ps
  | [] => trivial
  | _ :: ps => ⟨Pd.le_refl _, LeL.refl ps⟩
theorem bxle_nil : BxLe [] [] := trivial
theorem bxle_cons {B C : Bx} {bs cs : List Bx} (ht : B.t = C.t) (h : LeL B.cs C.cs) (hr : BxLe bs cs) : BxLe (B :: bs) (C :: cs) := ⟨ht, h, hr⟩
theorem bxle_same {B : Bx} {bs cs : List Bx} (hr : BxLe bs cs) : BxLe (B :: bs) (B :: cs) := ⟨rfl, LeL.refl _, hr⟩
theorem aw_wk {P : Program} {nt : Nat} {c : Code} {Q : Exit → Env → St → Prop} {e : Env} {s : St} {bs bs' : List Bx} {fs : List Fr} (h : BxLe bs bs') (hb : ∀ B ∈ bs', ∀ q ∈ B.cs, q.Bnd (s.boxes.length + bs'.length) (s.fr.length + fs.length)) (h2 : AW P nt c Q e (s.ext bs' fs)) : AW P nt c Q e (s.ext bs fs) := by
  intro g a w he hs
  refine h2 g a w he ?_
  have hl := h.length
  refine ⟨by rw [hs.len, ext_boxes_length, ext_boxes_length, hl], hs.nd, fun i B hB => ?_, hs.ow, hs.sl, hs.st, hs.sb, hs.bz⟩
  by_cases hi : i < s.boxes.length
  · have hB' : (s.ext bs fs).boxes[i]? = some B := by
      simp only [St.ext, List.getElem?_append_left hi] at hB ⊢; exact hB
    obtain ⟨k, vs, e1, e2, e3, e4, e5, e6⟩ := hs.bx i B hB'
    exact ⟨k, vs, e1, e2, e3, e4, e5, by rw [ext_boxes_length, ← hl, ← ext_boxes_length s bs fs]; exact e6⟩
  · simp only [St.ext, List.getElem?_append_right (Nat.le_of_not_lt hi)] at hB
    obtain ⟨D, hD, ht, hle⟩ := h.get _ B hB
    obtain ⟨k, vs, e1, e2, e3, e4, e5, e6⟩ := hs.bx i D (by simp only [St.ext, List.getElem?_append_right (Nat.le_of_not_lt hi)]; exact hD)
    refine ⟨k, vs, e1, by rw [← ht]; exact e2, ?_, fun hn => e4 (fun h0 => hn ?_), e5, fun q hq => ?_⟩
    · show Pds _ _ _ _
      have e3' : Pds g w D.cs (vs.toList.take D.cs.length) := e3
      rw [← hle.length]
      exact hle.pds e3'
    · have := hle.length
      rw [h0] at this
      exact List.length_eq_zero_iff.1 this.symm
    · rw [ext_boxes_length, ext_fr_length]
      exact hb B (List.mem_of_getElem? hB) q hq
end Go.Proofs.YtmnhfpcbfdgbcaaDoor.Eng
