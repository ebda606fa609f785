/- The reader of fields: its methods by their contracts. -/
import Derived.Test.YtmnhfpcbfdgbcaaDoorVget
namespace Go.Proofs.YtmnhfpcbfdgbcaaDoor.Hand
set_option linter.unusedVariables false
set_option linter.unusedSimpArgs false
open Go.RowKit Go.Proofs.YtmnhfpcbfdgbcaaDoorW.PrintWords Go.Proofs.YtmnhfpcbfdgbcaaDoorW.PrintLast Go.Proofs.YtmnhfpcbfdgbcaaDoorW.PrintMore Go.Proofs.YtmnhfpcbfdgbcaaDoor.Plain

theorem add_block (a : Addr) (n : Nat) : (a.add n).block = a.block := by unfold Addr.add; split <;> rfl
/-- Cells that are read lie in one block; what keeps that block keeps what is read (elements that lead to nothing). -/
theorem C_move {α : Type} {d : Kd α} (hd : Flat d) {w w1 : World} {A : Option Addr} {n : Nat} {l : List α} (h : d.C w A n l) (hm : ∀ ad, A = some ad → 0 < n → w1.heap[ad.block]? = w.heap[ad.block]?) : d.C w1 A n l := by
  refine ⟨h.1, h.2.1, fun hn => ?_⟩
  obtain ⟨ad, e, hc⟩ := h.2.2 hn
  refine ⟨ad, e, fun j p hp => ?_⟩
  obtain ⟨c, h1, h2, h3⟩ := hc j p hp
  refine ⟨c, h1, d.K_of_M (hd.km (w' := w1) (base := 0) (ok := fun _ => True) h2), fun i u hu => ?_⟩
  rw [World.cell?_of_block (w := w) (by rw [add_block]; exact hm ad e hn)]
  exact h3 i u hu

theorem drop_u8 (A : Option Addr) (c : Nat) (l : List Int) (m : Nat) (hm : m ≤ l.length) (hc : l.length ≤ c) :
    ∃ A' : Option Addr, (∀ W : World, (Instr.slice 23 (.slice A l.length c) (some (.int .i64 (m : Int))) none none).run Tryd.prog W = .ok (.slice A' (l.drop m).length (c - m)) W) ∧
      (∀ w : World, Kd.C (Kd.int .u8) w A l.length l → Kd.C (Kd.int .u8) w A' (l.drop m).length (l.drop m)) ∧ (l.drop m).length ≤ c - m ∧ (∀ ad', A' = some ad' → ∃ ad, A = some ad ∧ ad'.block = ad.block) := by
  obtain ⟨i0, hi, hz0, hz1, hz2⟩ := info_parts infoU8
  have hl : (l.drop m).length = l.length - m := List.length_drop
  refine ⟨if c = m then A else A.map (·.add m), fun W => ?_, fun w h => ?_, by omega, ?_⟩
  · have hel : Tryd.prog.elem 23 = 5 := by simp [Program.elem, Tryd.underlying23]
    have hu : Tryd.prog.underlying 23 = some (.slice (Tryd.prog.elem 23)) := by rw [hel]; exact Tryd.underlying23
    rw [run_slice_l W 23 A l.length c hu .i64 (m : Int) (Int.natCast_nonneg _) (by omega), hel, hl]
    simp [sizeOf, typeInfo, hi, hz1, sliced, Result.andThen]
  · have h1 := ReadsOf.drop_ (Kd.reads_of_C (d := (0 : Int)) h) (c := c) m hm hc
    rw [hl]
    exact Kd.C_of_reads (d := (0 : Int)) (h1 := fun _ => rfl) h1
  · intro ad' e
    by_cases hcm : c = m
    · rw [if_pos hcm] at e; exact ⟨ad', e, rfl⟩
    · rw [if_neg hcm] at e
      cases A with
      | none => simp at e
      | some ad => simp at e; subst e; exact ⟨ad, rfl, add_block _ _⟩
theorem take_u8 (A : Option Addr) (c : Nat) (l : List Int) (m : Nat) (hm : m ≤ l.length) (hc : l.length ≤ c) :
    (∀ W : World, (Instr.slice 23 (.slice A l.length c) none (some (.int .i64 (m : Int))) none).run Tryd.prog W = .ok (.slice A (l.take m).length c) W) ∧
      (∀ w : World, Kd.C (Kd.int .u8) w A l.length l → Kd.C (Kd.int .u8) w A (l.take m).length (l.take m)) ∧ (l.take m).length ≤ c := by
  obtain ⟨i0, hi, hz0, hz1, hz2⟩ := info_parts infoU8
  obtain ⟨h1, h2, h3⟩ := print_take_of (Value.int .u8) (0 : Int) 23 5 .i64 Tryd.underlying23 hi hz1 A c l (m : Int) (by omega) (by omega) hc
  simp only [Int.toNat_natCast] at h1 h2 h3
  exact ⟨h1, fun w h => Kd.C_of_reads (d := (0 : Int)) (h1 := fun _ => rfl) (h2 w (Kd.reads_of_C h)), h3⟩

/-- A reader at block g: the bytes that are left, and whether something was wrong. -/
def RdAt (w : World) (g : Nat) (l : List Int) (b : Bool) : Prop :=
  ∃ A c, w.heap[g]? = some (.cells #[.slice A l.length c, .bool b] 164 (0, 0)) ∧ l.length ≤ c ∧ Kd.C (Kd.int .u8) w A l.length l ∧ (∀ ad, A = some ad → 0 < l.length → ∃ cells fr, w.heap[ad.block]? = some (.cells cells 5 fr)) ∧ Bts l

theorem RdAt.lt {w : World} {g : Nat} {l : List Int} {b : Bool} (h : RdAt w g l b) : g < w.heap.size := by
  obtain ⟨A, c, h1, _⟩ := h
  exact blk_lt h1
theorem RdAt.grown {w w1 : World} {g : Nat} {l : List Int} {b : Bool} (h : RdAt w g l b) {row : Option Nat} (hg : w.grownBy w1 row) (hr : ∀ k, row = some k → ∃ cells t fr, w.heap[k]? = some (.cells cells t fr) ∧ t ≠ 164 ∧ t ≠ 5) : RdAt w1 g l b := by
  obtain ⟨A, c, h1, h2, h3, h4, h5⟩ := h
  have hne : ∀ k cells t fr, w.heap[k]? = some (.cells cells t fr) → (t = 164 ∨ t = 5) → some k ≠ row := by
    intro k cells t fr hk ht e
    obtain ⟨cells', t', fr', hk', h1', h2'⟩ := hr k e.symm
    rw [hk] at hk'
    injection hk' with hk'
    injection hk' with _ e2 _
    subst e2
    rcases ht with ht | ht
    · exact h1' ht
    · exact h2' ht
  have hA : ∀ ad, A = some ad → 0 < l.length → w1.heap[ad.block]? = w.heap[ad.block]? := by
    intro ad e hl
    obtain ⟨cells, fr, hb⟩ := h4 ad e hl
    exact hg.block _ (blk_lt hb) (hne _ _ _ _ hb (.inr rfl))
  refine ⟨A, c, (hg.block g (blk_lt h1) (hne _ _ _ _ h1 (.inl rfl))).trans h1, h2, C_move (flat_int _) h3 hA, ?_, h5⟩
  intro ad e hl
  obtain ⟨cells, fr, hb⟩ := h4 ad e hl
  exact ⟨cells, fr, (hA ad e hl).trans hb⟩
theorem RdAt.below {w w1 : World} {g : Nat} {l : List Int} {b : Bool} (h : RdAt w g l b) (hb : Below w.heap.size w w1) : RdAt w1 g l b :=
  h.grown (grown_of_below hb none) (by simp)

/-- Both fields of a reader written. -/
theorem RdAt.put {w : World} {g : Nat} {x y : Value} (h : w.heap[g]? = some (.cells #[x, y] 164 (0, 0))) {A : Option Addr} {c : Nat} {l : List Int} (hl : l.length ≤ c) (hc : Kd.C (Kd.int .u8) w A l.length l)
    (hA : ∀ ad, A = some ad → 0 < l.length → ∃ cells fr, w.heap[ad.block]? = some (.cells cells 5 fr)) (hb : Bts l) {b : Bool} (hy : y = .bool b) : RdAt (w.setCell ⟨g, 0, none⟩ (.slice A l.length c)) g l b := by
  subst hy
  have hne : ∀ ad, A = some ad → 0 < l.length → ad.block ≠ g := by
    rintro ad e hl2 rfl
    obtain ⟨cells, fr, hb⟩ := hA ad e hl2
    rw [h] at hb
    injection hb with hb
    injection hb with _ e2 _
    revert e2; decide
  refine ⟨A, c, by simpa using blk_set h 0 (.slice A l.length c), hl, C_move (flat_int _) hc (fun ad e hl2 => Below.heap_setCell w _ _ _ (hne ad e hl2)), ?_, hb⟩
  intro ad e hl2
  obtain ⟨cells, fr, hb⟩ := hA ad e hl2
  exact ⟨cells, fr, (Below.heap_setCell w _ _ _ (hne ad e hl2)).trans hb⟩

set_option maxHeartbeats 1000000 in
theorem rd_fail (g : Nat) (x y : Value) (w : World) (h : w.heap[g]? = some (.cells #[x, y] 164 (0, 0))) :
    Calls Tryd.prog 89 #[.pointer (some ⟨g, 0, none⟩)] w fun e w' => e = .returned (.tuple #[]) ∧ RdAt w' g [] true ∧ w.grownBy w' (some g) := by
  have hc0 : w.cell? ⟨g, 0, none⟩ = some x := (blk_cell h 0).trans rfl
  have hc1 : w.cell? ⟨g, 1, none⟩ = some y := (blk_cell h 1).trans rfl
  have hf0 : w.frozen? ⟨g, 0, none⟩ = false := blk_frozen h 0
  have hf1 : w.frozen? ⟨g, 1, none⟩ = false := blk_frozen h 1
  have H := Aside0.mk h
  clear h
  go_enter Tryd.func89, Tryd.ntmps89
  go_wp2
  go_end0
  refine ⟨rfl, ?_, World.grownBy.trans (row := some g) (grown_set w ⟨g, 0, none⟩ _) (grown_set _ ⟨g, 1, none⟩ _)⟩
  have h2 := blk_set (blk_set H.out 0 (.slice none 0 0)) 1 (.bool true)
  exact ⟨none, 0, by simpa using h2, Nat.le_refl _, ⟨rfl, by simp, fun h => by simp at h⟩, by simp, Bts.nil⟩

set_option maxHeartbeats 1000000 in
theorem rd_byte_nil (w : World) :
    Calls Tryd.prog 25 #[.pointer none] w fun e w' => e = .returned (.int .u8 0) ∧ w' = w := by
  go_enter Tryd.func25, Tryd.ntmps25
  go_wp2
  go_ret
  exact ⟨rfl, rfl⟩
set_option maxHeartbeats 1000000 in
theorem rd_byte (g : Nat) (l : List Int) (b : Bool) (w : World) (h : RdAt w g l b) :
    Calls Tryd.prog 25 #[.pointer (some ⟨g, 0, none⟩)] w fun e w' => e = .returned (.int .u8 (l.headD 0)) ∧ RdAt w' g l.tail (b || l.isEmpty) ∧ w.grownBy w' (some g) := by
  obtain ⟨A, c, h1, h2, h3, h4, h5⟩ := h
  have hc0 : w.cell? ⟨g, 0, none⟩ = some (.slice A l.length c) := (blk_cell h1 0).trans rfl
  have hf0 : w.frozen? ⟨g, 0, none⟩ = false := blk_frozen h1 0
  have H1 := Aside0.mk h1; have H3 := Aside0.mk h3; have H4 := Aside0.mk h4; have H5 := Aside0.mk h5
  clear h1 h3 h4 h5
  cases l with
  | nil =>
    go_enter Tryd.func25, Tryd.ntmps25
    go_wp2_with (go_at_call 89; refine (rd_fail _ _ _ _ H1.out).mono ?_; rintro e w1 ⟨rfl, hr, hg⟩; have HR := Aside0.mk hr; have HG := Aside0.mk hg; clear hr hg)
    go_ret
    exact ⟨rfl, by simpa using HR.out, HG.out⟩
  | cons x t =>
    obtain ⟨ad, ea, hcell⟩ := Kd.at_int H3.out 0 (by omega) (by simp)
    subst ea
    replace hcell : w.cell? ad = some (.int .u8 x) := by simpa [rd, Addr.add] using hcell
    obtain ⟨A', hs, hrd, hle, hA'⟩ := drop_u8 (some ad) c (x :: t) 1 (by simp) h2
    have HRD := Aside0.mk hrd; have HLE := Aside0.mk hle; have HA' := Aside0.mk hA'
    clear hrd hle hA'
    have hs' : ∀ W : World, (Instr.slice 23 (.slice (some ad) (t.length + 1) c) (some (.int .i64 1)) none none).run Tryd.prog W = .ok (.slice A' t.length (c - 1)) W := fun W => by simpa using hs W
    clear hs
    go_enter Tryd.func25, Tryd.ntmps25
    go_wp2
    go_ret
    refine ⟨rfl, ?_, grown_set w ⟨g, 0, none⟩ _⟩
    have hp := RdAt.put (l := t) H1.out (A := A') (c := c - 1) (by have := HLE.out; simp at this; omega) (by simpa using HRD.out w H3.out) (fun ad' e hl => by
      obtain ⟨ad1, e1, e2⟩ := HA'.out ad' e
      rw [e2]; exact H4.out ad1 e1 (by simp)) (fun z hz => H5.out z (List.mem_cons_of_mem _ hz)) rfl
    simpa using hp
end Go.Proofs.YtmnhfpcbfdgbcaaDoor.Hand
