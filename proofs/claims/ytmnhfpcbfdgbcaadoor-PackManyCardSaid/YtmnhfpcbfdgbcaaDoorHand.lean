/- Hand contracts of the leaf functions that many others call: slices.Clone of bytes, and others. -/
import Derived.Test.YtmnhfpcbfdgbcaaDoorProg
import Derived.Below
import Derived.Deep.Draws
import Derived.OwnWalk
import Derived.Tactics
import Derived.WalkKit
import Derived.KernelRfl
import Derived.RowKit3
import Derived.Deep.LoopGhost
import Derived.Deep.QuietTactic
import Derived.BigQuiet
import Derived.WalkSpells
import Derived.RowKit
import Derived.Test.YtmnhfpcbfdgbcaaDoorWWords
import Derived.Test.YtmnhfpcbfdgbcaaDoorWLast
import Derived.Test.YtmnhfpcbfdgbcaaDoorWMore
import Derived.Test.YtmnhfpcbfdgbcaaDoorPlainA
namespace Go.Proofs.YtmnhfpcbfdgbcaaDoor.Hand
set_option linter.unusedVariables false
set_option linter.unusedSimpArgs false
open Go.RowKit Go.Proofs.YtmnhfpcbfdgbcaaDoorW.PrintWords Go.Proofs.YtmnhfpcbfdgbcaaDoorW.PrintLast Go.Proofs.YtmnhfpcbfdgbcaaDoorW.PrintMore Go.Proofs.YtmnhfpcbfdgbcaaDoor.Plain

theorem infoU8 : (Tryd.prog.info? 5).map (fun i => (i.zero, i.size, i.bytes)) = some (some (.int .u8 0), 1, 1) := by kernel_rfl

/-- Kinds whose elements lead to nothing: what is read of them is all that there is. -/
structure Flat {α : Type} (d : Kd α) : Prop where
  km : ∀ {w w' : World} {base : Nat} {ok : Nat → Prop} {x : α} {cs : List Value}, d.K w x cs → d.M w' base ok x cs
theorem flat_int (k : IntKind) : Flat (Kd.int k) := ⟨fun h => h⟩
theorem flat_bool : Flat Kd.bool := ⟨fun h => h⟩
theorem flat_string : Flat Kd.string := ⟨fun h => h⟩
theorem flat_pair {α β : Type} {a : Kd α} {b : Kd β} (ha : Flat a) (hb : Flat b) : Flat (Kd.pair a b) := ⟨by
  rintro w w' base ok x cs ⟨c0, c1, rfl, h0, h1⟩
  exact ⟨c0, c1, rfl, ha.km h0, hb.km h1⟩⟩
theorem flat_iso {α β : Type} {d : Kd α} (f : β → α) (hd : Flat d) : Flat (Kd.iso d f) := ⟨fun h => hd.km h⟩

theorem C_none {α : Type} {d : Kd α} {w : World} {l : List α} (h : d.C w none l.length l) (z : α) : l = [] := by
  cases l with
  | nil => rfl
  | cons x t =>
    exfalso
    obtain ⟨ad, _, e, _⟩ := Kd.C_get h z 0 (by omega) (by simp)
    cases e

theorem R_made0 {α : Type} (d : Kd α) (e base : Nat) (ok : Nat → Prop) (W : World) (hb : base ≤ W.heap.size) (hok : ok W.heap.size) : d.R e (W.alloc (.cells #[] e)) base ok (.slice (some ⟨W.heap.size, 0, none⟩) 0 0) [] :=
  ⟨fun k hk => by simp [Value.ownBlock] at hk; rw [← hk]; exact hok, [], World.ownsRow_made W #[] 0 hb (Nat.zero_le _) (by simp), Reps.none _ _⟩

set_option maxHeartbeats 1000000 in
set_option maxRecDepth 100000 in
theorem clone_u8 (A : Option Addr) (c : Nat) (l : List Int) (w : World) (hr : Kd.C (Kd.int .u8) w A l.length l) (hc : l.length ≤ c) (hl : l.length < 140737488355328) :
    Calls Tryd.prog 86 #[.slice A l.length c] w fun e w' => ∃ v : Value, e = .returned v ∧ Kd.R (Kd.int .u8) 5 w' w.heap.size (fun _ => True) v l ∧ Below w.heap.size w w' := by
  have HR := Aside0.mk hr
  have HL := Aside0.mk hl
  clear hr hl
  have hq : ∀ (w : World) (a : Option Addr) (n c n' c' : Nat), (binOp .eql 23 (.slice a n c) (.slice none n' c')).run Tryd.prog w = .ok (.bool a.isNone) w := fun w a n c n' c' => Lib.run_eql_slice_nil w _ _ a n c n' c' Tryd.underlying23
  cases A with
  | none =>
    obtain rfl := C_none HR.out 0
    go_enter Tryd.func86, Tryd.ntmps86
    go_wp2
    go_ret
    exact ⟨_, rfl, Kd.R_nil _ _ _ _ _, Below.refl _ _⟩
  | some a =>
    go_enter Tryd.func86, Tryd.ntmps86
    go_wp2_with (at_builtin; refine Kd.R_append_rows (Kd.int .u8) (w0 := w) w.heap.size rfl _ _ 23 5 (.int .u8 0) 1 rfl Tryd.underlying23 infoU8 rfl (by decide) (by decide) _ ([] : List Int) l _ _ _ (fun _ => True) (fun _ => False) rfl rfl (R_made0 _ _ _ _ _ (Nat.le_refl _) trivial) (Kd.C_below HR.out (below_alloc (Below.refl _ _) _)) (fun _ _ h => h) (fun _ h => h.elim) (fun _ _ => trivial) (below_alloc (Below.refl _ _) _) (by simp) (by have := HL.out; simp only [List.length_nil]; omega) ?_)
    intro v w1 ho hb hg hat
    go_wp2
    go_ret
    exact ⟨_, rfl, ho, hb⟩

theorem or128_nat (n : Nat) : (n % 256) ||| 128 = n % 128 + 128 := by
  have h : ∀ m, m < 256 → m ||| 128 = m % 128 + 128 := by decide +kernel
  rw [h _ (Nat.mod_lt _ (by decide))]; omega
theorem or128 (n : Nat) : bits BinOp.or .u8 ((n : Int) % 256) 128 = (n : Int) % 128 + 128 := by
  have h : ∀ m, m < 256 → bits BinOp.or .u8 ((m : Nat) : Int) 128 = ((m % 128 + 128 : Nat) : Int) := by decide +kernel
  have e : (n : Int) % 256 = ((n % 256 : Nat) : Int) := by omega
  rw [e, h _ (Nat.mod_lt _ (by decide))]; omega

set_option maxHeartbeats 2000000 in
set_option maxRecDepth 100000 in
theorem varint_put (A : Option Addr) (c : Nat) (l : List Int) (n : Nat) (w : World) (hr : Kd.C (Kd.int .u8) w A l.length l) (hc : l.length ≤ c) (hl : l.length < 140737488355000) (hn : n < 18446744073709551616) :
    Calls Tryd.prog 87 #[.slice A l.length c, .int .u64 n] w fun e w' => ∃ v : Value, e = .returned v ∧ Kd.R (Kd.int .u8) 5 w' w.heap.size (fun _ => True) v (l ++ vb n) ∧ Below w.heap.size w w' := by
  have HR := Aside0.mk hr
  have HL := Aside0.mk hl
  have HN := Aside0.mk hn
  clear hr hl hn
  go_enter Tryd.func87, Tryd.ntmps87
  go_wp2_with (go_at_call 86; refine (clone_u8 _ _ _ _ HR.out hc (by have := HL.out; omega)).mono ?_; rintro e w1 ⟨v, rfl, ho, hb⟩; have HO := Aside0.mk ho; have HB := Aside0.mk hb; clear ho hb)
  go_loopg [1, 5] n (fun kq v1 v5 w' => ∃ (y : List Int), v1 = .int .u64 kq ∧ Aside0 (kq ≤ n) ∧ Aside0 (y ++ vb kq = l ++ vb n) ∧ Aside0 (Kd.R (Kd.int .u8) 5 w' w.heap.size (fun _ => True) v5 y) ∧ Aside0 (Below w.heap.size w w'))
  case atStart => exact ⟨l, rfl, ⟨Nat.le_refl _⟩, ⟨rfl⟩, ⟨HO.out⟩, ⟨HB.out⟩⟩
  case round =>
    obtain ⟨y, rfl, HK, HE, HO, HB⟩ := hrel
    by_cases hx : gk < 128
    · go_wp2_with (at_builtin; go_must (refine Kd.R_append (Kd.int .u8) (w0 := w) w.heap.size rfl _ _ 23 5 (.int .u8 0) 1 rfl Tryd.underlying23 infoU8 rfl (by decide) (by decide) u5 y (gk : Int) [.int .u8 gk] (fun _ => True) (fun _ => False) rfl rfl ?aP (fun _ hk => hk.elim) (fun _ _ => trivial) HO.out HB.out (below_size HB.out) ?aL ?_))
      case aP => exact rfl
      case aL => have := HL.out; have h1 := congrArg List.length HE.out; have := vb_len10 HN.out; simp at h1; rw [vb_small hx] at h1; simp at h1; omega
      intro v2 w2 ho2 hb2 hg hat
      go_wp2
      go_ret
      exact ⟨_, rfl, by rw [← HE.out, vb_small hx]; exact ho2, hb2⟩
    · have hor := or128 gk
      go_wp2_with (at_builtin; go_must (refine Kd.R_append (Kd.int .u8) (w0 := w) w.heap.size rfl _ _ 23 5 (.int .u8 0) 1 rfl Tryd.underlying23 infoU8 rfl (by decide) (by decide) u5 y ((gk : Int) % 128 + 128) [.int .u8 ((gk : Int) % 128 + 128)] (fun _ => True) (fun _ => False) rfl rfl ?aP (fun _ hk => hk.elim) (fun _ _ => trivial) HO.out HB.out (below_size HB.out) ?aL ?_))
      case aP => exact rfl
      case aL => have := HL.out; have h1 := congrArg List.length HE.out; have := vb_len10 HN.out; simp at h1; omega
      intro v2 w2 ho2 hb2 hg hat
      have HO2 := Aside0.mk ho2
      have HB2 := Aside0.mk hb2
      clear ho2 hb2 hg hat
      go_wp2
      go_roundg (gk / 128)
      case measure => omega
      case rel => exact ⟨_, by first | rfl | simp, ⟨by have := HK.out; omega⟩, ⟨by rw [← HE.out, vb_big hx]; simp⟩, HO2, HB2⟩
end Go.Proofs.YtmnhfpcbfdgbcaaDoor.Hand
