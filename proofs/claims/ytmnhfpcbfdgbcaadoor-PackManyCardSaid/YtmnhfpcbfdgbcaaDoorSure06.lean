/- Chapter 6's law: what must come whatever the input is. -/
import Derived.Test.YtmnhfpcbfdgbcaaDoorPk
import Derived.Lib.SlBytesConst
namespace Go.Proofs.YtmnhfpcbfdgbcaaDoor.Hand
set_option linter.unusedVariables false
set_option linter.unusedSimpArgs false
open Go.RowKit Go.Proofs.YtmnhfpcbfdgbcaaDoorW.PrintWords Go.Proofs.YtmnhfpcbfdgbcaaDoorW.PrintLast Go.Proofs.YtmnhfpcbfdgbcaaDoorW.PrintMore Go.Proofs.YtmnhfpcbfdgbcaaDoor.Plain

theorem C_nil {α : Type} (d : Kd α) (w : World) (A : Option Addr) : d.C w A 0 ([] : List α) := ⟨rfl, by decide, fun h => by simp at h⟩
theorem C_block {k : IntKind} {w : World} {g : Nat} {e : TypeId} {fr : Nat × Nat} (xs : List Int) (h : w.heap[g]? = some (.cells (nums k xs).toArray e fr)) (hm : xs.length ≤ 9223372036854775807) : Kd.C (Kd.int k) w (some ⟨g, 0, none⟩) xs.length xs := by
  refine Kd.C_of_reads (d := (0 : Int)) (h1 := fun _ => rfl) ⟨rfl, hm, fun _ => ⟨_, rfl, fun j hj => ?_⟩⟩
  rw [add_plain, cell_of_row w g j _ e fr h]
  simp [nums, List.getD, hj]
theorem C_of_R {α : Type} {d : Kd α} {e : Nat} {w : World} {base : Nat} {ok : Nat → Prop} {A : Option Addr} {n c : Nat} {xs : List α} (h : d.R e w base ok (.slice A n c) xs) : n = xs.length ∧ xs.length ≤ c ∧ d.C w A xs.length xs := by
  obtain ⟨A', c', e1, h1, h2⟩ := Kd.R_reads h
  injection e1 with e2 e3 e4
  subst e2 e4
  exact ⟨e3, h1, h2⟩

theorem vb2 : vb 2 = [2] := by rw [vb_small (by decide)]; rfl
theorem vb300 : vb 300 = [172, 2] := by rw [vb_big (by decide), vb_small (by decide)]; rfl

set_option maxHeartbeats 4000000 in
set_option maxRecDepth 100000 in
theorem sure_06 (w : World) (hg : GV w) :
    Calls Tryd.prog 18 #[] w fun e w' => e = .returned (.bool true) ∧ Below w.heap.size w w' := by
  have HGV := Aside0.mk hg
  clear hg
  have h1 := pk_byte none 0 [] 9 w (C_nil _ _ _) (Nat.le_refl _) (by simp)
  simp only [List.length_nil, List.nil_append] at h1
  have H1 := Aside0.mk h1
  have kc := fun (w : World) (C : Array Value) (n c : Nat) => Lib.run_convert_bytes_const (P := Tryd.prog) w 23 5 C n c Tryd.underlying23 Tryd.underlying5
  clear h1
  go_enter Tryd.func18, Tryd.ntmps18
  go_wp2_with fail
  ((with_reducible refine H1.out.mono ?_); rintro e w1 ⟨v1, rfl, ho, hb⟩)
  obtain ⟨A1, c1, rfl, hc1, hC1⟩ := Kd.R_reads ho
  have hb2 : Below w.heap.size w (w1.alloc (.cells (nums .u8 [97, 98]).toArray 5 (2, 3))) := below_alloc hb _
  have h2 := pk_bytes A1 (some ⟨w1.heap.size, 0, none⟩) c1 2 [9] [97, 98] (w1.alloc (.cells (nums .u8 [97, 98]).toArray 5 (2, 3))) (Kd.C_below hC1 (below_alloc (Below.refl _ _) _)) hc1 (by simp) (C_block [97, 98] (blk_new w1 _) (by simp)) (by simp) (by simp)
  simp only [List.length_cons, List.length_nil, Nat.zero_add, Nat.reduceAdd, vb2, List.cons_append, List.nil_append, nums, List.map_cons, List.map_nil] at h2 hc1 hb2
  have H2 := Aside0.mk h2; have HB2 := Aside0.mk hb2
  clear ho hb hC1 H1 h2 hb2
  go_wp2_with fail
  ((with_reducible refine H2.out.mono ?_); rintro e w2 ⟨v2, rfl, ho, hb⟩)
  obtain ⟨A2, c2, rfl, hc2, hC2⟩ := Kd.R_reads ho
  have h3 := pk_num A2 c2 _ 300 w2 hC2 hc2 (by simp) (by simp)
  simp only [List.length_cons, List.length_nil, Nat.zero_add, Nat.reduceAdd, vb300, List.cons_append, List.nil_append] at h3 hc2
  rw [show ((300 : Nat) : Int) = 300 from rfl] at h3
  have HB3 := Aside0.mk (below_step HB2.out hb)
  have H3 := Aside0.mk h3
  clear ho hb hC2 H2 h3 HB2
  go_wp2_with fail
  ((with_reducible refine H3.out.mono ?_); rintro e w3 ⟨v3, rfl, ho, hb⟩)
  obtain ⟨A3, c3, rfl, hc3, hC3⟩ := Kd.R_reads ho
  have h4 := rd_new A3 c3 _ w3 hC3 hc3 (by simp) (by intro x hx; simp at hx; omega)
  have HB4 := Aside0.mk (below_step HB3.out hb)
  simp only [List.length_cons, List.length_nil, Nat.zero_add, Nat.reduceAdd] at h4 hc3
  have H4 := Aside0.mk h4
  clear ho hb hC3 H3 h4 HB3
  go_wp2_with fail
  ((with_reducible refine H4.out.mono ?_); rintro e w4 ⟨g, rfl, hge, hrd, hb⟩)
  have HGE : Aside0 (w.heap.size ≤ g) := ⟨Nat.le_trans HB4.out.size hge⟩
  have HB5 := Aside0.mk (below_step HB4.out hb)
  have h5 := rd_byte g _ _ w4 hrd
  simp only [List.headD_cons, List.tail_cons, List.isEmpty_cons, Bool.or_false] at h5
  have H5 := Aside0.mk h5
  clear hge hrd hb h5 H4 HB4
  go_wp2_with fail
  ((with_reducible refine H5.out.mono ?_); rintro e w5 ⟨rfl, hrd, hg⟩)
  have HB6 := Aside0.mk (HB5.out.grown hg (below_size HB5.out) (fun k hk => by cases hk; exact HGE.out))
  have HG5 := Aside0.mk hrd.lt
  have h6 := rd_bytes g _ _ 2 w5 hrd (by decide) (by simp)
  rw [show rdBytes 2 [2, 97, 98, 172, 2] false = ([97, 98], [172, 2], false) from by decide +kernel, show ((2 : Nat) : Int) = 2 from rfl] at h6
  have H6 := Aside0.mk h6
  clear hrd hg h6 H5 HB5
  go_wp2_with fail
  ((with_reducible refine H6.out.mono ?_); rintro e w6 ⟨v6, rfl, ho6, hrd, hg⟩)
  obtain ⟨A6, c6, rfl, hc6, hC6⟩ := Kd.R_reads ho6
  have HB7 := Aside0.mk (HB6.out.grown hg (below_size HB6.out) (fun k hk => by cases hk; exact HGE.out))
  have h7 := rd_num g _ _ 300 w6 hrd (by decide)
  rw [show rdNum 300 [172, 2] false = (300, [], false) from by decide +kernel, show ((300 : Nat) : Int) = 300 from rfl] at h7
  have HO6 := Aside0.mk (Kd.R_mono (ok' := fun k => w5.heap.size ≤ k) (Kd.R_bound ho6) (fun k hk => hk.2.1))
  have H7 := Aside0.mk h7
  clear hrd hg h7 H6 HB6 ho6 hC6
  go_wp2_with fail
  ((with_reducible refine H7.out.mono ?_); rintro e w7 ⟨rfl, hrd, hg⟩)
  have HB8 := Aside0.mk (HB7.out.grown hg (below_size HB7.out) (fun k hk => by cases hk; exact HGE.out))
  have HO7 := Aside0.mk (Kd.R_grown HO6.out hg (fun k hk e => by cases e; have := HG5.out; omega))
  have h8 := rd_done g _ _ w7 hrd
  rw [show rdDone [] false = none from by decide +kernel] at h8
  simp only [errV] at h8
  have H8 := Aside0.mk h8
  have HRD := Aside0.mk hrd
  clear hrd hg HO6 HB7 h8 H7
  go_wp2_with fail
  ((with_reducible refine H8.out.mono ?_); rintro e w8 ⟨rfl, hd⟩)
  have HB9 := Aside0.mk (below_step HB8.out hd.below)
  have HO8 := Aside0.mk (Kd.R_below HO7.out hd.below)
  have hrd := HRD.out.below hd.below
  have h9 := rd_byte g _ _ w8 hrd
  have HG8 := Aside0.mk (Nat.lt_of_lt_of_le HG5.out (Nat.le_refl _))
  simp only [List.headD_nil, List.tail_nil, List.isEmpty_nil, Bool.or_true] at h9
  have H9 := Aside0.mk h9
  clear hd hrd h9 H8 HRD HO7 HB8
  go_wp2_with fail
  ((with_reducible refine H9.out.mono ?_); rintro e w9 ⟨rfl, hrd, hg⟩)
  have HB10 := Aside0.mk (HB9.out.grown hg (below_size HB9.out) (fun k hk => by cases hk; exact HGE.out))
  have HO9 := Aside0.mk (Kd.R_grown HO8.out hg (fun k hk e => by cases e; have := HG5.out; omega))
  have h10 := rd_done g _ _ w9 hrd
  rw [show rdDone [] true = some 3 from by decide +kernel] at h10
  simp only [errV] at h10
  have H10 := Aside0.mk h10
  clear hrd hg h10 H9 HO8 HB9
  go_wp2_with fail
  ((with_reducible refine H10.out.mono ?_); rintro e w10 ⟨rfl, hd⟩)
  have HB11 := Aside0.mk (below_step HB10.out hd.below)
  have HO10 := Aside0.mk (Kd.R_below HO9.out hd.below)
  have hstr := Kd.C_string (P := Tryd.prog) (src := 23) (dst := 9) (c := c6) Tryd.underlying23 Tryd.underlying5 Tryd.underlying9 (C_of_R HO10.out).2.2
  rw [show strOfNums [97, 98] = { data := #[97, 98] } from by decide +kernel] at hstr
  simp only [List.length_cons, List.length_nil, Nat.zero_add, Nat.reduceAdd] at hstr
  clear hd H10 HB10 HO9
  have H11 := Aside0.mk (num_06_some 3 w10 (HGV.out.below HB11.out))
  go_wp2_with fail
  ((with_reducible refine H11.out.mono ?_); rintro e w11 ⟨rfl, hb⟩)
  have HB12 := Aside0.mk (below_step HB11.out hb)
  clear hb H11
  go_wp2
  go_ret
  exact ⟨rfl, HB12.out⟩
end Go.Proofs.YtmnhfpcbfdgbcaaDoor.Hand
